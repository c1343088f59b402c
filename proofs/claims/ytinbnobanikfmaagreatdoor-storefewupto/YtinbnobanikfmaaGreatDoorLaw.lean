/- Proved: StoreFew answers true at all arguments of bounded bulk. No condition beyond the statement's: the listed variables as the program's text lays them (the card). (This text joins: Plain words for this seat (22). Plain words for this seat (23). Plain words for this seat (24). A store, in plain words. The plain law of StoreFew.) -/
import Derived.Test.YtinbnobanikfmaaGreatDoorSeat7
import Derived.KernelRfl
import Derived.Test.YtinbnobanikfmaaGreatDoorCards
import Derived.Test.YtinbnobanikfmaaGreatDoorTie
import Derived.Deep.DeepHandedRow
import Derived.OpenShut
import Derived.Test.YtinbnobanikfmaaGreatDoorSeat1
import Derived.Test.YtinbnobanikfmaaGreatDoorSeat6
set_option linter.unusedVariables false
set_option linter.unusedSimpArgs false
namespace Go.Proofs.YtinbnobanikfmaaGreatDoor.N
open Go
structure Valid (home : Nat) (l : List TPut) : Prop where
  len : l.length ≤ 16
  each : ∀ p ∈ l, okP home p
  sorted : l.Pairwise fun p q => p.At < q.At
theorem may_ok (d : TDisk) (home : Nat) (l : List TPut) (hv : Valid home l) (hn : home + l.length < d.Last.length) (hN : d.Last.length ≤ 1000) : jrnl_may fuel d (home : Int) l = some true := by
  unfold jrnl_may jrnl_may_k jrnl_may_l0
  have hlen := hv.len
  obtain ⟨x, e, hx⟩ := iter_inv (step := jrnl_may_s0 (home : Int) l l (l.length : Int) d) (fun k v => ∃ i : Nat, v.2 = (i : Int) ∧ i + k = l.length ∧ ∀ p ∈ l.drop i, v.1 < p.At) (fun r => r = .inr ()) (fun k v hI => by
    obtain ⟨v1, v2⟩ := v
    obtain ⟨i, h1, hk, h2⟩ := hI
    simp only at h1 h2
    subst h1
    simp only [jrnl_may_s0, jrnl_may_s0k]
    by_cases hlt : i < l.length
    · have hdr : l.drop i = l[i] :: l.drop (i + 1) := List.drop_eq_getElem_cons hlt
      have hs := hv.sorted.sublist (List.drop_sublist i l)
      rw [hdr] at h2 hs
      obtain ⟨g0, g1, g2⟩ := hv.each _ (List.getElem_mem hlt)
      have g3 := h2 _ (List.mem_cons_self ..)
      rw [lt_dec hlt, inR_nat hlt, Int.toNat_natCast, List.getElem?_eq_getElem hlt]
      simp only [cond_true, some_bind]
      rw [decide_eq_false (show ¬ l[i].At ≤ v1 by omega), decide_eq_false (show ¬ l[i].At ≥ (home : Int) by omega), g2, wi64_succ (by omega)]
      exact ⟨_, rfl, k - 1, by omega, i + 1, rfl, by omega, fun p hp => List.rel_of_pairwise_cons hs hp⟩
    · obtain rfl : i = l.length := by omega
      rw [ge_dec]
      exact ⟨_, rfl, rfl⟩) l.length (-1, 0) fuel ⟨0, rfl, by omega, fun p hp => by have := (hv.each p hp).1; show (-1 : Int) < p.At; omega⟩ (fuel_gt (by omega))
  rw [e, hx, some_bind]
  simp only [alt_inr]
  rw [decide_eq_true (show (l.length : Int) ≤ 16 by omega), wi64_of (by omega) (by omega), decide_eq_true (show (home : Int) + (l.length : Int) < (d.Last.length : Int) by omega)]
  rfl
def headB (l : List TPut) : List UInt8 := 1 :: b8 (l.length : Int) :: (l.map (fun p => b8 p.At) ++ (List.replicate (29 - l.length) 0 ++ [1]))
theorem headB_len (l : List TPut) (h : l.length ≤ 16) : (headB l).length = 32 := by
  unfold headB
  simp only [List.length_cons, List.length_append, List.length_map, List.length_replicate, List.length_nil]
  omega
def headS (l : List TPut) (i : Nat) : List UInt8 := 1 :: b8 (l.length : Int) :: ((l.take i).map (fun p => b8 p.At) ++ (List.replicate (29 - i) 0 ++ [1]))
theorem headS_step (l : List TPut) (i : Nat) (h : i < l.length) (h16 : l.length ≤ 16) : (headS l i).set (2 + i) (b8 l[i].At) = headS l (i + 1) := by
  unfold headS
  rw [show 2 + i = i + 1 + 1 by omega, List.set_cons_succ, List.set_cons_succ]
  congr 2
  rw [List.set_append_right _ _ (by rw [List.length_map, List.length_take]; omega), List.length_map, List.length_take, show i - min i l.length = 0 by omega, show 29 - i = (29 - (i + 1)) + 1 by omega, List.replicate_succ, List.cons_append, List.set_cons_zero, List.take_add_one, List.getElem?_eq_getElem h, List.map_append, List.append_assoc]
  rfl
theorem head_ok (l : List TPut) (h16 : l.length ≤ 16) (hp : ∀ p ∈ l, 0 ≤ p.At ∧ p.At < 256) : jrnl_head fuel l = some (headB l) := by
  unfold jrnl_head jrnl_head_k
  have e0 : (([0, 0, 0, 0, 0, 0, 0, 0, 0, 0, 0, 0, 0, 0, 0, 0, 0, 0, 0, 0, 0, 0, 0, 0, 0, 0, 0, 0, 0, 0, 0, 0] : List Nat).set 0 1)[1]? = some 0 := rfl
  have e1 : ((([0, 0, 0, 0, 0, 0, 0, 0, 0, 0, 0, 0, 0, 0, 0, 0, 0, 0, 0, 0, 0, 0, 0, 0, 0, 0, 0, 0, 0, 0, 0, 0] : List UInt8).set 0 1).set 1 (b8 (wu8 (l.length : Int))))[31]? = some 0 := rfl
  have e2 : inR 1 (([0, 0, 0, 0, 0, 0, 0, 0, 0, 0, 0, 0, 0, 0, 0, 0, 0, 0, 0, 0, 0, 0, 0, 0, 0, 0, 0, 0, 0, 0, 0, 0] : List Nat).set 0 1).length = true := rfl
  have e3 : inR 31 ((([0, 0, 0, 0, 0, 0, 0, 0, 0, 0, 0, 0, 0, 0, 0, 0, 0, 0, 0, 0, 0, 0, 0, 0, 0, 0, 0, 0, 0, 0, 0, 0] : List UInt8).set 0 1).set 1 (b8 (wu8 (l.length : Int)))).length = true := rfl
  rw [e2, e0, e3, e1]
  simp only [cond_true, some_bind]
  have e4 : ((([0, 0, 0, 0, 0, 0, 0, 0, 0, 0, 0, 0, 0, 0, 0, 0, 0, 0, 0, 0, 0, 0, 0, 0, 0, 0, 0, 0, 0, 0, 0, 0] : List UInt8).set 0 1).set 1 (b8 (wu8 (l.length : Int)))).set 31 1 = headS l 0 := by
    rw [wu8_of (by omega) (by omega)]
    rfl
  rw [e4]
  unfold jrnl_head_l0
  obtain ⟨x, e, hx⟩ := iter_inv (step := jrnl_head_s0 l (l.length : Int)) (fun k v => ∃ i : Nat, v.1 = (i : Int) ∧ i + k = l.length ∧ v.2 = headS l i) (fun r => r = headB l) (fun k v hI => by
    obtain ⟨v1, v2⟩ := v
    obtain ⟨i, h1, hk, h2⟩ := hI
    simp only at h1 h2
    subst h1 h2
    simp only [jrnl_head_s0, jrnl_head_s0k]
    by_cases hlt : i < l.length
    · obtain ⟨g0, g1⟩ := hp _ (List.getElem_mem hlt)
      have hlen : 2 + i < (headS l i).length := by
        unfold headS
        simp only [List.length_cons, List.length_append, List.length_map, List.length_replicate, List.length_nil, List.length_take]
        omega
      rw [lt_dec hlt, inR_nat hlt, Int.toNat_natCast, List.getElem?_eq_getElem hlt]
      simp only [cond_true, some_bind]
      rw [wi64_of (show -9223372036854775808 ≤ 2 + (i : Int) by omega) (by omega), show 2 + (i : Int) = ((2 + i : Nat) : Int) by omega, inR_nat hlen, Int.toNat_natCast, List.getElem?_eq_getElem hlen]
      simp only [cond_true, some_bind]
      rw [wu8_of g0 g1, headS_step l i hlt h16, wi64_succ (by omega)]
      exact ⟨_, rfl, k - 1, by omega, i + 1, rfl, by omega, rfl⟩
    · obtain rfl : i = l.length := by omega
      rw [ge_dec]
      refine ⟨_, rfl, ?_⟩
      unfold headS headB
      rw [List.take_length]
      rfl) l.length (0, headS l 0) fuel ⟨0, rfl, by omega, rfl⟩ (fuel_gt (by omega))
  rw [e, hx]
  rfl
def copies : Nat → List TPut → List TPut
  | _, [] => []
  | n, p :: r => ⟨(n : Int), p.B⟩ :: copies (n + 1) r
theorem copies_len : ∀ (n : Nat) (l : List TPut), (copies n l).length = l.length
  | _, [] => rfl
  | n, p :: r => by rw [copies, List.length_cons, List.length_cons, copies_len]
theorem copies_at : ∀ (n : Nat) (l : List TPut) (q : TPut), q ∈ copies n l → ∃ p ∈ l, (n : Int) ≤ q.At ∧ q.At < ((n + l.length : Nat) : Int) ∧ q.B = p.B
  | _, [], _, h => by cases h
  | n, p :: r, q, h => by
    rw [copies] at h
    rcases List.mem_cons.1 h with rfl | h
    · exact ⟨p, List.mem_cons_self .., by show (n : Int) ≤ n; omega, by show (n : Int) < _; rw [List.length_cons]; omega, rfl⟩
    · obtain ⟨p', h1, h2, h3, h4⟩ := copies_at (n + 1) r q h
      exact ⟨p', List.mem_cons_of_mem _ h1, by omega, by rw [List.length_cons]; omega, h4⟩
theorem copy_loop (home : Nat) (l t : List TPut) (o : TDisk) (ok : Bool) (r4 : List (List UInt8)) (r5 : List TPut) (hh : home ≤ 1000) (hl : t.length ≤ 16) : ∀ (r : List TPut) (i : Nat) (d : TDisk) (x : TDisk) (n : Nat), t.drop i = r → i ≤ t.length → r.length < n → DOk d → d.Down = false → d.Wait.length + r.length < 1000 → (∀ p ∈ copies (home + 1 + i) r, okP d.Last.length p) →
    ∃ z, iter (jrnl_Commit_s0 (home : Int) l t (t.length : Int) o ok r4 r5) n ((i : Int), x, ⟨d⟩) = some z ∧ (((wmany d (copies (home + 1 + i) r)).2 = true ∧ ∃ y, z = .inr (y, ⟨(wmany d (copies (home + 1 + i) r)).1⟩)) ∨ ((wmany d (copies (home + 1 + i) r)).2 = false ∧ ∃ y u, z = .inl (y, ⟨(wmany d (copies (home + 1 + i) r)).1⟩, u)))
  | _, _, _, _, 0, _, _, h, _, _, _, _ => absurd h (Nat.not_lt_zero _)
  | [], i, d, x, n + 1, hdr, hi, _, hd, hdn, _, _ => by
    obtain rfl : i = t.length := Nat.le_antisymm hi (List.drop_eq_nil_iff.1 hdr)
    rw [iter_succ]
    simp only [jrnl_Commit_s0, jrnl_Commit_s0k, ge_dec, cond_false]
    exact ⟨_, rfl, .inl ⟨rfl, _, rfl⟩⟩
  | p :: r, i, d, x, n + 1, hdr, hi, hn, hd, hdn, hw, hp => by
    have hlt : i < t.length := by
      rcases Nat.lt_or_ge i t.length with h | h
      · exact h
      · rw [List.drop_eq_nil_iff.2 h] at hdr; cases hdr
    have hd2 : t.drop i = t[i] :: t.drop (i + 1) := List.drop_eq_getElem_cons hlt
    rw [hdr] at hd2
    obtain ⟨e1, e2⟩ := List.cons.inj hd2
    rw [iter_succ]
    simp only [jrnl_Commit_s0, jrnl_Commit_s0k]
    rw [List.length_cons] at hw hn
    have hpk := hp _ (by rw [copies]; exact List.mem_cons_self ..)
    rw [lt_dec hlt, inR_nat hlt, Int.toNat_natCast, List.getElem?_eq_getElem hlt, ← e1]
    simp only [cond_true, some_bind]
    rw [wi64_of (show -9223372036854775808 ≤ (home : Int) + 1 by omega) (by omega), wi64_of (show -9223372036854775808 ≤ (home : Int) + 1 + (i : Int) by omega) (by omega), show (home : Int) + 1 + (i : Int) = ((home + 1 + i : Nat) : Int) by omega, write2_ok d hd (by omega) hdn _ _ hpk, some_bind, copies, wmany]
    unfold wout
    cases hD : (wput d ⟨((home + 1 + i : Nat) : Int), p.B⟩).Down with
    | true => exact ⟨_, rfl, .inr ⟨rfl, _, _, rfl⟩⟩
    | false =>
      simp only [cond_false, alt_inl]
      rw [wi64_succ (by omega)]
      exact copy_loop home l t o ok r4 r5 hh hl r (i + 1) (wput d ⟨((home + 1 + i : Nat) : Int), p.B⟩) _ n e2.symm hlt (by omega) (wput_ok hd (by omega) hpk) hD (by rw [wput_wait]; simp; omega) (fun q hq => by rw [wput_last]; exact hp q (by rw [copies]; exact List.mem_cons_of_mem _ hq))
theorem put_loop2 (t : List TPut) (o : TDisk) (ok : Bool) (r4 : List (List UInt8)) (r5 : List TPut) (hl : t.length ≤ 16) : ∀ (r : List TPut) (i : Nat) (d : TDisk) (x : TDisk) (n : Nat), t.drop i = r → i ≤ t.length → r.length < n → DOk d → d.Down = false → d.Wait.length + r.length < 1000 → (∀ p ∈ r, okP d.Last.length p) →
    ∃ z, iter (jrnl_Commit_s1 t (t.length : Int) o ok r4 r5) n ((i : Int), x, ⟨d⟩) = some z ∧ (((wmany d r).2 = true ∧ ∃ y, z = .inr (y, ⟨(wmany d r).1⟩)) ∨ ((wmany d r).2 = false ∧ ∃ y u, z = .inl (y, ⟨(wmany d r).1⟩, u)))
  | _, _, _, _, 0, _, _, h, _, _, _, _ => absurd h (Nat.not_lt_zero _)
  | [], i, d, x, n + 1, hdr, hi, _, hd, hdn, _, _ => by
    obtain rfl : i = t.length := Nat.le_antisymm hi (List.drop_eq_nil_iff.1 hdr)
    rw [iter_succ]
    simp only [jrnl_Commit_s1, jrnl_Commit_s1k, ge_dec, cond_false]
    exact ⟨_, rfl, .inl ⟨rfl, _, rfl⟩⟩
  | p :: r, i, d, x, n + 1, hdr, hi, hn, hd, hdn, hw, hp => by
    have hlt : i < t.length := by
      rcases Nat.lt_or_ge i t.length with h | h
      · exact h
      · rw [List.drop_eq_nil_iff.2 h] at hdr; cases hdr
    have hd2 : t.drop i = t[i] :: t.drop (i + 1) := List.drop_eq_getElem_cons hlt
    rw [hdr] at hd2
    obtain ⟨e1, e2⟩ := List.cons.inj hd2
    rw [iter_succ]
    simp only [jrnl_Commit_s1, jrnl_Commit_s1k]
    rw [List.length_cons] at hw hn
    have hpk := hp p (List.mem_cons_self ..)
    rw [lt_dec hlt, inR_nat hlt, Int.toNat_natCast, List.getElem?_eq_getElem hlt, ← e1]
    simp only [cond_true, some_bind]
    rw [write2_ok d hd (by omega) hdn _ _ hpk, some_bind, wmany]
    unfold wout
    cases hD : (wput d p).Down with
    | true => exact ⟨_, rfl, .inr ⟨rfl, _, _, rfl⟩⟩
    | false =>
      simp only [cond_false, alt_inl]
      rw [wi64_succ (by omega)]
      exact put_loop2 t o ok r4 r5 hl r (i + 1) (wput d p) _ n e2.symm hlt (by omega) (wput_ok hd (by omega) hpk) hD (by rw [wput_wait]; simp; omega) (fun q hq => by rw [wput_last]; exact hp q (List.mem_cons_of_mem _ hq))
def rounds (d : TDisk) (home : Nat) (l : List TPut) : TDisk × Bool :=
  bif (wput d ⟨(home : Int), zeros⟩).Down then (wput d ⟨(home : Int), zeros⟩, false)
  else bif (wmany (flushed (wput d ⟨(home : Int), zeros⟩)) (copies (home + 1) l)).2 then
    (bif (wput (flushed (wmany (flushed (wput d ⟨(home : Int), zeros⟩)) (copies (home + 1) l)).1) ⟨(home : Int), headB l⟩).Down then (wput (flushed (wmany (flushed (wput d ⟨(home : Int), zeros⟩)) (copies (home + 1) l)).1) ⟨(home : Int), headB l⟩, false)
    else bif (wmany (flushed (wput (flushed (wmany (flushed (wput d ⟨(home : Int), zeros⟩)) (copies (home + 1) l)).1) ⟨(home : Int), headB l⟩)) l).2 then (flushed (wmany (flushed (wput (flushed (wmany (flushed (wput d ⟨(home : Int), zeros⟩)) (copies (home + 1) l)).1) ⟨(home : Int), headB l⟩)) l).1, true)
      else ((wmany (flushed (wput (flushed (wmany (flushed (wput d ⟨(home : Int), zeros⟩)) (copies (home + 1) l)).1) ⟨(home : Int), headB l⟩)) l).1, false))
  else ((wmany (flushed (wput d ⟨(home : Int), zeros⟩)) (copies (home + 1) l)).1, false)
theorem wmany_last : ∀ (ws : List TPut) (d : TDisk), (wmany d ws).1.Last = d.Last
  | [], d => rfl
  | p :: r, d => by
    rw [wmany]
    cases (wput d p).Down with
    | true => exact wput_last d p
    | false => rw [cond_false, wmany_last r, wput_last]
theorem flushed_len (d : TDisk) : (flushed d).Last.length = d.Last.length := wr_len d.Wait d.Last
theorem Commit_ok (d : TDisk) (hd : DOk d) (hdn : d.Down = false) (hW : d.Wait.length < 1000) (home : Nat) (l : List TPut) (hl : l ≠ []) (hv : Valid home l) (hn : home + l.length < d.Last.length) (hh : home ≤ 256) : jrnl_Commit fuel d (home : Int) l = some (rounds d home l) := by
  unfold jrnl_Commit jrnl_Commit_k rounds
  have h16 := hv.len
  have hlp : 0 < l.length := List.length_pos_iff.2 hl
  have hN := hd.len
  rw [show ((l.length : Int) == 0) = false from beq_ne (by omega), may_ok d home l hv hn hN]
  simp only [cond_false, some_bind, Bool.not_true]
  have hz : okP d.Last.length ⟨(home : Int), zeros⟩ := ⟨by show (0 : Int) ≤ home; omega, by show (home : Int) < _; omega, rfl⟩
  have w1 := write1_ok d hd hW hdn (home : Int) zeros hz
  have w1' : jrnl_writer_write (home : Int) [0, 0, 0, 0, 0, 0, 0, 0, 0, 0, 0, 0, 0, 0, 0, 0, 0, 0, 0, 0, 0, 0, 0, 0, 0, 0, 0, 0, 0, 0, 0, 0] ⟨d⟩ = _ := w1
  rw [w1', some_bind]
  have d1 := wput_ok hd hW hz
  have L1 := wput_last d ⟨(home : Int), zeros⟩
  generalize wput d ⟨(home : Int), zeros⟩ = a at d1 L1
  cases hD : a.Down with
  | true => rfl
  | false =>
    simp only [cond_false, alt_inl]
    rw [wflush_ok a d1 hD, some_bind]
    simp only [alt_inl]
    have d2 := flushed_ok d1
    have hD2 : (flushed a).Down = false := hD
    have N2 : (flushed a).Last.length = d.Last.length := by rw [flushed_len, L1]
    have W2 : (flushed a).Wait = [] := rfl
    generalize flushed a = b at d2 hD2 N2 W2
    have hcp : ∀ p ∈ copies (home + 1) l, okP b.Last.length p := by
      intro p hp
      obtain ⟨q, hq, h1, h2, h3⟩ := copies_at _ _ _ hp
      exact ⟨by omega, by rw [N2]; omega, by rw [h3]; exact (hv.each q hq).2.2⟩
    obtain ⟨z, e, hz⟩ := copy_loop home l l d false d.Last d.Wait (by omega) h16 l 0 b (TDisk.mk [] [] 0 false) fuel rfl (by omega) (fuel_gt (by omega)) d2 hD2 (by rw [W2]; simp; omega) hcp
    have e' : jrnl_Commit_l0 fuel (home : Int) l l (l.length : Int) d false d.Last d.Wait 0 (TDisk.mk [] [] 0 false) ⟨b⟩ = some z := e
    rw [e', some_bind]
    have d3 := wmany_ok (copies (home + 1) l) b d2 (by rw [W2, copies_len]; simp; omega) hcp
    have L3 := wmany_last (copies (home + 1) l) b
    rw [Nat.add_zero] at hz
    rcases wmany_down (copies (home + 1) l) b hD2 with ⟨g1, g2⟩ | ⟨g1, g2⟩
    rotate_left
    · rcases hz with ⟨h, _⟩ | ⟨_, y, u, rfl⟩
      · rw [g1] at h; cases h
      · rw [g1]; rfl
    · rcases hz with ⟨_, y, rfl⟩ | ⟨h, _⟩
      rotate_left
      · rw [g1] at h; cases h
      rw [g1]
      simp only [alt_inr, cond_true]
      generalize (wmany b (copies (home + 1) l)).1 = c at d3 L3 g2
      rw [wflush_ok c d3 g2, some_bind]
      simp only [alt_inl]
      have d4 := flushed_ok d3
      have hD4 : (flushed c).Down = false := g2
      have N4 : (flushed c).Last.length = d.Last.length := by rw [flushed_len, L3, N2]
      have W4 : (flushed c).Wait = [] := rfl
      generalize flushed c = q at d4 hD4 N4 W4
      have hq : okP q.Last.length ⟨(home : Int), headB l⟩ := ⟨by show (0 : Int) ≤ home; omega, by show (home : Int) < _; omega, headB_len l h16⟩
      rw [head_ok l h16 (fun p hp => by obtain ⟨h1, h2, _⟩ := hv.each p hp; exact ⟨h1, by omega⟩), some_bind, write2_ok q d4 (by rw [W4]; simp) hD4 _ _ hq, some_bind]
      have d5 := wput_ok d4 (by rw [W4]; simp) hq
      have L5 := wput_last q ⟨(home : Int), headB l⟩
      generalize wput q ⟨(home : Int), headB l⟩ = u at d5 L5
      unfold wout
      cases hDu : u.Down with
      | true => rfl
      | false =>
        simp only [cond_false, alt_inl]
        rw [wflush_ok u d5 hDu, some_bind]
        simp only [alt_inl]
        have d6 := flushed_ok d5
        have hD6 : (flushed u).Down = false := hDu
        have N6 : (flushed u).Last.length = d.Last.length := by rw [flushed_len, L5, N4]
        have W6 : (flushed u).Wait = [] := rfl
        generalize flushed u = v at d6 hD6 N6 W6
        have hlv : ∀ p ∈ l, okP v.Last.length p := by
          intro p hp
          obtain ⟨h1, h2, h3⟩ := hv.each p hp
          exact ⟨h1, by rw [N6]; omega, h3⟩
        obtain ⟨z2, e2, hz2⟩ := put_loop2 l d false d.Last d.Wait h16 l 0 v (TDisk.mk [] [] y.Arm y.Down) fuel rfl (by omega) (fuel_gt (by omega)) d6 hD6 (by rw [W6]; simp; omega) hlv
        have e2' : jrnl_Commit_l1 fuel l (l.length : Int) d false d.Last d.Wait 0 (TDisk.mk [] [] y.Arm y.Down) ⟨v⟩ = some z2 := e2
        rw [e2', some_bind]
        have d7 := wmany_ok l v d6 (by rw [W6]; simp; omega) hlv
        rcases wmany_down l v hD6 with ⟨k1, k2⟩ | ⟨k1, k2⟩
        · rcases hz2 with ⟨_, y2, rfl⟩ | ⟨h, _⟩
          · rw [k1]
            simp only [alt_inr, cond_true]
            rw [wflush_ok _ d7 k2]
            rfl
          · rw [k1] at h; cases h
        · rcases hz2 with ⟨h, _⟩ | ⟨_, y2, u2, rfl⟩
          · rw [k1] at h; cases h
          · rw [k1]; rfl
end Go.Proofs.YtinbnobanikfmaaGreatDoor.N

set_option linter.unusedVariables false
set_option linter.unusedSimpArgs false
namespace Go.Proofs.YtinbnobanikfmaaGreatDoor.N
open Go
end Go.Proofs.YtinbnobanikfmaaGreatDoor.N

set_option linter.unusedVariables false
set_option linter.unusedSimpArgs false
namespace Go.Proofs.YtinbnobanikfmaaGreatDoor.N
open Go
end Go.Proofs.YtinbnobanikfmaaGreatDoor.N

set_option linter.unusedVariables false
set_option linter.unusedSimpArgs false
set_option maxRecDepth 100000
namespace Go.Proofs.YtinbnobanikfmaaGreatDoor.N
open Go
theorem store_begun : law12_begun fuel = some true := by rw [fuel_eq]; kernel_rfl
theorem home_ok : store_home fuel = some 9 := by rw [fuel_eq]; kernel_rfl
theorem Make_ok : store_Make fuel = some ⟨⟨List.replicate 19 zeros, [], 0, false⟩, newState⟩ := by rw [fuel_eq]; kernel_rfl
theorem img_new : img newState = List.replicate 9 zeros := by kernel_rfl
def after (L : List (List UInt8)) (home : Nat) (l : List TPut) : List (List UInt8) := wr (wr (wr (wr L [⟨(home : Int), zeros⟩]) (copies (home + 1) l)) [⟨(home : Int), headB l⟩]) l
theorem rounds_all (L : List (List UInt8)) (home : Nat) (l : List TPut) : rounds ⟨L, [], 0, false⟩ home l = (⟨after L home l, [], 0, false⟩, true) := by
  unfold rounds
  have w1 : ∀ (L : List (List UInt8)) (p : TPut), wput ⟨L, [], 0, false⟩ p = ⟨L, [p], 0, false⟩ := fun L p => rfl
  have f1 : ∀ (L : List (List UInt8)) (ws : List TPut), flushed ⟨L, ws, 0, false⟩ = ⟨wr L ws, [], 0, false⟩ := fun L ws => rfl
  have m1 : ∀ (L : List (List UInt8)) (ws : List TPut), wmany ⟨L, [], 0, false⟩ ws = (⟨L, ws, 0, false⟩, true) := fun L ws => wmany_all ws ⟨L, [], 0, false⟩ rfl (Int.le_refl _) (.inl rfl)
  rw [w1, f1, m1]
  simp only [cond_false, cond_true]
  rw [f1, w1, f1, m1]
  simp only [cond_false, cond_true]
  rw [f1]
  rfl
theorem getD_set_ne {α : Type} (L : List α) (i j : Nat) (x d : α) (h : i ≠ j) : (L.set i x).getD j d = L.getD j d := by
  rw [List.getD_eq_getElem?_getD, List.getD_eq_getElem?_getD, List.getElem?_set_ne h]
theorem getD_set_eq {α : Type} (L : List α) (i : Nat) (x d : α) (h : i < L.length) : (L.set i x).getD i d = x := by
  rw [List.getD_eq_getElem?_getD, List.getElem?_set_self h]
  rfl
theorem wr_other : ∀ (ws : List TPut) (L : List (List UInt8)) (i : Nat), (∀ p ∈ ws, p.At.toNat ≠ i) → (wr L ws).getD i [] = L.getD i []
  | [], L, i, _ => rfl
  | p :: r, L, i, h => by
    show (wr (L.set p.At.toNat p.B) r).getD i [] = _
    rw [wr_other r _ i (fun q hq => h q (List.mem_cons_of_mem _ hq)), getD_set_ne _ _ _ _ _ (h p (List.mem_cons_self ..))]
theorem wr_at : ∀ (ws : List TPut) (L : List (List UInt8)) (p : TPut), p ∈ ws → (∀ q ∈ ws, 0 ≤ q.At) → ws.Pairwise (fun a b => a.At < b.At) → p.At.toNat < L.length → (wr L ws).getD p.At.toNat [] = p.B
  | [], _, _, h, _, _, _ => by cases h
  | q :: r, L, p, h, h0, hs, hl => by
    show (wr (L.set q.At.toNat q.B) r).getD p.At.toNat [] = _
    rcases List.mem_cons.1 h with rfl | h
    · rw [wr_other r _ _ (fun x hx => by
        have := List.rel_of_pairwise_cons hs hx
        have := h0 p (List.mem_cons_self ..)
        omega), getD_set_eq _ _ _ _ hl]
    · exact wr_at r _ p h (fun x hx => h0 x (List.mem_cons_of_mem _ hx)) (List.Pairwise.of_cons hs) (by rw [List.length_set]; exact hl)
theorem after_len (L : List (List UInt8)) (home : Nat) (l : List TPut) : (after L home l).length = L.length := by
  unfold after; rw [wr_len, wr_len, wr_len, wr_len]
theorem after_home (L : List (List UInt8)) (home : Nat) (l : List TPut) (i : Nat) (hi : i < home) : (after L home l).getD i [] = (wr L l).getD i [] := by
  have hw : ∀ (l : List TPut) (A B : List (List UInt8)), A.length = B.length → A.getD i [] = B.getD i [] → (wr A l).getD i [] = (wr B l).getD i [] := by
    intro l
    induction l with
    | nil => intro A B _ h; exact h
    | cons p r ih =>
      intro A B hl h
      refine ih (A.set p.At.toNat p.B) (B.set p.At.toNat p.B) (by rw [List.length_set, List.length_set]; exact hl) ?_
      by_cases hp : p.At.toNat = i
      · by_cases hlt : i < A.length
        · rw [hp, getD_set_eq _ _ _ _ hlt, getD_set_eq _ _ _ _ (by omega)]
        · rw [List.getD_eq_getElem?_getD, List.getD_eq_getElem?_getD, List.getElem?_eq_none (by rw [List.length_set]; omega), List.getElem?_eq_none (by rw [List.length_set]; omega)]
      · rw [getD_set_ne _ _ _ _ _ hp, getD_set_ne _ _ _ _ _ hp, h]
  unfold after
  refine hw l _ _ (by rw [wr_len, wr_len, wr_len]) ?_
  have h1 : ∀ (A : List (List UInt8)) (b : List UInt8), (wr A [⟨(home : Int), b⟩]).getD i [] = A.getD i [] := fun A b => wr_other _ _ _ (fun p hp => by rw [List.mem_singleton.1 hp]; show (home : Int).toNat ≠ i; omega)
  rw [h1, wr_other _ _ _ (fun p hp => by obtain ⟨_, _, h2, _⟩ := copies_at _ _ _ hp; omega), h1]
structure Holds (d : TDisk) (s : TState) : Prop where
  ok : DOk d
  len : d.Last.length = 19
  wait : d.Wait = []
  up : d.Down = false
  at_ : ∀ i, i < 9 → d.Last.getD i [] = (img s).getD i []
theorem diff_valid {s t : TState} (hs : Good 1073741824 s) (ht : Good 1073741824 t) : Valid 9 (diffP (img s) (img t)) := by
  have l2 := img_len ht
  refine ⟨?_, fun p hp => ?_, diff_sorted _ _⟩
  · have := diff_len (img s) (img t) (img t).length
    unfold diffP
    omega
  · obtain ⟨i, y, hi, hy, _, rfl⟩ := mem_diff hp
    exact ⟨by show (0 : Int) ≤ i; omega, by show (i : Int) < _; omega, img_each ht y (List.mem_of_getElem? hy)⟩
theorem wr_diff {s t : TState} (hs : Good 1073741824 s) (ht : Good 1073741824 t) (L : List (List UInt8)) (hL : 9 ≤ L.length) (h : ∀ i, i < 9 → L.getD i [] = (img s).getD i []) (i : Nat) (hi : i < 9) : (wr L (diffP (img s) (img t))).getD i [] = (img t).getD i [] := by
  have l1 := img_len hs
  have l2 := img_len ht
  have ht2 : (img t)[i]? = some ((img t).getD i []) := by rw [List.getD_eq_getElem?_getD, List.getElem?_eq_getElem (by omega)]; rfl
  have hs2 : (img s)[i]? = some ((img s).getD i []) := by rw [List.getD_eq_getElem?_getD, List.getElem?_eq_getElem (by omega)]; rfl
  by_cases hn : (img s)[i]? ≠ some ((img t).getD i [])
  · have hm := diff_mem ht2 hn
    exact wr_at _ L _ hm (fun q hq => by obtain ⟨j, _, _, _, _, rfl⟩ := mem_diff hq; show (0 : Int) ≤ j; omega) (diff_sorted _ _) (by show i < L.length; omega)
  · have hn := Decidable.of_not_not hn
    rw [wr_other _ _ _ (fun q hq hqi => by
      obtain ⟨j, y, _, hy, hne, rfl⟩ := mem_diff hq
      have : j = i := hqi
      subst this
      rw [ht2] at hy
      cases hy
      exact hne hn), h i hi]
    rw [hs2] at hn
    exact Option.some.inj hn
theorem Commit_store {d : TDisk} {s t : TState} (hd : Holds d s) (hA : d.Arm = 0) (hs : Good 1073741824 s) (ht : Good 1073741824 t) : ∃ d', store_Commit fuel ⟨d, s⟩ t = some (⟨d', t⟩, true) ∧ Holds d' t ∧ d'.Arm = 0 := by
  have l1 := img_len hs
  have l2 := img_len ht
  unfold store_Commit store_Commit_k
  rw [Put_ok _ (good_names ht), some_bind, putI_good ht, show (((img t).length : Int) == 0) = false from beq_ne (by omega), home_ok]
  simp only [cond_false, some_bind]
  rw [Put_ok _ (good_names hs), some_bind, putI_good hs, Diff_ok _ _ (by omega), some_bind]
  obtain ⟨L, W, A, D⟩ := d
  have hW := hd.wait
  have hU := hd.up
  have hN := hd.len
  simp only at hW hU hA hN
  subst hW hU hA
  by_cases he : diffP (img s) (img t) = []
  · have hst : img s = img t := (diff_nil (by omega)).1 he
    rw [he]
    exact ⟨_, rfl, ⟨hd.ok, hd.len, rfl, rfl, fun i hi => by rw [← hst]; exact hd.at_ i hi⟩, rfl⟩
  · have hv := diff_valid hs ht
    have hlen9 : (diffP (img s) (img t)).length ≤ 9 := by
      have := diff_len (img s) (img t) (img t).length
      unfold diffP
      omega
    have hc := Commit_ok ⟨L, [], 0, false⟩ hd.ok rfl (by show (0 : Nat) < 1000; omega) 9 _ he hv (by show 9 + _ < L.length; omega) (by omega)
    rw [show ((9 : Nat) : Int) = 9 from rfl] at hc
    rw [hc, rounds_all]
    simp only [some_bind, cond_true]
    refine ⟨_, rfl, ⟨⟨?_, by show (after L 9 _).length ≤ 1000; rw [after_len]; omega, (fun q hq => nomatch hq), by show (0 : Nat) ≤ 1000; omega, Int.le_refl _, by show (0 : Int) ≤ 1000; omega⟩, by show (after L 9 _).length = 19; rw [after_len, hN], rfl, rfl, fun i hi => ?_⟩, rfl⟩
    · show ∀ x ∈ after L 9 (diffP (img s) (img t)), x.length = 32
      unfold after
      refine wr_each _ _ (wr_each _ _ (wr_each _ _ (wr_each _ _ hd.ok.last ?_) ?_) ?_) (fun p hp => (hv.each p hp).2.2)
      · intro p hp; rw [List.mem_singleton.1 hp]; rfl
      · intro p hp
        obtain ⟨q, hq, _, _, h4⟩ := copies_at _ _ _ hp
        rw [h4]; exact (hv.each q hq).2.2
      · intro p hp; rw [List.mem_singleton.1 hp]; exact headB_len _ hv.len
    · show (after L 9 _).getD i [] = _
      rw [after_home _ _ _ _ hi, wr_diff hs ht L (by omega) hd.at_ i hi]
theorem Holds_new : Holds ⟨List.replicate 19 zeros, [], 0, false⟩ newState := by
  refine ⟨⟨fun x hx => by rw [List.eq_of_mem_replicate hx]; rfl, by show (List.replicate 19 zeros).length ≤ 1000; rw [List.length_replicate]; omega, (fun q hq => nomatch hq), by show (0 : Nat) ≤ 1000; omega, Int.le_refl _, by show (0 : Int) ≤ 1000; omega⟩, List.length_replicate, rfl, rfl, fun i hi => ?_⟩
  rw [img_new]
  show (List.replicate 19 zeros).getD i [] = _
  rw [List.getD_eq_getElem?_getD, List.getD_eq_getElem?_getD, List.getElem?_replicate, List.getElem?_replicate, if_pos (by omega), if_pos (by omega)]
theorem held_take {d : TDisk} {s : TState} (h : Holds d s) (hs : Good 1073741824 s) : d.Last.take 9 = img s := by
  have l1 := img_len hs
  apply List.ext_getElem?
  intro i
  by_cases hi : i < 9
  · have := h.at_ i hi
    have h1 : i < d.Last.length := by rw [h.len]; omega
    rw [List.getD_eq_getElem?_getD, List.getD_eq_getElem?_getD, List.getElem?_eq_getElem h1, List.getElem?_eq_getElem (by omega)] at this
    rw [List.getElem?_take_of_lt hi, List.getElem?_eq_getElem h1, List.getElem?_eq_getElem (by omega)]
    exact congrArg some this
  · rw [List.getElem?_eq_none (by rw [List.length_take]; omega), List.getElem?_eq_none (by omega)]
end Go.Proofs.YtinbnobanikfmaaGreatDoor.N

set_option linter.unusedVariables false
set_option linter.unusedSimpArgs false
namespace Go.Proofs.YtinbnobanikfmaaGreatDoor.N
open Go
theorem law12_StoreFew_ok (picks : List UInt8) (h : picks.length ≤ 1048576) : law12_StoreFew fuel picks = some true := by
  unfold law12_StoreFew law12_StoreFew_k
  rw [store_begun, some_bind]
  simp only [Bool.not_true, cond_false]
  by_cases hp : (picks.length : Int) > 30
  · rw [decide_eq_true hp]; rfl
  rw [decide_eq_false hp]
  simp only [cond_false]
  obtain ⟨r, e, hg⟩ := State_ok 12 (by omega) (made_Made picks) (made_ok picks (by omega))
  have e' : made_Picks_State fuel 12 (made_Made picks) = some r := e
  rw [e', some_bind, Make_ok, some_bind]
  obtain ⟨d, ec, hd, hA⟩ := Commit_store Holds_new rfl (new_ok.mono (by omega)) hg
  rw [ec]
  simp only [some_bind]
  rw [eq_int (show (d.Last.length : Int) = 19 by have := hd.len; omega)]
  simp only [cond_false]
  have hc2 : store_Commit fuel ⟨⟨d.Last, d.Wait, 1, d.Down⟩, r.1⟩ r.1 = some (⟨⟨d.Last, d.Wait, 1, d.Down⟩, r.1⟩, true) := by
    have l1 := img_len hg
    unfold store_Commit store_Commit_k
    rw [Put_ok _ (good_names hg), some_bind, putI_good hg, show (((img r.1).length : Int) == 0) = false from beq_ne (by omega), home_ok]
    simp only [cond_false, some_bind]
    rw [Diff_ok _ _ (by omega), diff_self]
    rfl
  rw [hc2]
  simp only [some_bind, cond_true]
  have hss : ref7_SameStore fuel ⟨⟨d.Last, d.Wait, 1, d.Down⟩, r.1⟩ ⟨⟨d.Last, d.Wait, 1, d.Down⟩, r.1⟩ = some true := by
    unfold ref7_SameStore ref7_SameStore_k ref5_Same ref5_Same_k
    rw [SameTexts_ok _ _ (by have := hd.len; show d.Last.length ≤ 1000; omega), beq_self_eq_true, some_bind]
    simp only [cond_true]
    rw [SamePuts_self _ (by rw [hd.wait]; simp), some_bind]
    simp only [cond_true, beq_self_eq_true, some_bind]
    rw [SameState_self _ (by rw [hg.nm]; omega) (by rw [hg.nf]; omega)]
    rfl
  rw [hss, hd.wait]
  simp only [some_bind, cond_true]
  have hc := cut_front d.Last 9
  rw [show ((9 : Nat) : Int) = 9 from rfl, held_take hd hg] at hc
  rw [cutOk_of (by omega) (by omega) (by have := hd.len; omega), hc, PutImage_ok _ (good_names hg), some_bind, putI_good hg, SameTexts_ok _ _ (by rw [img_len hg]; omega), beq_self_eq_true]
  rfl
end Go.Proofs.YtinbnobanikfmaaGreatDoor.N

set_option linter.unusedVariables false
set_option maxRecDepth 100000
namespace Go.Proofs.YtinbnobanikfmaaGreatDoor
open Go Go.ChangeShapes Go.WideShapes Go.ChangeAt Go.RowKit
namespace Q6
open Go.Proofs.YtinbnobanikfmaaGreatDoor.D Go.Proofs.YtinbnobanikfmaaGreatDoor.S
theorem law (xs : List (DVal E.T)) (h : ArgsOk E 1048576 [(.slice (.int .u8))] xs) : (B6 xs []).get = some (.ret [.val .bool true], []) := by
  match xs, h with
  | [_], .cons _ _ x0 _ h0 .nil => exact (F6 x0).trans ((N.law12_StoreFew_bind N.fuel _ x0).trans (by rw [N.law12_StoreFew_ok x0 (h0 12).1]; rfl))
theorem contract (H : Type) (enc : TypeId × Value → H) (W : World) (base : Nat) (args : Array Value) (ds gs : List (DataW H)) (before : List MemPlace)
    (hval : ∀ (j : Nat) t v, Tryz.f6.params[j]? = some t → args[j]? = some v → Value.okWide Tryz.prog W .any base t v)
    (hW : DataW.Whole enc Tryz.prog Tryz.f6.params.toList Rows.storeFewSpec.vars false W args.toList ds gs before) (hk : ∀ d ∈ ds, Rows.uptoBulk d ≤ 1048576) :
    Calls Tryz.prog 6 args W fun e W' => ∃ v, e = .returned v ∧ Rows.storeFewSpec.post enc Tryz.prog Tryz.f6 false true false false W args v W' :=
  law_contract sound tl laid full meas bl (fn := Tryz.f6) (tb := 4) rfl Tryz.underlying4 (ps := [(.slice (.int .u8))]) rfl
    (by
      have h : (Tryz.f6.params.toList.all fun t => Tryz.prog.readableRec t && decide (t < Tryz.prog.types.size)) = true := by kernel_rfl
      intro t ht
      have := List.all_eq_true.1 h t ht
      simpa using this) rfl
    (fun ds hd => by
      match ds, hd with
      | [x0], _ => rfl)
    B6_ok law W base args ds gs before hval hW hk
noncomputable def laidWorld (os : Os) : World := layAt 1 ((Go.Pinned.utf8FirstZ.map fun (n : Nat) => Value.int .u8 (Int.ofNat n))) (layAt 2 ([.int .u8 128, .int .u8 191, .int .u8 160, .int .u8 191, .int .u8 128, .int .u8 159, .int .u8 144, .int .u8 191, .int .u8 128, .int .u8 143, .int .u8 0, .int .u8 0, .int .u8 0, .int .u8 0, .int .u8 0, .int .u8 0, .int .u8 0, .int .u8 0, .int .u8 0, .int .u8 0, .int .u8 0, .int .u8 0, .int .u8 0, .int .u8 0, .int .u8 0, .int .u8 0, .int .u8 0, .int .u8 0, .int .u8 0, .int .u8 0, .int .u8 0, .int .u8 0]) (World.holding Tryz.prog os ⟨#[], #[], []⟩))
theorem laid_met (os : Os) : laidMet Tryz.prog Rows.storeFewUptoRow.laid ((laidWorld os).forCall (fun _ _ => 0) ⟨#[], #[.slice none 0 0], []⟩).memory := laidMet_of_run' 8 (by kernel_rfl) (by kernel_rfl)
theorem reads (os : Os) {H : Type} (enc : TypeId × Value → H) : ∃ places, DataW.whole enc Tryz.prog ((laidWorld os).forCall (fun _ _ => 0) ⟨#[], #[.slice none 0 0], []⟩).memory Tryz.f6.params.toList Rows.storeFewSpec.vars false (#[.slice none 0 0] : Array Value).toList 8 = some ([.nil], [], places) := ⟨[], by kernel_rfl⟩
theorem lifted (os : Os) (started : os.Started) (H : Type) (enc : TypeId × Value → H) (F : Stop.Interp) :
    ReturnsInHanded {} Tryz.checked os 6 .any ((Rows.OpenSpec.upto Rows.storeFewSpec).preRow enc Tryz.prog Tryz.f6 Rows.storeFewUptoRow.domain false Rows.storeFewUptoRow.laid) (((Rows.OpenSpec.upto Rows.storeFewSpec).at F).post enc Tryz.prog Tryz.f6 false true false false) := by
  obtain ⟨places, hx⟩ := reads os enc
  refine returnsInHanded_of_row (C := Tryz.checked) (s := Rows.OpenSpec.upto Rows.storeFewSpec) own started (by kernel_rfl) Tryz.func6
    (witness_row_at (enc := enc) (C := Tryz.checked) false (laidWorld os) #[.slice none 0 0] rfl (by kernel_rfl) (by kernel_rfl) (by kernel_rfl)
      (OpenSpec.preRow_of_cond 8 hx (by kernel_rfl) (fun k hk => by cases hk; kernel_rfl) (by kernel_rfl) (laid_met os))) ?_
  intro W base args ds gs before hval hW _ hcond _ _ _ _
  have hgs : gs = [] := by
    obtain ⟨p, q, hA, hV, _⟩ := hW
    cases gs with
    | nil => rfl
    | cons g gs => exact hV.elim
  subst hgs
  have hk := hcond _ rfl
  exact contract H enc W base args ds [] before hval hW (small hk)
theorem over : Rows.storeFewUptoRow.holds Tryz.pinned (Rows.OpenSpec.upto Rows.storeFewSpec) :=
  OpenClaim.holds_of_cond 6 Tryz.f6 rfl rfl rfl rfl rfl rfl rfl ⟨rfl, rfl, rfl, rfl, rfl⟩ rfl rfl rfl rfl rfl (by kernel_rfl) Tryz.func6 (by kernel_rfl)
    (of_decide_eq_true (by kernel_rfl)) (by unfold Func.isWrapper; first | (rw [if_pos (by decide +kernel)]; kernel_rfl) | (rw [if_neg (by decide +kernel)]; exact ⟨rfl, rfl⟩))
    (fun os started H enc _ F => by rw [OpenClaim.pre_eq_preRow]; exact lifted os started H enc F)
theorem plain (f : FuncId) (fn : Func) (hf : Tryz.pinned.checked.prog.funcNamed "tenancy/tenancylaw12.StoreFew" = some f) (hfn : Tryz.pinned.checked.prog.funcs[f]? = some fn) :
    true = Tryz.pinned.checked.prog.looks [] ∧ ∀ (j : Nat) t, fn.params[j]? = some t → Tryz.pinned.checked.prog.wantsStandIn t = false := by
  obtain rfl : f = 6 := Option.some.inj ((show Tryz.prog.funcNamed "tenancy/tenancylaw12.StoreFew" = some 6 by kernel_rfl).symm.trans hf) |>.symm
  obtain rfl : fn = Tryz.f6 := (Option.some.inj (Tryz.func6.symm.trans hfn)).symm
  refine ⟨by kernel_rfl, fun j t ht => ?_⟩
  have h : (Tryz.f6.params.toList.all fun t => !(Tryz.prog.wantsStandIn t)) = true := by kernel_rfl
  have := List.all_eq_true.1 h t (Array.mem_toList_iff.2 (Array.mem_of_getElem? ht))
  show Tryz.prog.wantsStandIn t = false
  simpa using this
theorem card : Rows.StoreFewUptoCardSaid :=
  Claim7.holds_tied_plain_at .later [] _ _ _ _ over (fun _ h => by cases h) (by kernel_rfl) (fun _ h => by cases h) storeFewUpto_row_tie rfl ⟨rfl, rfl⟩ (by kernel_rfl) rfl plain (by kernel_rfl)
end Q6
theorem storeFew_holds : Rows.StoreFewUptoCardSaid := Q6.card
end Go.Proofs.YtinbnobanikfmaaGreatDoor

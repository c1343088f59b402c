/- Proved: StoreKeeps answers true at all arguments of bounded bulk. No condition beyond the statement's: the listed variables as the program's text lays them (the card). (This text joins: Plain words for this seat (23). Plain words for this seat (24). A store, in plain words. Whatever lasts of a commit that was cut off: it settles to what was, or to what is new. Mending what settles; opening it. Any commit of a store; what stands behind it. The plain law of StoreKeeps.) -/
import Derived.Test.YtinbnobanikfmaaGreatDoorSeat7
import Derived.KernelRfl
import Derived.Test.YtinbnobanikfmaaGreatDoorCards
import Derived.Test.YtinbnobanikfmaaGreatDoorTie
import Derived.Deep.DeepHandedRow
import Derived.OpenShut
import Derived.Test.YtinbnobanikfmaaGreatDoorSeat1
import Derived.Test.YtinbnobanikfmaaGreatDoorSeat6
set_option linter.unusedVariables false
set_option linter.unusedSimpArgs false
namespace Go.Proofs.YtinbnobanikfmaaGreatDoor.N
open Go
theorem i8_ne {x : UInt8} (h : x ≠ 1) : (i8 x != 1) = true := by
  have : i8 x ≠ 1 := fun e => h (i8_inj (y := 1) e)
  simp [this]
theorem named_no (d : TDisk) (home : Int) (s : List UInt8) (hs : s.length = 32) (h : s[0]? ≠ some 1 ∨ s[31]? ≠ some 1) : jrnl_named fuel d home s = some ([], false) := by
  unfold jrnl_named jrnl_named_k
  have h0 : 0 < s.length := by omega
  have h31 : 31 < s.length := by omega
  rw [List.getElem?_eq_getElem h0, List.getElem?_eq_getElem h31] at h
  rw [inR_of (by omega) (by omega), List.getElem?_eq_getElem h0]
  simp only [cond_true, some_bind]
  by_cases a : s[0] = 1
  · rw [a, show (i8 1 != 1) = false from rfl, inR_of (by omega) (by omega), List.getElem?_eq_getElem h31]
    simp only [cond_false, cond_true, some_bind]
    have : s[31] ≠ 1 := by
      rcases h with h | h
      · exact absurd (by rw [a]) h
      · exact fun e => h (by rw [e])
    rw [i8_ne this]
    rfl
  · rw [i8_ne a]
    rfl
theorem trimR (k : Nat) (hk : k ≤ 1000) : strings_trimRightByte fuel (List.replicate k 0) 0 = some [] := by
  unfold strings_trimRightByte strings_trimRightByte_k strings_trimRightByte_l0
  obtain ⟨x, e, hx⟩ := iter_inv (step := strings_trimRightByte_s0 0) (fun j v => v = List.replicate j 0 ∧ j ≤ 1000) (fun r => r = []) (fun j v hI => by
    obtain ⟨rfl, hj⟩ := hI
    simp only [strings_trimRightByte_s0, strings_trimRightByte_s0k]
    rw [List.length_replicate]
    cases j with
    | zero => exact ⟨_, rfl, rfl⟩
    | succ j =>
      rw [decide_eq_true (show ((j + 1 : Nat) : Int) > 0 by omega), wi64_of (by omega) (by omega), show ((j + 1 : Nat) : Int) - 1 = (j : Int) by omega, inR_nat (by omega), Int.toNat_natCast, List.getElem?_replicate, if_pos (by omega), cutOk_of (by omega) (by omega) (by omega), cut_front]
      refine ⟨_, rfl, j, by omega, ?_, by omega⟩
      rw [List.take_replicate, Nat.min_eq_left (by omega)]) k (List.replicate k 0) fuel ⟨rfl, hk⟩ (fuel_gt (by omega))
  rw [e, hx]
  rfl
theorem trimL : strings_trimLeftByte fuel [] 0 = some [] := by
  unfold strings_trimLeftByte strings_trimLeftByte_k strings_trimLeftByte_l0
  rw [fuel_eq, iter_succ]
  rfl
theorem Trim_ok (k : Nat) (hk : k ≤ 1000) : strings_Trim fuel (List.replicate k 0) = some [] := by
  unfold strings_Trim strings_Trim_k
  cases k with
  | zero => rfl
  | succ k =>
    rw [beq_ne (show List.replicate (k + 1) (0 : UInt8) ≠ [] by simp), trimR _ hk]
    simp only [cond_false, some_bind]
    rw [trimL]
    rfl
theorem headB_0 (l : List TPut) : (headB l)[0]? = some 1 := rfl
theorem headB_1 (l : List TPut) : (headB l)[1]? = some (b8 (l.length : Int)) := rfl
theorem headB_31 (l : List TPut) (h : l.length ≤ 16) : (headB l)[31]? = some 1 := by
  have e : headB l = (1 :: b8 (l.length : Int) :: (l.map (fun p => b8 p.At) ++ List.replicate (29 - l.length) 0)) ++ [1] := by
    unfold headB; simp
  have hl : (1 :: b8 (l.length : Int) :: (l.map (fun p => b8 p.At) ++ List.replicate (29 - l.length) (0 : UInt8))).length = 31 := by
    simp only [List.length_cons, List.length_append, List.length_map, List.length_replicate]; omega
  rw [e, List.getElem?_append_right (by omega), hl]
  rfl
theorem headB_ats (l : List TPut) : ((headB l).drop 2).take l.length = l.map (fun p => b8 p.At) := by
  show (l.map (fun p : TPut => b8 p.At) ++ (List.replicate (29 - l.length) 0 ++ [1])).take l.length = _
  rw [List.take_append_of_le_length (by rw [List.length_map]; exact Nat.le_refl _), List.take_of_length_le (by rw [List.length_map]; exact Nat.le_refl _)]
theorem headB_rest (l : List TPut) (h : l.length ≤ 16) : ((headB l).drop (2 + l.length)).take (29 - l.length) = List.replicate (29 - l.length) 0 := by
  have : (headB l).drop (2 + l.length) = List.replicate (29 - l.length) 0 ++ [1] := by
    rw [← List.drop_drop]
    show (l.map (fun p : TPut => b8 p.At) ++ (List.replicate (29 - l.length) 0 ++ [1])).drop l.length = _
    rw [List.drop_append_of_le_length (by rw [List.length_map]; exact Nat.le_refl _), List.drop_of_length_le (by rw [List.length_map]; exact Nat.le_refl _)]
    rfl
  rw [this, List.take_append_of_le_length (by rw [List.length_replicate]; exact Nat.le_refl _), List.take_of_length_le (by rw [List.length_replicate]; exact Nat.le_refl _)]
theorem named_head (d : TDisk) (home : Nat) (l : List TPut) (hl : l ≠ []) (hv : Valid home l) (hn : home + l.length < d.Last.length) (hN : d.Last.length ≤ 1000) (hh : home ≤ 256) : jrnl_named fuel d (home : Int) (headB l) = some (l.map TPut.At, true) := by
  have h16 := hv.len
  have hlp : 0 < l.length := List.length_pos_iff.2 hl
  have hlen := headB_len l h16
  have hn0 : i8 (b8 (l.length : Int)) = (l.length : Int) := i8_b8 (by omega) (by omega)
  unfold jrnl_named jrnl_named_k
  rw [inR_of (by omega) (by omega), headB_0]
  simp only [cond_true, some_bind]
  rw [show (i8 1 != 1) = false from rfl, inR_of (by omega) (by omega), headB_31 l h16]
  simp only [cond_false, cond_true, some_bind]
  rw [show (i8 1 != 1) = false from rfl, inR_of (by omega) (by omega), headB_1]
  simp only [cond_false, cond_true, some_bind]
  rw [hn0, wi64_of (show -9223372036854775808 ≤ (l.length : Int) by omega) (by omega), decide_eq_false (show ¬ (l.length : Int) < 1 by omega), decide_eq_false (show ¬ (l.length : Int) > 16 by omega), wi64_of (show -9223372036854775808 ≤ (home : Int) + (l.length : Int) by omega) (by omega),
    decide_eq_false (show ¬ (home : Int) + (l.length : Int) ≥ (d.Last.length : Int) by omega), wi64_of (show -9223372036854775808 ≤ 2 + (l.length : Int) by omega) (by omega), show 2 + (l.length : Int) = ((2 + l.length : Nat) : Int) by omega, cutOk_of (by omega) (by omega) (by omega)]
  have hc := cut_mid (headB l) 2 l.length
  rw [show ((2 : Nat) : Int) = 2 from rfl, headB_ats] at hc
  rw [hc]
  simp only [cond_false, cond_true]
  unfold jrnl_named_l0
  rw [List.length_map]
  obtain ⟨x, e, hx⟩ := iter_inv (step := jrnl_named_s0 (home : Int) (headB l) (l.length : Int) (l.length : Int) d (l.map fun p => b8 p.At)) (fun k v => ∃ i : Nat, v.2.1 = (i : Int) ∧ i + k = l.length ∧ v.2.2 = (l.take i).map TPut.At ∧ ∀ p ∈ l.drop i, v.1 < p.At) (fun r => r = .inr (l.map TPut.At)) (fun k v hI => by
    obtain ⟨v1, v2, v3⟩ := v
    obtain ⟨i, h1, hk, h2, h3⟩ := hI
    simp only at h1 h2 h3
    subst h1 h2
    simp only [jrnl_named_s0, jrnl_named_s0k]
    by_cases hlt : i < l.length
    · have hdr : l.drop i = l[i] :: l.drop (i + 1) := List.drop_eq_getElem_cons hlt
      have hs := hv.sorted.sublist (List.drop_sublist i l)
      rw [hdr] at h3 hs
      obtain ⟨g0, g1, g2⟩ := hv.each _ (List.getElem_mem hlt)
      have g3 := h3 _ (List.mem_cons_self ..)
      have hlm : i < (l.map fun p => b8 p.At).length := by rw [List.length_map]; exact hlt
      rw [lt_dec hlt, inR_nat hlm, Int.toNat_natCast, List.getElem?_map, List.getElem?_eq_getElem hlt]
      simp only [cond_true, Option.map_some, some_bind]
      rw [i8_b8 g0 (by omega), wi64_of (show -9223372036854775808 ≤ l[i].At by omega) (by omega), decide_eq_false (show ¬ l[i].At ≤ v1 by omega), decide_eq_false (show ¬ l[i].At ≥ (home : Int) by omega), decide_eq_true (show ((l.take i).map TPut.At).length + 1 ≤ lim by rw [lim_eq]; simp; omega), wi64_succ (by omega)]
      refine ⟨_, rfl, k - 1, by omega, i + 1, rfl, by omega, ?_, fun p hp => List.rel_of_pairwise_cons hs hp⟩
      rw [List.take_add_one, List.getElem?_eq_getElem hlt, List.map_append]
      rfl
    · obtain rfl : i = l.length := by omega
      rw [ge_dec]
      exact ⟨_, rfl, by rw [List.take_length]; rfl⟩) l.length (-1, 0, []) fuel ⟨0, rfl, by omega, rfl, fun p hp => by have := (hv.each p hp).1; show (-1 : Int) < p.At; omega⟩ (fuel_gt (by omega))
  rw [e, hx, some_bind]
  simp only [alt_inr]
  have hc2 := cut_mid (headB l) (2 + l.length) (29 - l.length)
  rw [headB_rest l h16, show ((2 + l.length + (29 - l.length) : Nat) : Int) = 31 by omega] at hc2
  rw [cutOk_of (by omega) (by omega) (by omega), hc2, Trim_ok _ (by omega)]
  rfl
theorem Read_plain (d : TDisk) (hdn : d.Down = false) (i : Nat) (h : i < d.Last.length) (hw : ∀ q ∈ d.Wait, q.At ≠ (i : Int)) : disk_Read d (i : Int) = (d.Last.getD i [], true) := by
  unfold disk_Read
  rw [hdn, decide_eq_true (show (0 : Int) ≤ (i : Int) by omega), decide_eq_true (show (i : Int) < (d.Last.length : Int) by omega), findW_none hw]
  rfl
theorem read2_ok (d : TDisk) (hdn : d.Down = false) (i : Nat) (h : i < d.Last.length) (hw : ∀ q ∈ d.Wait, q.At ≠ (i : Int)) : jrnl_writer_read_2 (i : Int) ⟨d⟩ = some (.inl (d.Last.getD i [], ⟨d⟩)) := by
  unfold jrnl_writer_read_2 jrnl_writer_read_2_k
  simp only [Read_plain d hdn i h hw]
  rfl
theorem read1_ok (d : TDisk) (hdn : d.Down = false) (i : Nat) (h : i < d.Last.length) (hw : ∀ q ∈ d.Wait, q.At ≠ (i : Int)) : jrnl_writer_read (i : Int) ⟨d⟩ = some (.inl (d.Last.getD i [], ⟨d⟩, d.Last, d.Wait)) := by
  unfold jrnl_writer_read jrnl_writer_read_k
  simp only [Read_plain d hdn i h hw]
  rfl
def mends (L : List (List UInt8)) : Nat → List TPut → List TPut
  | _, [] => []
  | n, p :: r => ⟨p.At, L.getD n []⟩ :: mends L (n + 1) r
theorem mends_len (L : List (List UInt8)) : ∀ (n : Nat) (l : List TPut), (mends L n l).length = l.length
  | _, [] => rfl
  | n, p :: r => by rw [mends, List.length_cons, List.length_cons, mends_len]
theorem getD_len {L : List (List UInt8)} (h : ∀ x ∈ L, x.length = 32) {i : Nat} (hi : i < L.length) : (L.getD i []).length = 32 := by
  rw [List.getD_eq_getElem?_getD, List.getElem?_eq_getElem hi]
  exact h _ (List.getElem_mem hi)
theorem mend_loop (home : Nat) (l : List TPut) (o : TDisk) (ok : Bool) (r4 : List (List UInt8)) (r5 : List TPut) (hh : home ≤ 256) (hl : l.length ≤ 16) (L : List (List UInt8)) : ∀ (r : List TPut) (i : Nat) (d : TDisk) (x : TDisk) (n : Nat), l.drop i = r → i ≤ l.length → r.length < n → DOk d → d.Down = false → d.Last = L → d.Wait.length + r.length < 1000 → (∀ p ∈ r, okP home p) → home + l.length < L.length → (∀ p ∈ d.Wait, p.At < (home : Int)) →
    ∃ z, iter (jrnl_Mend_s0 (home : Int) (l.map TPut.At) ((l.map TPut.At).length : Int) o ok r4 r5) n ((i : Int), x, ⟨d⟩) = some z ∧ (((wmany d (mends L (home + 1 + i) r)).2 = true ∧ ∃ y, z = .inr (y, ⟨(wmany d (mends L (home + 1 + i) r)).1⟩)) ∨ ((wmany d (mends L (home + 1 + i) r)).2 = false ∧ ∃ y, z = .inl (y, ⟨(wmany d (mends L (home + 1 + i) r)).1⟩)))
  | _, _, _, _, 0, _, _, h, _, _, _, _, _, _, _ => absurd h (Nat.not_lt_zero _)
  | [], i, d, x, n + 1, hdr, hi, _, hd, hdn, _, _, _, _, _ => by
    obtain rfl : i = l.length := Nat.le_antisymm hi (List.drop_eq_nil_iff.1 hdr)
    rw [iter_succ]
    simp only [jrnl_Mend_s0, jrnl_Mend_s0k, List.length_map, ge_dec, cond_false]
    exact ⟨_, rfl, .inl ⟨rfl, _, rfl⟩⟩
  | p :: r, i, d, x, n + 1, hdr, hi, hn, hd, hdn, hL, hw, hp, hN, hat => by
    have hlt : i < l.length := by
      rcases Nat.lt_or_ge i l.length with h | h
      · exact h
      · rw [List.drop_eq_nil_iff.2 h] at hdr; cases hdr
    have hd2 : l.drop i = l[i] :: l.drop (i + 1) := List.drop_eq_getElem_cons hlt
    rw [hdr] at hd2
    obtain ⟨e1, e2⟩ := List.cons.inj hd2
    rw [List.length_cons] at hw hn
    obtain ⟨p0, p1, p2⟩ := hp p (List.mem_cons_self ..)
    have hin : home + 1 + i < d.Last.length := by rw [hL]; omega
    have hlm : i < (l.map TPut.At).length := by rw [List.length_map]; exact hlt
    have hpk : okP d.Last.length ⟨p.At, d.Last.getD (home + 1 + i) []⟩ := ⟨p0, by rw [hL]; show p.At < _; omega, getD_len hd.last hin⟩
    rw [iter_succ]
    simp only [jrnl_Mend_s0, jrnl_Mend_s0k]
    rw [lt_dec hlm, inR_nat hlm, Int.toNat_natCast, List.getElem?_map, List.getElem?_eq_getElem hlt, ← e1]
    simp only [cond_true, Option.map_some, some_bind]
    rw [wi64_of (show -9223372036854775808 ≤ (home : Int) + 1 by omega) (by omega), wi64_of (show -9223372036854775808 ≤ (home : Int) + 1 + (i : Int) by omega) (by omega), show (home : Int) + 1 + (i : Int) = ((home + 1 + i : Nat) : Int) by omega, read2_ok d hdn (home + 1 + i) hin (fun q hq => by have := hat q hq; omega), some_bind]
    simp only [alt_inl]
    rw [write2_ok d hd (by omega) hdn _ _ hpk, some_bind, mends, wmany, hL]
    rw [hL] at hpk
    unfold wout
    cases hD : (wput d ⟨p.At, L.getD (home + 1 + i) []⟩).Down with
    | true => exact ⟨_, rfl, .inr ⟨rfl, _, rfl⟩⟩
    | false =>
      simp only [cond_false, alt_inl]
      rw [wi64_succ (by omega)]
      exact mend_loop home l o ok r4 r5 hh hl L r (i + 1) (wput d ⟨p.At, L.getD (home + 1 + i) []⟩) _ n e2.symm hlt (by omega) (wput_ok hd (by omega) (by rw [hL]; exact hpk)) hD (by rw [wput_last]; exact hL) (by rw [wput_wait]; simp; omega) (fun q hq => hp q (List.mem_cons_of_mem _ hq)) hN (fun q hq => by
        rw [wput_wait] at hq
        rcases List.mem_append.1 hq with hq | hq
        · exact hat q hq
        · rw [List.mem_singleton.1 hq]; exact p1)
theorem mends_ok (L : List (List UInt8)) (home : Nat) (hL : ∀ x ∈ L, x.length = 32) : ∀ (n : Nat) (l : List TPut), (∀ p ∈ l, okP home p) → home ≤ L.length → n + l.length ≤ L.length → ∀ q ∈ mends L n l, okP L.length q
  | _, [], _, _, _, q, hq => by cases hq
  | n, p :: r, hp, hh, hn, q, hq => by
    rw [List.length_cons] at hn
    rw [mends] at hq
    rcases List.mem_cons.1 hq with rfl | hq
    · obtain ⟨a, b, c⟩ := hp p (List.mem_cons_self ..)
      exact ⟨a, by show p.At < _; omega, getD_len hL (by omega)⟩
    · exact mends_ok L home hL (n + 1) r (fun x hx => hp x (List.mem_cons_of_mem _ hx)) hh (by omega) q hq
theorem Mend_no (d : TDisk) (hd : DOk d) (hdn : d.Down = false) (hW : d.Wait = []) (home : Nat) (hh : home < d.Last.length) (h : (d.Last.getD home [])[0]? ≠ some 1 ∨ (d.Last.getD home [])[31]? ≠ some 1) : jrnl_Mend fuel d (home : Int) = some (d, false) := by
  unfold jrnl_Mend jrnl_Mend_k
  have hs := getD_len hd.last hh
  rw [read1_ok d hdn home hh (fun q hq => by rw [hW] at hq; cases hq), some_bind]
  simp only [alt_inl]
  rw [eq_int (show ((d.Last.getD home []).length : Int) = 32 by omega), named_no d _ _ hs h]
  rfl
theorem Mend_yes (d : TDisk) (hd : DOk d) (hdn : d.Down = false) (hW : d.Wait = []) (home : Nat) (hh : home ≤ 256) (l : List TPut) (hl : l ≠ []) (hv : Valid home l) (hn : home + l.length < d.Last.length) (h : d.Last.getD home [] = headB l) :
    jrnl_Mend fuel d (home : Int) = some (bif (wmany d (mends d.Last (home + 1) l)).2 then (flushed (wmany d (mends d.Last (home + 1) l)).1, true) else ((wmany d (mends d.Last (home + 1) l)).1, false)) := by
  unfold jrnl_Mend jrnl_Mend_k
  have h16 := hv.len
  rw [read1_ok d hdn home (by omega) (fun q hq => by rw [hW] at hq; cases hq), some_bind]
  simp only [alt_inl]
  rw [h, eq_int (show ((headB l).length : Int) = 32 by rw [headB_len l h16]; rfl), named_head d home l hl hv hn hd.len hh]
  simp only [cond_false, some_bind, Bool.not_true]
  obtain ⟨z, e, hz⟩ := mend_loop home l d false d.Last d.Wait hh h16 d.Last l 0 d (TDisk.mk [] [] 0 false) fuel rfl (by omega) (fuel_gt (by omega)) hd hdn rfl (by rw [hW]; simp; omega) hv.each hn (fun q hq => by rw [hW] at hq; cases hq)
  have e' : jrnl_Mend_l0 fuel (home : Int) (l.map TPut.At) ((l.map TPut.At).length : Int) d false d.Last d.Wait 0 (TDisk.mk [] [] 0 false) ⟨d⟩ = some z := e
  rw [e', some_bind]
  rw [Nat.add_zero] at hz
  have d2 := wmany_ok (mends d.Last (home + 1) l) d hd (by rw [hW, mends_len]; simp; omega) (mends_ok d.Last home hd.last (home + 1) l hv.each (by omega) (by omega))
  rcases wmany_down (mends d.Last (home + 1) l) d hdn with ⟨g1, g2⟩ | ⟨g1, g2⟩
  · rcases hz with ⟨_, y, rfl⟩ | ⟨h, _⟩
    · rw [g1]
      simp only [alt_inr, cond_true]
      rw [wflush_ok _ d2 g2]
      rfl
    · rw [g1] at h; cases h
  · rcases hz with ⟨h, _⟩ | ⟨_, y, rfl⟩
    · rw [g1] at h; cases h
    · rw [g1]; rfl
open Go
def tear (L : List (List UInt8)) (p : TPut) (n : Nat) : List (List UInt8) := L.set p.At.toNat (p.B.take n ++ (L.getD p.At.toNat []).drop n)
def clampK : Option Int → Nat
  | some k => (min (max k 0) 32).toNat
  | none => 0
def crashL (L : List (List UInt8)) : List TPut → List Int → List (List UInt8)
  | [], _ => L
  | p :: r, ks => crashL (tear L p (clampK ks.head?)) r ks.tail
theorem clampK_le (o : Option Int) : clampK o ≤ 32 := by
  cases o with
  | none => exact Nat.zero_le _
  | some k => show (min (max k 0) 32).toNat ≤ 32; omega
theorem tear_len (L : List (List UInt8)) (p : TPut) (n : Nat) : (tear L p n).length = L.length := List.length_set
theorem tear_each {L : List (List UInt8)} (h : ∀ x ∈ L, x.length = 32) {p : TPut} (hp : okP L.length p) {n : Nat} (hn : n ≤ 32) : ∀ x ∈ tear L p n, x.length = 32 := by
  intro x hx
  obtain ⟨a, b, c⟩ := hp
  rcases List.mem_or_eq_of_mem_set hx with hx | rfl
  · exact h x hx
  · have := getD_len h (show p.At.toNat < L.length by omega)
    rw [List.length_append, List.length_take, List.length_drop, this, c]
    omega
theorem crash_len : ∀ (ws : List TPut) (L : List (List UInt8)) (ks : List Int), (crashL L ws ks).length = L.length
  | [], L, ks => rfl
  | p :: r, L, ks => by rw [crashL, crash_len r, tear_len]
theorem crash_each : ∀ (ws : List TPut) (L : List (List UInt8)) (ks : List Int), (∀ x ∈ L, x.length = 32) → (∀ p ∈ ws, okP L.length p) → ∀ x ∈ crashL L ws ks, x.length = 32
  | [], L, ks, h, _ => h
  | p :: r, L, ks, h, hp => crash_each r _ _ (tear_each h (hp p (List.mem_cons_self ..)) (clampK_le _)) (fun q hq => by rw [tear_len]; exact hp q (List.mem_cons_of_mem _ hq))
theorem lasts_ok (L : List (List UInt8)) (hL : ∀ x ∈ L, x.length = 32) (hN : L.length ≤ 1000) (p : TPut) (hp : okP L.length p) (n : Nat) (hn : n ≤ 32) : ref5_lasts L p (n : Int) = some (tear L p n) := by
  obtain ⟨a, b, c⟩ := hp
  have hlt : p.At.toNat < L.length := by omega
  have hy := hL _ (List.getElem_mem hlt)
  unfold ref5_lasts ref5_lasts_k tear
  rw [decide_eq_true (show L.length ≤ lim by rw [lim_eq]; omega), decide_eq_true (show p.At ≥ 0 from a), decide_eq_true b, inR_of a b, List.getElem?_eq_getElem hlt]
  simp only [cond_true, some_bind]
  have hm : imin (imax (n : Int) 0) (imin (p.B.length : Int) (L[p.At.toNat].length : Int)) = (n : Int) := by
    rw [c, hy]; unfold imin imax; split <;> split <;> split <;> omega
  rw [hm, cutOk_of (by omega) (by omega) (by omega), cut_front]
  simp only [cond_true]
  rw [cutOk_of (by omega) (by omega) (by omega), cut_back, decide_eq_true (by rw [lim_eq, List.length_take, List.length_drop]; omega), List.getD_eq_getElem?_getD, List.getElem?_eq_getElem hlt]
  rfl
theorem crash_loop (keep : List Int) (W : List TPut) (A : Int) (D : Bool) : ∀ (r : List TPut) (i : Nat) (L : List (List UInt8)) (o : TDisk) (n : Nat), W.drop i = r → i ≤ W.length → r.length < n → W.length ≤ 1000 → (∀ x ∈ L, x.length = 32) → L.length ≤ 1000 → (∀ p ∈ r, okP L.length p) →
    ∃ o', iter (ref5_Crash_s0 keep) n ((i : Int), ⟨L, W, A, D⟩, o) = some (⟨crashL L r (keep.drop i), W, A, D⟩, o')
  | _, _, _, _, 0, _, _, h, _, _, _, _ => absurd h (Nat.not_lt_zero _)
  | [], i, L, o, n + 1, hdr, hi, _, _, _, _, _ => by
    obtain rfl : i = W.length := Nat.le_antisymm hi (List.drop_eq_nil_iff.1 hdr)
    rw [iter_succ]
    simp only [ref5_Crash_s0, ref5_Crash_s0k, ge_dec, cond_false]
    exact ⟨_, rfl⟩
  | p :: r, i, L, o, n + 1, hdr, hi, hn, hWl, hL, hN, hp => by
    have hlt : i < W.length := by
      rcases Nat.lt_or_ge i W.length with h | h
      · exact h
      · rw [List.drop_eq_nil_iff.2 h] at hdr; cases hdr
    have hd2 : W.drop i = W[i] :: W.drop (i + 1) := List.drop_eq_getElem_cons hlt
    rw [hdr] at hd2
    obtain ⟨e1, e2⟩ := List.cons.inj hd2
    rw [List.length_cons] at hn
    have hpk := hp p (List.mem_cons_self ..)
    have hgo : ∀ k : Nat, k ≤ 32 → k = clampK (keep.drop i).head? → ∃ o', iter (ref5_Crash_s0 keep) n (wi64 ((i : Int) + 1), ⟨tear L p k, W, A, D⟩, TDisk.mk [] [] o.Arm o.Down) = some (⟨crashL L (p :: r) (keep.drop i), W, A, D⟩, o') := by
      intro k hk hk2
      rw [wi64_succ (by omega), crashL, ← hk2]
      have := crash_loop keep W A D r (i + 1) (tear L p k) (TDisk.mk [] [] o.Arm o.Down) n e2.symm hlt (by omega) hWl (tear_each hL hpk hk) (by rw [tear_len]; exact hN) (fun q hq => by rw [tear_len]; exact hp q (List.mem_cons_of_mem _ hq))
      rw [← List.tail_drop] at this
      exact this
    rw [iter_succ]
    simp only [ref5_Crash_s0, ref5_Crash_s0k]
    rw [lt_dec hlt, inR_nat hlt, Int.toNat_natCast, List.getElem?_eq_getElem hlt, ← e1]
    by_cases hk : i < keep.length
    · rw [lt_dec hk, inR_nat hk, List.getElem?_eq_getElem hk]
      simp only [cond_true, some_bind]
      have hm : imin (imax keep[i] 0) 32 = ((clampK (some keep[i]) : Nat) : Int) := by
        show imin (imax keep[i] 0) 32 = (((min (max keep[i] 0) 32).toNat : Nat) : Int)
        unfold imin imax; split <;> split <;> omega
      rw [hm, lasts_ok L hL hN p hpk _ (clampK_le _), some_bind]
      have hh : (keep.drop i).head? = some keep[i] := by rw [List.drop_eq_getElem_cons hk]; rfl
      obtain ⟨o', h⟩ := hgo _ (clampK_le (some keep[i])) (by rw [hh])
      exact ⟨o', h⟩
    · rw [decide_eq_false (show ¬ (i : Int) < (keep.length : Int) by omega)]
      simp only [cond_true, cond_false, some_bind]
      have h0 := lasts_ok L hL hN p hpk 0 (by omega)
      rw [show ((0 : Nat) : Int) = 0 from rfl] at h0
      rw [h0, some_bind]
      have hh : (keep.drop i).head? = none := by rw [List.drop_eq_nil_iff.2 (by omega)]; rfl
      obtain ⟨o', h⟩ := hgo 0 (by omega) (by rw [hh]; rfl)
      exact ⟨o', h⟩
theorem Crash_ok (d : TDisk) (hd : DOk d) (keep : List Int) : ref5_Crash fuel d keep = some ⟨crashL d.Last d.Wait keep, [], 0, false⟩ := by
  unfold ref5_Crash ref5_Crash_k ref5_Crash_l0
  obtain ⟨o', e⟩ := crash_loop keep d.Wait d.Arm d.Down d.Wait 0 d.Last (TDisk.mk [] [] 0 false) fuel rfl (Nat.zero_le _) (fuel_gt (by have := hd.wlen; omega)) hd.wlen hd.last hd.len hd.wait
  have e' : iter (ref5_Crash_s0 keep) fuel (0, d, TDisk.mk [] [] 0 false) = _ := e
  rw [e', some_bind]
  rfl
set_option maxRecDepth 100000
open Go
theorem store_begun : law12_begun fuel = some true := by rw [fuel_eq]; kernel_rfl
theorem home_ok : store_home fuel = some 9 := by rw [fuel_eq]; kernel_rfl
theorem size_ok : store_size fuel = some 19 := by rw [fuel_eq]; kernel_rfl
theorem Make_ok : store_Make fuel = some ⟨⟨List.replicate 19 zeros, [], 0, false⟩, newState⟩ := by rw [fuel_eq]; kernel_rfl
theorem img_new : img newState = List.replicate 9 zeros := by kernel_rfl
def after (L : List (List UInt8)) (home : Nat) (l : List TPut) : List (List UInt8) := wr (wr (wr (wr L [⟨(home : Int), zeros⟩]) (copies (home + 1) l)) [⟨(home : Int), headB l⟩]) l
theorem rounds_all (L : List (List UInt8)) (home : Nat) (l : List TPut) : rounds ⟨L, [], 0, false⟩ home l = (⟨after L home l, [], 0, false⟩, true) := by
  unfold rounds
  have w1 : ∀ (L : List (List UInt8)) (p : TPut), wput ⟨L, [], 0, false⟩ p = ⟨L, [p], 0, false⟩ := fun L p => rfl
  have f1 : ∀ (L : List (List UInt8)) (ws : List TPut), flushed ⟨L, ws, 0, false⟩ = ⟨wr L ws, [], 0, false⟩ := fun L ws => rfl
  have m1 : ∀ (L : List (List UInt8)) (ws : List TPut), wmany ⟨L, [], 0, false⟩ ws = (⟨L, ws, 0, false⟩, true) := fun L ws => wmany_all ws ⟨L, [], 0, false⟩ rfl (Int.le_refl _) (.inl rfl)
  rw [w1, f1, m1]
  simp only [cond_false, cond_true]
  rw [f1, w1, f1, m1]
  simp only [cond_false, cond_true]
  rw [f1]
  rfl
theorem getD_set_ne {α : Type} (L : List α) (i j : Nat) (x d : α) (h : i ≠ j) : (L.set i x).getD j d = L.getD j d := by
  rw [List.getD_eq_getElem?_getD, List.getD_eq_getElem?_getD, List.getElem?_set_ne h]
theorem getD_set_eq {α : Type} (L : List α) (i : Nat) (x d : α) (h : i < L.length) : (L.set i x).getD i d = x := by
  rw [List.getD_eq_getElem?_getD, List.getElem?_set_self h]
  rfl
theorem wr_other : ∀ (ws : List TPut) (L : List (List UInt8)) (i : Nat), (∀ p ∈ ws, p.At.toNat ≠ i) → (wr L ws).getD i [] = L.getD i []
  | [], L, i, _ => rfl
  | p :: r, L, i, h => by
    show (wr (L.set p.At.toNat p.B) r).getD i [] = _
    rw [wr_other r _ i (fun q hq => h q (List.mem_cons_of_mem _ hq)), getD_set_ne _ _ _ _ _ (h p (List.mem_cons_self ..))]
theorem wr_at : ∀ (ws : List TPut) (L : List (List UInt8)) (p : TPut), p ∈ ws → (∀ q ∈ ws, 0 ≤ q.At) → ws.Pairwise (fun a b => a.At < b.At) → p.At.toNat < L.length → (wr L ws).getD p.At.toNat [] = p.B
  | [], _, _, h, _, _, _ => by cases h
  | q :: r, L, p, h, h0, hs, hl => by
    show (wr (L.set q.At.toNat q.B) r).getD p.At.toNat [] = _
    rcases List.mem_cons.1 h with rfl | h
    · rw [wr_other r _ _ (fun x hx => by
        have := List.rel_of_pairwise_cons hs hx
        have := h0 p (List.mem_cons_self ..)
        omega), getD_set_eq _ _ _ _ hl]
    · exact wr_at r _ p h (fun x hx => h0 x (List.mem_cons_of_mem _ hx)) (List.Pairwise.of_cons hs) (by rw [List.length_set]; exact hl)
theorem after_len (L : List (List UInt8)) (home : Nat) (l : List TPut) : (after L home l).length = L.length := by
  unfold after; rw [wr_len, wr_len, wr_len, wr_len]
theorem after_home (L : List (List UInt8)) (home : Nat) (l : List TPut) (i : Nat) (hi : i < home) : (after L home l).getD i [] = (wr L l).getD i [] := by
  have hw : ∀ (l : List TPut) (A B : List (List UInt8)), A.length = B.length → A.getD i [] = B.getD i [] → (wr A l).getD i [] = (wr B l).getD i [] := by
    intro l
    induction l with
    | nil => intro A B _ h; exact h
    | cons p r ih =>
      intro A B hl h
      refine ih (A.set p.At.toNat p.B) (B.set p.At.toNat p.B) (by rw [List.length_set, List.length_set]; exact hl) ?_
      by_cases hp : p.At.toNat = i
      · by_cases hlt : i < A.length
        · rw [hp, getD_set_eq _ _ _ _ hlt, getD_set_eq _ _ _ _ (by omega)]
        · rw [List.getD_eq_getElem?_getD, List.getD_eq_getElem?_getD, List.getElem?_eq_none (by rw [List.length_set]; omega), List.getElem?_eq_none (by rw [List.length_set]; omega)]
      · rw [getD_set_ne _ _ _ _ _ hp, getD_set_ne _ _ _ _ _ hp, h]
  unfold after
  refine hw l _ _ (by rw [wr_len, wr_len, wr_len]) ?_
  have h1 : ∀ (A : List (List UInt8)) (b : List UInt8), (wr A [⟨(home : Int), b⟩]).getD i [] = A.getD i [] := fun A b => wr_other _ _ _ (fun p hp => by rw [List.mem_singleton.1 hp]; show (home : Int).toNat ≠ i; omega)
  rw [h1, wr_other _ _ _ (fun p hp => by obtain ⟨_, _, h2, _⟩ := copies_at _ _ _ hp; omega), h1]
structure Holds (d : TDisk) (s : TState) : Prop where
  ok : DOk d
  len : d.Last.length = 19
  wait : d.Wait = []
  up : d.Down = false
  at_ : ∀ i, i < 9 → d.Last.getD i [] = (img s).getD i []
theorem diff_valid {s t : TState} (hs : Good 1073741824 s) (ht : Good 1073741824 t) : Valid 9 (diffP (img s) (img t)) := by
  have l2 := img_len ht
  refine ⟨?_, fun p hp => ?_, diff_sorted _ _⟩
  · have := diff_len (img s) (img t) (img t).length
    unfold diffP
    omega
  · obtain ⟨i, y, hi, hy, _, rfl⟩ := mem_diff hp
    exact ⟨by show (0 : Int) ≤ i; omega, by show (i : Int) < _; omega, img_each ht y (List.mem_of_getElem? hy)⟩
theorem wr_diff {s t : TState} (hs : Good 1073741824 s) (ht : Good 1073741824 t) (L : List (List UInt8)) (hL : 9 ≤ L.length) (h : ∀ i, i < 9 → L.getD i [] = (img s).getD i []) (i : Nat) (hi : i < 9) : (wr L (diffP (img s) (img t))).getD i [] = (img t).getD i [] := by
  have l1 := img_len hs
  have l2 := img_len ht
  have ht2 : (img t)[i]? = some ((img t).getD i []) := by rw [List.getD_eq_getElem?_getD, List.getElem?_eq_getElem (by omega)]; rfl
  have hs2 : (img s)[i]? = some ((img s).getD i []) := by rw [List.getD_eq_getElem?_getD, List.getElem?_eq_getElem (by omega)]; rfl
  by_cases hn : (img s)[i]? ≠ some ((img t).getD i [])
  · have hm := diff_mem ht2 hn
    exact wr_at _ L _ hm (fun q hq => by obtain ⟨j, _, _, _, _, rfl⟩ := mem_diff hq; show (0 : Int) ≤ j; omega) (diff_sorted _ _) (by show i < L.length; omega)
  · have hn := Decidable.of_not_not hn
    rw [wr_other _ _ _ (fun q hq hqi => by
      obtain ⟨j, y, _, hy, hne, rfl⟩ := mem_diff hq
      have : j = i := hqi
      subst this
      rw [ht2] at hy
      cases hy
      exact hne hn), h i hi]
    rw [hs2] at hn
    exact Option.some.inj hn
theorem Holds_new : Holds ⟨List.replicate 19 zeros, [], 0, false⟩ newState := by
  refine ⟨⟨fun x hx => by rw [List.eq_of_mem_replicate hx]; rfl, by show (List.replicate 19 zeros).length ≤ 1000; rw [List.length_replicate]; omega, (fun q hq => nomatch hq), by show (0 : Nat) ≤ 1000; omega, Int.le_refl _, by show (0 : Int) ≤ 1000; omega⟩, List.length_replicate, rfl, rfl, fun i hi => ?_⟩
  rw [img_new]
  show (List.replicate 19 zeros).getD i [] = _
  rw [List.getD_eq_getElem?_getD, List.getD_eq_getElem?_getD, List.getElem?_replicate, List.getElem?_replicate, if_pos (by omega), if_pos (by omega)]
open Go
def noHead (s : List UInt8) : Prop := s[0]? ≠ some 1 ∨ s[31]? ≠ some 1
def Settles (h : Nat) (L : List (List UInt8)) (T : Nat → List UInt8) : Prop :=
  (noHead (L.getD h []) ∧ ∀ i, i < h → L.getD i [] = T i) ∨
  (∃ q, q ≠ [] ∧ Valid h q ∧ h + q.length < L.length ∧ L.getD h [] = headB q ∧ ∀ i, i < h → (wr L (mends L (h + 1) q)).getD i [] = T i)
theorem mends_same (L : List (List UInt8)) : ∀ (l : List TPut) (n : Nat), (∀ (j : Nat) p, l[j]? = some p → L.getD (n + j) [] = p.B) → mends L n l = l
  | [], n, _ => rfl
  | p :: r, n, h => by
    rw [mends, mends_same L r (n + 1) (fun j q hj => by
      have := h (j + 1) q hj
      rw [show n + 1 + j = n + (j + 1) by omega]
      exact this)]
    have := h 0 p rfl
    rw [Nat.add_zero] at this
    rw [this]
theorem wr_copies : ∀ (l : List TPut) (n : Nat) (L : List (List UInt8)), n + l.length ≤ L.length → ∀ (j : Nat) p, l[j]? = some p → (wr L (copies n l)).getD (n + j) [] = p.B
  | [], _, _, _, j, p, h => by cases h
  | q :: r, n, L, hl, j, p, h => by
    rw [List.length_cons] at hl
    rw [copies]
    show (wr (L.set (n : Int).toNat q.B) (copies (n + 1) r)).getD (n + j) [] = _
    cases j with
    | zero =>
      cases h
      rw [wr_other _ _ _ (fun x hx => by obtain ⟨_, _, h2, _⟩ := copies_at _ _ _ hx; omega), Int.toNat_natCast]
      exact getD_set_eq _ _ _ _ (by omega)
    | succ j =>
      have := wr_copies r (n + 1) (L.set (n : Int).toNat q.B) (by rw [List.length_set]; omega) j p h
      rw [show n + (j + 1) = n + 1 + j by omega]
      exact this
theorem tear_other (L : List (List UInt8)) (p : TPut) (k i : Nat) (h : p.At.toNat ≠ i) : (tear L p k).getD i [] = L.getD i [] := getD_set_ne _ _ _ _ _ h
theorem crash_other : ∀ (ws : List TPut) (L : List (List UInt8)) (ks : List Int) (i : Nat), (∀ p ∈ ws, p.At.toNat ≠ i) → (crashL L ws ks).getD i [] = L.getD i []
  | [], L, ks, i, _ => rfl
  | p :: r, L, ks, i, h => by
    rw [crashL, crash_other r _ _ i (fun q hq => h q (List.mem_cons_of_mem _ hq)), tear_other _ _ _ _ (h p (List.mem_cons_self ..))]
theorem wr_over (l : List TPut) (hs : l.Pairwise (fun a b => a.At < b.At)) (h0 : ∀ p ∈ l, 0 ≤ p.At) (A B : List (List UInt8)) (hlen : A.length = B.length) (hl : ∀ p ∈ l, p.At.toNat < A.length) (i : Nat) (h : (∀ p ∈ l, p.At.toNat ≠ i) → A.getD i [] = B.getD i []) : (wr A l).getD i [] = (wr B l).getD i [] := by
  by_cases hin : ∃ p ∈ l, p.At.toNat = i
  · obtain ⟨p, hp, rfl⟩ := hin
    rw [wr_at l A p hp h0 hs (hl p hp), wr_at l B p hp h0 hs (by rw [← hlen]; exact hl p hp)]
  · have hn : ∀ p ∈ l, p.At.toNat ≠ i := fun p hp he => hin ⟨p, hp, he⟩
    rw [wr_other _ _ _ hn, wr_other _ _ _ hn, h hn]
structure Clean (h : Nat) (L : List (List UInt8)) (T : Nat → List UInt8) : Prop where
  at_ : ∀ i, i < h → L.getD i [] = T i
  set_ : Settles h L T
theorem Clean.mk_no {h : Nat} {L : List (List UInt8)} {T : Nat → List UInt8} (hn : noHead (L.getD h [])) (ha : ∀ i, i < h → L.getD i [] = T i) : Clean h L T := ⟨ha, .inl ⟨hn, ha⟩⟩
theorem noHead_zeros (k : Nat) (hk : 1 ≤ k) (hk2 : k ≤ 32) (s : List UInt8) : noHead (zeros.take k ++ s) := by
  left
  cases k with
  | zero => omega
  | succ k =>
    show some (0 : UInt8) ≠ some 1
    decide
theorem noHead_part (k : Nat) (hk : k < 32) (s : List UInt8) (hs : s.length = 32) : noHead (s.take k ++ zeros.drop k) := by
  right
  rw [List.getElem?_append_right (by rw [List.length_take]; omega), List.length_take, hs, Nat.min_eq_left (by omega), List.getElem?_drop, show k + (31 - k) = 31 by omega]
  decide
theorem noHead_zero : noHead zeros := by left; decide
def newT (L : List (List UInt8)) (l : List TPut) (i : Nat) : List UInt8 := (wr L l).getD i []
theorem settles_cut {h : Nat} {L : List (List UInt8)} {T : Nat → List UInt8} (hL : ∀ x ∈ L, x.length = 32) (hN : L.length ≤ 1000) (hc : Clean h L T) (l : List TPut) (hl : l ≠ []) (hv : Valid h l) (hn : h + l.length < L.length) (A : Int) (hA0 : 0 ≤ A) (hA1 : A ≤ 900) (keep : List Int) :
    ((rounds ⟨L, [], A, false⟩ h l).2 = true ∧ (rounds ⟨L, [], A, false⟩ h l).1.Last = after L h l ∧ (rounds ⟨L, [], A, false⟩ h l).1.Wait = [] ∧ (rounds ⟨L, [], A, false⟩ h l).1.Down = false) ∨
    ((rounds ⟨L, [], A, false⟩ h l).2 = false ∧ (Settles h (crashL (rounds ⟨L, [], A, false⟩ h l).1.Last (rounds ⟨L, [], A, false⟩ h l).1.Wait keep) T ∨ Settles h (crashL (rounds ⟨L, [], A, false⟩ h l).1.Last (rounds ⟨L, [], A, false⟩ h l).1.Wait keep) (newT L l))) := by
  have hlp : 0 < l.length := List.length_pos_iff.2 hl
  have h16 := hv.len
  obtain ⟨L1, hL1⟩ : ∃ L1, wr L [⟨(h : Int), zeros⟩] = L1 := ⟨_, rfl⟩
  obtain ⟨L2, hL2⟩ : ∃ L2, wr L1 (copies (h + 1) l) = L2 := ⟨_, rfl⟩
  obtain ⟨L3, hL3⟩ : ∃ L3, wr L2 [⟨(h : Int), headB l⟩] = L3 := ⟨_, rfl⟩
  have l1 : L1.length = L.length := by rw [← hL1, wr_len]
  have l2 : L2.length = L.length := by rw [← hL2, wr_len, l1]
  have l3 : L3.length = L.length := by rw [← hL3, wr_len, l2]
  have hone : ∀ (X : List (List UInt8)) (b : List UInt8) (i : Nat), i ≠ h → (wr X [⟨(h : Int), b⟩]).getD i [] = X.getD i [] := fun X b i hi => wr_other _ _ _ (fun p hp => by rw [List.mem_singleton.1 hp]; show (h : Int).toNat ≠ i; omega)
  have honeh : ∀ (X : List (List UInt8)) (b : List UInt8), h < X.length → (wr X [⟨(h : Int), b⟩]).getD h [] = b := fun X b hx => by
    show (X.set (h : Int).toNat b).getD h [] = b
    rw [Int.toNat_natCast, getD_set_eq _ _ _ _ hx]
  have g1 : ∀ i, i < h → L1.getD i [] = T i := fun i hi => by rw [← hL1, hone _ _ _ (by omega), hc.at_ i hi]
  have g2 : ∀ i, i < h → L2.getD i [] = T i := fun i hi => by rw [← hL2, wr_other _ _ _ (fun p hp => by obtain ⟨_, _, h2, _⟩ := copies_at _ _ _ hp; omega), g1 i hi]
  have g3 : ∀ i, i < h → L3.getD i [] = T i := fun i hi => by rw [← hL3, hone _ _ _ (by omega), g2 i hi]
  have z1 : L1.getD h [] = zeros := by rw [← hL1]; exact honeh _ _ (by omega)
  have z2 : L2.getD h [] = zeros := by rw [← hL2, wr_other _ _ _ (fun p hp => by obtain ⟨_, _, h2, _⟩ := copies_at _ _ _ hp; omega), z1]
  have z3 : L3.getD h [] = headB l := by rw [← hL3]; exact honeh _ _ (by omega)
  have c2 : ∀ (j : Nat) p, l[j]? = some p → L2.getD (h + 1 + j) [] = p.B := by rw [← hL2]; exact wr_copies l (h + 1) L1 (by omega)
  have c3 : ∀ (j : Nat) p, l[j]? = some p → L3.getD (h + 1 + j) [] = p.B := fun j p hj => by rw [← hL3, hone _ _ _ (by omega), c2 j p hj]
  have key : ∀ X : List (List UInt8), X.length = L.length → X.getD h [] = headB l → (∀ (j : Nat) p, l[j]? = some p → X.getD (h + 1 + j) [] = p.B) → (∀ i, i < h → (∀ p ∈ l, p.At.toNat ≠ i) → X.getD i [] = T i) → Settles h X (newT L l) := by
    intro X hX hh hcp ho
    refine .inr ⟨l, hl, hv, by omega, hh, fun i hi => ?_⟩
    rw [mends_same X l (h + 1) hcp]
    unfold newT
    exact wr_over l hv.sorted (fun p hp => (hv.each p hp).1) X L hX (fun p hp => by have := (hv.each p hp).2.1; have := (hv.each p hp).1; omega) i (fun hn => by rw [ho i hi hn, hc.at_ i hi])
  unfold rounds
  by_cases a1 : A = 1
  · have w : wput ⟨L, [], A, false⟩ ⟨(h : Int), zeros⟩ = ⟨L, [⟨(h : Int), zeros⟩], 0, true⟩ := by rw [a1]; rfl
    rw [w]
    right
    refine ⟨rfl, .inl ?_⟩
    show Settles h (tear L ⟨(h : Int), zeros⟩ (clampK keep.head?)) T
    have hk := clampK_le keep.head?
    generalize clampK keep.head? = k at hk
    have hh : (tear L ⟨(h : Int), zeros⟩ k).getD h [] = zeros.take k ++ (L.getD h []).drop k := by
      show (L.set (h : Int).toNat _).getD h [] = _
      rw [Int.toNat_natCast, getD_set_eq _ _ _ _ (by omega)]
    by_cases k0 : k = 0
    · have : tear L ⟨(h : Int), zeros⟩ k = L := by
        subst k0
        show L.set (h : Int).toNat ((L.getD (h : Int).toNat []).drop 0) = L
        rw [Int.toNat_natCast, List.drop_zero, List.getD_eq_getElem?_getD, List.getElem?_eq_getElem (show h < L.length by omega)]
        exact List.set_getElem_self _
      rw [this]
      exact hc.set_
    · exact .inl ⟨by rw [hh]; exact noHead_zeros k (by omega) hk _, fun i hi => by rw [tear_other _ _ _ _ (by show (h : Int).toNat ≠ i; omega), hc.at_ i hi]⟩
  · obtain ⟨A1, hA1'⟩ : ∃ A1, (if A = 0 then 0 else A - 1) = A1 := ⟨_, rfl⟩
    have w : wput ⟨L, [], A, false⟩ ⟨(h : Int), zeros⟩ = ⟨L, [⟨(h : Int), zeros⟩], A1, false⟩ := by
      unfold wput
      by_cases a0 : A > 0
      · rw [if_pos a0]
        rw [if_neg (by omega)] at hA1'
        show TDisk.mk L _ (A - 1) (A - 1 == 0) = _
        rw [hA1']
        congr 1
        exact beq_ne (by omega)
      · rw [if_neg a0]
        rw [if_pos (by omega)] at hA1'
        show TDisk.mk L _ A false = _
        rw [show A = A1 by omega]
        rfl
    have f : flushed ⟨L, [⟨(h : Int), zeros⟩], A1, false⟩ = ⟨L1, [], A1, false⟩ := by rw [← hL1]; rfl
    rw [w, f]
    simp only [cond_false]
    by_cases a2 : 1 ≤ A1 ∧ A1 ≤ ((copies (h + 1) l).length : Int)
    · rw [wmany_cut _ _ rfl a2.1 a2.2]
      right
      refine ⟨rfl, .inl (.inl ⟨?_, fun i hi => ?_⟩)⟩
      · show noHead ((crashL L1 ([] ++ (copies (h + 1) l).take A1.toNat) keep).getD h [])
        rw [crash_other _ _ _ _ (fun p hp => by
          rw [List.nil_append] at hp
          obtain ⟨_, _, h2, _⟩ := copies_at _ _ _ (List.mem_of_mem_take hp)
          omega), z1]
        exact noHead_zero
      · show (crashL L1 ([] ++ (copies (h + 1) l).take A1.toNat) keep).getD i [] = T i
        rw [crash_other _ _ _ _ (fun p hp => by
          rw [List.nil_append] at hp
          obtain ⟨_, _, h2, _⟩ := copies_at _ _ _ (List.mem_of_mem_take hp)
          omega), g1 i hi]
    · obtain ⟨A2, hA2'⟩ : ∃ A2, (if A1 = 0 then 0 else A1 - ((copies (h + 1) l).length : Int)) = A2 := ⟨_, rfl⟩
      have m : wmany ⟨L1, [], A1, false⟩ (copies (h + 1) l) = (⟨L1, copies (h + 1) l, A2, false⟩, true) := by
        rw [wmany_all _ _ rfl (by show 0 ≤ A1; omega) (by show A1 = 0 ∨ _ < A1; omega)]
        show (TDisk.mk L1 ([] ++ copies (h + 1) l) (if A1 = 0 then 0 else _) false, true) = _
        rw [hA2', List.nil_append]
      have f2 : flushed ⟨L1, copies (h + 1) l, A2, false⟩ = ⟨L2, [], A2, false⟩ := by rw [← hL2]; rfl
      rw [m]
      simp only [cond_true]
      rw [f2]
      by_cases a3 : A2 = 1
      · have w2 : wput ⟨L2, [], A2, false⟩ ⟨(h : Int), headB l⟩ = ⟨L2, [⟨(h : Int), headB l⟩], 0, true⟩ := by rw [a3]; rfl
        rw [w2]
        right
        refine ⟨rfl, ?_⟩
        show Settles h (tear L2 ⟨(h : Int), headB l⟩ (clampK keep.head?)) T ∨ Settles h (tear L2 ⟨(h : Int), headB l⟩ (clampK keep.head?)) (newT L l)
        have hk := clampK_le keep.head?
        generalize clampK keep.head? = k at hk
        have hh : (tear L2 ⟨(h : Int), headB l⟩ k).getD h [] = (headB l).take k ++ zeros.drop k := by
          show (L2.set (h : Int).toNat ((headB l).take k ++ (L2.getD (h : Int).toNat []).drop k)).getD h [] = _
          rw [Int.toNat_natCast, getD_set_eq _ _ _ _ (by omega), z2]
        by_cases k32 : k = 32
        · right
          refine key _ (by rw [tear_len, l2]) ?_ (fun j p hj => by rw [tear_other _ _ _ _ (by show (h : Int).toNat ≠ _; omega), c2 j p hj]) (fun i hi _ => by rw [tear_other _ _ _ _ (by show (h : Int).toNat ≠ _; omega), g2 i hi])
          rw [hh, k32, List.take_of_length_le (by rw [headB_len l h16]; exact Nat.le_refl _), show zeros.drop 32 = [] from rfl, List.append_nil]
        · left
          exact .inl ⟨by rw [hh]; exact noHead_part k (by omega) _ (headB_len l h16), fun i hi => by rw [tear_other _ _ _ _ (by show (h : Int).toNat ≠ i; omega), g2 i hi]⟩
      · obtain ⟨A3, hA3'⟩ : ∃ A3, (if A2 = 0 then 0 else A2 - 1) = A3 := ⟨_, rfl⟩
        have w2 : wput ⟨L2, [], A2, false⟩ ⟨(h : Int), headB l⟩ = ⟨L2, [⟨(h : Int), headB l⟩], A3, false⟩ := by
          unfold wput
          by_cases a0 : A2 > 0
          · rw [if_pos a0]
            rw [if_neg (by omega)] at hA3'
            show TDisk.mk L2 _ (A2 - 1) (A2 - 1 == 0) = _
            rw [hA3']
            congr 1
            exact beq_ne (by omega)
          · rw [if_neg a0]
            show TDisk.mk L2 _ A2 false = _
            rw [show A2 = A3 by
              split at hA3'
              · omega
              · split at hA2' <;> omega]
            rfl
        have f3 : flushed ⟨L2, [⟨(h : Int), headB l⟩], A3, false⟩ = ⟨L3, [], A3, false⟩ := by rw [← hL3]; rfl
        rw [w2, f3]
        simp only [cond_false]
        by_cases a4 : 1 ≤ A3 ∧ A3 ≤ (l.length : Int)
        · rw [wmany_cut _ _ rfl a4.1 a4.2]
          right
          refine ⟨rfl, .inr ?_⟩
          show Settles h (crashL L3 ([] ++ l.take A3.toNat) keep) (newT L l)
          rw [List.nil_append]
          refine key _ (by rw [crash_len, l3]) ?_ (fun j p hj => ?_) (fun i hi hn => ?_)
          · rw [crash_other _ _ _ _ (fun p hp => by have := (hv.each p (List.mem_of_mem_take hp)).2.1; have := (hv.each p (List.mem_of_mem_take hp)).1; omega), z3]
          · rw [crash_other _ _ _ _ (fun q hq => by have := (hv.each q (List.mem_of_mem_take hq)).2.1; have := (hv.each q (List.mem_of_mem_take hq)).1; omega), c3 j p hj]
          · rw [crash_other _ _ _ _ (fun q hq => hn q (List.mem_of_mem_take hq)), g3 i hi]
        · left
          have hA2nn : 0 ≤ A2 := by
            rw [copies_len] at a2 hA2'
            split at hA2' <;> omega
          have hA3nn : 0 ≤ A3 := by split at hA3' <;> omega
          rw [wmany_all _ _ rfl (by show 0 ≤ A3; exact hA3nn) (by show A3 = 0 ∨ _ < A3; omega)]
          refine ⟨rfl, ?_, rfl, rfl⟩
          show wr L3 ([] ++ l) = after L h l
          rw [List.nil_append]
          unfold after
          rw [hL1, hL2, hL3]
open Go
theorem ext_getD {A B : List (List UInt8)} (hl : A.length = B.length) (h : ∀ i, A.getD i [] = B.getD i []) : A = B := by
  apply List.ext_getElem hl
  intro i h1 h2
  have := h i
  rw [List.getD_eq_getElem?_getD, List.getD_eq_getElem?_getD, List.getElem?_eq_getElem h1, List.getElem?_eq_getElem h2] at this
  exact this
theorem mends_at (L : List (List UInt8)) : ∀ (n : Nat) (q : List TPut) (x : TPut), x ∈ mends L n q → ∃ p ∈ q, x.At = p.At
  | _, [], _, h => by cases h
  | n, p :: r, x, h => by
    rw [mends] at h
    rcases List.mem_cons.1 h with rfl | h
    · exact ⟨p, List.mem_cons_self .., rfl⟩
    · obtain ⟨p', h1, h2⟩ := mends_at L (n + 1) r x h
      exact ⟨p', List.mem_cons_of_mem _ h1, h2⟩
theorem mends_sorted (L : List (List UInt8)) : ∀ (n : Nat) (q : List TPut), q.Pairwise (fun a b => a.At < b.At) → (mends L n q).Pairwise (fun a b => a.At < b.At)
  | _, [], _ => .nil
  | n, p :: r, h => by
    rw [mends]
    refine .cons (fun x hx => ?_) (mends_sorted L (n + 1) r (List.Pairwise.of_cons h))
    obtain ⟨p', h1, h2⟩ := mends_at L (n + 1) r x hx
    rw [h2]
    exact List.rel_of_pairwise_cons h h1
theorem mends_congr {X Y : List (List UInt8)} : ∀ (n : Nat) (q : List TPut), (∀ i, n ≤ i → Y.getD i [] = X.getD i []) → mends Y n q = mends X n q
  | _, [], _ => rfl
  | n, p :: r, h => by
    rw [mends, mends, h n (Nat.le_refl _), mends_congr (n + 1) r fun i hi => h i (by omega)]
theorem remend {h : Nat} {X : List (List UInt8)} {q : List TPut} (hv : Valid h q) (hn : h + q.length < X.length) :
    mends (wr X (mends X (h + 1) q)) (h + 1) q = mends X (h + 1) q ∧ wr (wr X (mends X (h + 1) q)) (mends X (h + 1) q) = wr X (mends X (h + 1) q) := by
  have hat : ∀ p ∈ mends X (h + 1) q, 0 ≤ p.At ∧ p.At < h := by
    intro p hp
    obtain ⟨p', h1, h2⟩ := mends_at _ _ _ _ hp
    rw [h2]
    exact ⟨(hv.each p' h1).1, (hv.each p' h1).2.1⟩
  refine ⟨mends_congr _ _ fun i hi => wr_other _ _ _ fun p hp => by have := hat p hp; omega, ?_⟩
  apply ext_getD (by rw [wr_len])
  intro i
  exact wr_over _ (mends_sorted X (h + 1) q hv.sorted) (fun p hp => (hat p hp).1) _ _ (wr_len _ _) (fun p hp => by rw [wr_len]; have := hat p hp; omega) i (fun hno => wr_other _ _ _ hno)
structure Good0 (d : TDisk) : Prop where
  ok : DOk d
  len : d.Last.length = 19
  wait : d.Wait = []
  up : d.Down = false
  arm : d.Arm = 0
theorem Mend_settles {d : TDisk} (hd : Good0 d) {T : Nat → List UInt8} (hs : Settles 9 d.Last T) : ∃ d' b, jrnl_Mend fuel d 9 = some (d', b) ∧ Good0 d' ∧ Clean 9 d'.Last T ∧ ∃ b', jrnl_Mend fuel d' 9 = some (d', b') := by
  rcases hs with ⟨hn, ha⟩ | ⟨q, hq, hv, hl, hh, ha⟩
  · have hm := Mend_no d hd.ok hd.up hd.wait 9 (by rw [hd.len]; omega) hn
    rw [show ((9 : Nat) : Int) = 9 from rfl] at hm
    exact ⟨d, false, hm, hd, Clean.mk_no hn ha, false, hm⟩
  · have hmy : ∀ (e : TDisk), Good0 e → 9 + q.length < e.Last.length → e.Last.getD 9 [] = headB q → jrnl_Mend fuel e 9 = some (⟨wr e.Last (mends e.Last 10 q), [], 0, false⟩, true) := by
      intro e he hl hh
      have hm := Mend_yes e he.ok he.up he.wait 9 (by omega) q hq hv hl hh
      rw [show ((9 : Nat) : Int) = 9 from rfl] at hm
      obtain ⟨L, W, A, D⟩ := e
      have h1 := he.wait
      have h2 := he.up
      have h3 := he.arm
      simp only at h1 h2 h3
      subst h1 h2 h3
      have hw : wmany ⟨L, [], 0, false⟩ (mends L (9 + 1) q) = (⟨L, mends L 10 q, 0, false⟩, true) := wmany_all (mends L (9 + 1) q) ⟨L, [], 0, false⟩ rfl (Int.le_refl _) (.inl rfl)
      rw [hm, hw]
      rfl
    have hat : ∀ p ∈ mends d.Last 10 q, 0 ≤ p.At ∧ p.At < 9 := by
      intro p hp
      obtain ⟨p', h1, h2⟩ := mends_at _ _ _ _ hp
      rw [h2]
      exact ⟨(hv.each p' h1).1, (hv.each p' h1).2.1⟩
    have hmok := mends_ok d.Last 9 hd.ok.last 10 q hv.each (by rw [hd.len]; omega) (by omega)
    have hm := hmy d hd hl hh
    obtain ⟨Y, hY⟩ : ∃ Y, wr d.Last (mends d.Last 10 q) = Y := ⟨_, rfl⟩
    have ly : Y.length = 19 := by rw [← hY, wr_len, hd.len]
    have hg : Good0 ⟨Y, [], 0, false⟩ := ⟨⟨by rw [← hY]; exact wr_each _ _ hd.ok.last (fun p hp => (hmok p hp).2.2), by show Y.length ≤ 1000; omega, (fun q hq => nomatch hq), by show (0 : Nat) ≤ 1000; omega, Int.le_refl _, by show (0 : Int) ≤ 1000; omega⟩, ly, rfl, rfl, rfl⟩
    obtain ⟨r1, r2⟩ := remend hv hl
    have r1' : mends Y 10 q = mends d.Last 10 q := by rw [← hY]; exact r1
    have r2' : wr Y (mends d.Last 10 q) = Y := by rw [← hY]; exact r2
    have hyh : Y.getD 9 [] = headB q := by rw [← hY, wr_other _ _ _ (fun p hp => by have := hat p hp; omega), hh]
    have hya : ∀ i, i < 9 → Y.getD i [] = T i := fun i hi => by rw [← hY]; exact ha i hi
    have hm2 := hmy ⟨Y, [], 0, false⟩ hg (by show 9 + q.length < Y.length; rw [ly, ← hd.len]; exact hl) hyh
    rw [hY] at hm
    refine ⟨⟨Y, [], 0, false⟩, true, hm, hg, ⟨hya, .inr ⟨q, hq, hv, by show 9 + q.length < Y.length; rw [ly, ← hd.len]; exact hl, hyh, fun i hi => ?_⟩⟩, true, ?_⟩
    · rw [r1', r2']; exact hya i hi
    · rw [hm2]
      show some (TDisk.mk (wr Y (mends Y 10 q)) [] 0 false, true) = _
      rw [r1', r2']
theorem sectors_ok {d : TDisk} (hd : Good0 d) {s : TState} (hs : Good 1073741824 s) (ha : ∀ i, i < 9 → d.Last.getD i [] = (img s).getD i []) : store_sectors fuel d = some (.inl (img s)) := by
  have l1 := img_len hs
  unfold store_sectors store_sectors_k
  rw [home_ok, some_bind]
  unfold store_sectors_l0
  obtain ⟨x, e, hx⟩ := iter_inv (step := store_sectors_s0 9 d) (fun k v => ∃ i : Nat, v.1 = (i : Int) ∧ i + k = 9 ∧ v.2 = (img s).take i) (fun r => r = .inr (img s)) (fun k v hI => by
    obtain ⟨v1, v2⟩ := v
    obtain ⟨i, h1, hk, h2⟩ := hI
    simp only at h1 h2
    subst h1 h2
    simp only [store_sectors_s0, store_sectors_s0k]
    by_cases hlt : i < 9
    · rw [decide_eq_true (show (i : Int) < 9 by omega), Read_plain d hd.up i (by rw [hd.len]; omega) (fun q hq => by rw [hd.wait] at hq; cases hq), decide_eq_true (show ((img s).take i).length + 1 ≤ lim by rw [lim_eq, List.length_take]; omega), wi64_succ (by omega), ha i hlt]
      refine ⟨_, rfl, k - 1, by omega, i + 1, rfl, by omega, ?_⟩
      rw [List.take_add_one, List.getD_eq_getElem?_getD, List.getElem?_eq_getElem (show i < (img s).length by omega)]
      rfl
    · obtain rfl : i = 9 := by omega
      exact ⟨_, rfl, by rw [List.take_of_length_le (by omega)]; rfl⟩) 9 (0, []) fuel ⟨0, rfl, rfl, rfl⟩ (fuel_gt (by omega))
  rw [e, hx, some_bind]
  rfl
theorem Open_settles {d : TDisk} (hd : Good0 d) {s : TState} (hs : Good 1073741824 s) (hset : Settles 9 d.Last (fun i => (img s).getD i [])) :
    ∃ d', store_Open fuel d = some (⟨d', s⟩, true) ∧ Good0 d' ∧ Clean 9 d'.Last (fun i => (img s).getD i []) ∧ store_Open fuel d' = some (⟨d', s⟩, true) := by
  obtain ⟨d', b, hm, hg, hc, b', hm'⟩ := Mend_settles hd hset
  have l1 := img_len hs
  obtain ⟨t, et, ht⟩ := Take_ok (img s) (by omega) (by have := flat_le (img s) (fun x hx => by rw [img_each hs x hx]; omega); rw [lim_eq]; omega)
  have ht2 : t = (s, true) := taken_one ht (.inl ⟨s, hs, rfl, rfl⟩)
  subst ht2
  have go : ∀ (e : TDisk) (c : Bool), Good0 e → jrnl_Mend fuel e 9 = some (d', c) → store_Open fuel e = some (⟨d', s⟩, true) := by
    intro e c he hme
    unfold store_Open store_Open_k
    rw [size_ok, some_bind, eq_int (show (e.Last.length : Int) = 19 by have := he.len; omega), he.up, home_ok]
    simp only [cond_false, some_bind]
    rw [hme, some_bind, sectors_ok hg hs hc.at_, some_bind]
    simp only [alt_inl]
    rw [et]
    rfl
  exact ⟨d', go d b hd hm, hg, hc, go d' b' hg hm'⟩
open Go
theorem Settles.congr {h : Nat} {L : List (List UInt8)} {T T' : Nat → List UInt8} (hs : Settles h L T) (he : ∀ i, i < h → T i = T' i) : Settles h L T' := by
  rcases hs with ⟨a, b⟩ | ⟨q, a, b, c, d, e⟩
  · exact .inl ⟨a, fun i hi => (b i hi).trans (he i hi)⟩
  · exact .inr ⟨q, a, b, c, d, fun i hi => (e i hi).trans (he i hi)⟩
theorem Clean.congr {h : Nat} {L : List (List UInt8)} {T T' : Nat → List UInt8} (hs : Clean h L T) (he : ∀ i, i < h → T i = T' i) : Clean h L T' := ⟨fun i hi => (hs.at_ i hi).trans (he i hi), hs.set_.congr he⟩
theorem clean_after {h : Nat} {L : List (List UInt8)} {l : List TPut} (hl : l ≠ []) (hv : Valid h l) (hn : h + l.length < L.length) : Clean h (after L h l) (newT L l) := by
  have hat : ∀ i, i < h → (after L h l).getD i [] = newT L l i := fun i hi => after_home L h l i hi
  have hbig : ∀ i, h ≤ i → (after L h l).getD i [] = (wr (wr (wr L [⟨(h : Int), zeros⟩]) (copies (h + 1) l)) [⟨(h : Int), headB l⟩]).getD i [] := fun i hi => by
    unfold after
    rw [wr_other l _ i (fun p hp => by have := (hv.each p hp).2.1; have := (hv.each p hp).1; omega)]
  have hh : (after L h l).getD h [] = headB l := by
    rw [hbig h (Nat.le_refl _)]
    show (List.set _ (h : Int).toNat (headB l)).getD h [] = _
    rw [Int.toNat_natCast, getD_set_eq _ _ _ _ (by rw [wr_len, wr_len]; omega)]
  have hc : ∀ (j : Nat) p, l[j]? = some p → (after L h l).getD (h + 1 + j) [] = p.B := fun j p hj => by
    rw [hbig _ (by omega), wr_other _ _ _ (fun x hx => by rw [List.mem_singleton.1 hx]; show (h : Int).toNat ≠ _; omega)]
    exact wr_copies l (h + 1) _ (by rw [wr_len]; omega) j p hj
  refine ⟨hat, .inr ⟨l, hl, hv, by rw [after_len]; exact hn, hh, fun i hi => ?_⟩⟩
  rw [mends_same _ l (h + 1) hc]
  unfold newT
  exact wr_over l hv.sorted (fun p hp => (hv.each p hp).1) _ L (after_len L h l) (fun p hp => by rw [after_len]; have := (hv.each p hp).2.1; have := (hv.each p hp).1; omega) i (fun hno => by rw [hat i hi]; unfold newT; exact wr_other _ _ _ hno)
theorem rounds_ok (d : TDisk) (hd : DOk d) (hW : d.Wait = []) (home : Nat) (l : List TPut) (hv : Valid home l) (hn : home + l.length < d.Last.length) : DOk (rounds d home l).1 ∧ (rounds d home l).1.Last.length = d.Last.length := by
  unfold rounds
  have h16 := hv.len
  have hz : okP d.Last.length ⟨(home : Int), zeros⟩ := ⟨by show (0 : Int) ≤ home; omega, by show (home : Int) < _; omega, rfl⟩
  have d1 := wput_ok hd (by rw [hW]; simp) hz
  have L1 := wput_last d ⟨(home : Int), zeros⟩
  generalize wput d ⟨(home : Int), zeros⟩ = a at d1 L1
  cases a.Down with
  | true => exact ⟨d1, by rw [cond_true, L1]⟩
  | false =>
    simp only [cond_false]
    have d2 := flushed_ok d1
    have N2 : (flushed a).Last.length = d.Last.length := by rw [flushed_len, L1]
    have W2 : (flushed a).Wait = [] := rfl
    generalize flushed a = b at d2 N2 W2
    have hcp : ∀ p ∈ copies (home + 1) l, okP b.Last.length p := by
      intro p hp
      obtain ⟨q, hq, h1, h2, h3⟩ := copies_at _ _ _ hp
      exact ⟨by omega, by rw [N2]; omega, by rw [h3]; exact (hv.each q hq).2.2⟩
    have d3 := wmany_ok (copies (home + 1) l) b d2 (by rw [W2, copies_len]; simp; omega) hcp
    have L3 := wmany_last (copies (home + 1) l) b
    cases (wmany b (copies (home + 1) l)).2 with
    | false => exact ⟨d3, by rw [cond_false, L3, N2]⟩
    | true =>
      simp only [cond_true]
      generalize (wmany b (copies (home + 1) l)).1 = c at d3 L3
      have d4 := flushed_ok d3
      have N4 : (flushed c).Last.length = d.Last.length := by rw [flushed_len, L3, N2]
      have W4 : (flushed c).Wait = [] := rfl
      generalize flushed c = q at d4 N4 W4
      have hq : okP q.Last.length ⟨(home : Int), headB l⟩ := ⟨by show (0 : Int) ≤ home; omega, by show (home : Int) < _; omega, headB_len l h16⟩
      have d5 := wput_ok d4 (by rw [W4]; simp) hq
      have L5 := wput_last q ⟨(home : Int), headB l⟩
      generalize wput q ⟨(home : Int), headB l⟩ = u at d5 L5
      cases u.Down with
      | true => exact ⟨d5, by rw [cond_true, L5, N4]⟩
      | false =>
        simp only [cond_false]
        have d6 := flushed_ok d5
        have N6 : (flushed u).Last.length = d.Last.length := by rw [flushed_len, L5, N4]
        have W6 : (flushed u).Wait = [] := rfl
        generalize flushed u = v at d6 N6 W6
        have hlv : ∀ p ∈ l, okP v.Last.length p := by
          intro p hp
          obtain ⟨h1, h2, h3⟩ := hv.each p hp
          exact ⟨h1, by rw [N6]; omega, h3⟩
        have d7 := wmany_ok l v d6 (by rw [W6]; simp; omega) hlv
        have L7 := wmany_last l v
        cases (wmany v l).2 with
        | true => exact ⟨flushed_ok d7, by rw [cond_true, flushed_len, L7, N6]⟩
        | false => exact ⟨d7, by rw [cond_false, L7, N6]⟩
theorem wput_arm (d : TDisk) (p : TPut) : (wput d p).Arm ≤ d.Arm := by
  unfold wput
  split
  · show d.Arm - 1 ≤ d.Arm; omega
  · exact Int.le_refl _
theorem wmany_arm : ∀ (ws : List TPut) (d : TDisk), (wmany d ws).1.Arm ≤ d.Arm
  | [], d => Int.le_refl _
  | p :: r, d => by
    rw [wmany]
    cases (wput d p).Down with
    | true => exact wput_arm d p
    | false => exact Int.le_trans (wmany_arm r _) (wput_arm d p)
theorem rounds_arm (d : TDisk) (home : Nat) (l : List TPut) : (rounds d home l).1.Arm ≤ d.Arm := by
  have hf : ∀ e : TDisk, (flushed e).Arm = e.Arm := fun _ => rfl
  have h1 := wput_arm d ⟨(home : Int), zeros⟩
  have h2 := wmany_arm (copies (home + 1) l) (flushed (wput d ⟨(home : Int), zeros⟩))
  have h3 := wput_arm (flushed (wmany (flushed (wput d ⟨(home : Int), zeros⟩)) (copies (home + 1) l)).1) ⟨(home : Int), headB l⟩
  have h4 := wmany_arm l (flushed (wput (flushed (wmany (flushed (wput d ⟨(home : Int), zeros⟩)) (copies (home + 1) l)).1) ⟨(home : Int), headB l⟩))
  rw [hf] at h2 h3 h4
  unfold rounds
  cases (wput d ⟨(home : Int), zeros⟩).Down with
  | true => exact h1
  | false =>
    cases (wmany (flushed (wput d ⟨(home : Int), zeros⟩)) (copies (home + 1) l)).2 with
    | false => exact Int.le_trans h2 h1
    | true =>
      cases (wput (flushed (wmany (flushed (wput d ⟨(home : Int), zeros⟩)) (copies (home + 1) l)).1) ⟨(home : Int), headB l⟩).Down with
      | true => exact Int.le_trans h3 (Int.le_trans h2 h1)
      | false =>
        cases (wmany (flushed (wput (flushed (wmany (flushed (wput d ⟨(home : Int), zeros⟩)) (copies (home + 1) l)).1) ⟨(home : Int), headB l⟩)) l).2 with
        | true => exact Int.le_trans h4 (Int.le_trans h3 (Int.le_trans h2 h1))
        | false => exact Int.le_trans h4 (Int.le_trans h3 (Int.le_trans h2 h1))
theorem Commit_any {L : List (List UInt8)} {A : Int} {s t : TState} (hL : ∀ x ∈ L, x.length = 32) (hN : L.length = 19) (hA0 : 0 ≤ A) (hA1 : A ≤ 900) (hs : Good 1073741824 s) (ht : Good 1073741824 t) (hc : Clean 9 L (fun i => (img s).getD i [])) :
    ∃ d' b, store_Commit fuel ⟨⟨L, [], A, false⟩, s⟩ t = some (⟨d', bif b then t else s⟩, b) ∧ DOk d' ∧ d'.Last.length = 19 ∧
      (b = true → d'.Wait = [] ∧ d'.Down = false ∧ Clean 9 d'.Last (fun i => (img t).getD i [])) ∧
      (b = false → ∀ keep, Settles 9 (crashL d'.Last d'.Wait keep) (fun i => (img s).getD i []) ∨ Settles 9 (crashL d'.Last d'.Wait keep) (fun i => (img t).getD i [])) ∧
      (A = 0 → b = true ∧ d'.Arm = 0) ∧ d'.Arm ≤ A := by
  have l1 := img_len hs
  have l2 := img_len ht
  have d0 : DOk ⟨L, [], A, false⟩ := ⟨hL, by show L.length ≤ 1000; omega, (fun q hq => nomatch hq), by show (0 : Nat) ≤ 1000; omega, hA0, by show A ≤ 1000; omega⟩
  unfold store_Commit store_Commit_k
  rw [Put_ok _ (good_names ht), some_bind, putI_good ht, show (((img t).length : Int) == 0) = false from beq_ne (by omega), home_ok]
  simp only [cond_false, some_bind]
  rw [Put_ok _ (good_names hs), some_bind, putI_good hs, Diff_ok _ _ (by omega), some_bind]
  by_cases he : diffP (img s) (img t) = []
  · have hst : img s = img t := (diff_nil (by omega)).1 he
    rw [he]
    refine ⟨⟨L, [], A, false⟩, true, rfl, d0, hN, fun _ => ⟨rfl, rfl, ?_⟩, fun h => (by cases h), fun h => ⟨rfl, h⟩, Int.le_refl _⟩
    rw [← hst]
    exact hc
  · have hv := diff_valid hs ht
    have hlen9 : (diffP (img s) (img t)).length ≤ 9 := by
      have := diff_len (img s) (img t) (img t).length
      unfold diffP
      omega
    have hnew : ∀ i, i < 9 → newT L (diffP (img s) (img t)) i = (img t).getD i [] := fun i hi => wr_diff hs ht L (by omega) hc.at_ i hi
    have hcm := Commit_ok ⟨L, [], A, false⟩ d0 rfl (by show (0 : Nat) < 1000; omega) 9 _ he hv (by show 9 + _ < L.length; omega) (by omega)
    rw [show ((9 : Nat) : Int) = 9 from rfl] at hcm
    rw [hcm]
    obtain ⟨k1, k2⟩ := rounds_ok ⟨L, [], A, false⟩ d0 rfl 9 _ hv (by show 9 + _ < L.length; omega)
    have hcut := settles_cut hL (by omega) hc _ he hv (by omega) A hA0 hA1
    have hall : A = 0 → (rounds ⟨L, [], A, false⟩ 9 (diffP (img s) (img t))).2 = true ∧ (rounds ⟨L, [], A, false⟩ 9 (diffP (img s) (img t))).1.Arm = 0 := by
      rintro rfl
      rw [rounds_all]
      exact ⟨rfl, rfl⟩
    have harm : (rounds ⟨L, [], A, false⟩ 9 (diffP (img s) (img t))).1.Arm ≤ A := rounds_arm ⟨L, [], A, false⟩ 9 _
    generalize hR : rounds ⟨L, [], A, false⟩ 9 (diffP (img s) (img t)) = R at k1 k2 hcut hall harm
    obtain ⟨d', b⟩ := R
    simp only at k1 k2 hcut hall harm
    refine ⟨d', b, by cases b <;> rfl, k1, by rw [k2]; exact hN, fun hb => ?_, fun hb keep => ?_, hall, harm⟩
    · rcases hcut [] with ⟨_, c2, c3, c4⟩ | ⟨c1, _⟩
      · refine ⟨c3, c4, ?_⟩
        rw [c2]
        exact (clean_after he hv (by omega)).congr hnew
      · rw [hb] at c1; cases c1
    · rcases hcut keep with ⟨c1, _⟩ | ⟨_, c2⟩
      · rw [hb] at c1; cases c1
      · rcases c2 with c2 | c2
        · exact .inl c2
        · exact .inr (c2.congr hnew)
theorem clean_new : Clean 9 (List.replicate 19 zeros) (fun i => (img newState).getD i []) := by
  refine Clean.mk_no ?_ Holds_new.at_
  have : (List.replicate 19 zeros).getD 9 [] = zeros := by rw [List.getD_eq_getElem?_getD, List.getElem?_replicate, if_pos (by omega)]; rfl
  rw [this]
  exact noHead_zero
open Go
theorem state_self' {s : TState} (h : Good 1073741824 s) : ref7_SameState fuel s s = some true := SameState_self s (by rw [h.nm]; omega) (by rw [h.nf]; omega)
theorem keeps_round {L : List (List UInt8)} {A : Int} {s t : TState} (hL : ∀ x ∈ L, x.length = 32) (hN : L.length = 19) (hA0 : 0 ≤ A) (hA1 : A ≤ 900) (hs : Good 1073741824 s) (ht : Good 1073741824 t) (hc : Clean 9 L (fun i => (img s).getD i [])) (keep : List Int) :
    ∃ d' b, store_Commit fuel ⟨⟨L, [], A, false⟩, s⟩ t = some (⟨d', bif b then t else s⟩, b) ∧
      ∃ c, ref5_Crash fuel d' (bif b then [] else keep) = some c ∧ ∃ e S, store_Open fuel c = some (⟨e, S⟩, true) ∧ Good 1073741824 S ∧ (b = true → S = t) ∧ (S = t ∨ S = s) ∧
        (∃ L', (bif b then d' else e) = ⟨L', [], (bif b then d' else e).Arm, false⟩ ∧ L'.length = 19 ∧ (∀ x ∈ L', x.length = 32) ∧ 0 ≤ (bif b then d' else e).Arm ∧ (bif b then d' else e).Arm ≤ 900 ∧ Clean 9 L' (fun i => (img S).getD i [])) := by
  obtain ⟨d', b, c1, k1, n1, y1, x1, _, z1⟩ := Commit_any hL hN hA0 hA1 hs ht hc
  refine ⟨d', b, c1, _, Crash_ok d' k1 _, ?_⟩
  cases b with
  | true =>
    obtain ⟨w, u, cl⟩ := y1 rfl
    have hg : Good0 ⟨d'.Last, [], 0, false⟩ := ⟨⟨k1.last, by show d'.Last.length ≤ 1000; omega, (fun q hq => nomatch hq), by show (0 : Nat) ≤ 1000; omega, Int.le_refl _, by show (0 : Int) ≤ 1000; omega⟩, n1, rfl, rfl, rfl⟩
    obtain ⟨e, o, _⟩ := Open_settles hg ht cl.set_
    simp only [cond_true]
    rw [w]
    refine ⟨e, t, o, ht, fun _ => rfl, .inl rfl, d'.Last, ?_, n1, k1.last, k1.a0, by omega, cl⟩
    obtain ⟨a1, a2, a3, a4⟩ := d'
    simp only at w u
    subst w u
    rfl
  | false =>
    have hg : Good0 ⟨crashL d'.Last d'.Wait keep, [], 0, false⟩ := ⟨⟨crash_each _ _ _ k1.last k1.wait, by show (crashL d'.Last d'.Wait keep).length ≤ 1000; rw [crash_len]; omega, (fun q hq => nomatch hq), by show (0 : Nat) ≤ 1000; omega, Int.le_refl _, by show (0 : Int) ≤ 1000; omega⟩, by show (crashL d'.Last d'.Wait keep).length = 19; rw [crash_len]; exact n1, rfl, rfl, rfl⟩
    have go : ∀ S, Good 1073741824 S → Settles 9 (crashL d'.Last d'.Wait keep) (fun i => (img S).getD i []) → ∃ e, store_Open fuel ⟨crashL d'.Last d'.Wait keep, [], 0, false⟩ = some (⟨e, S⟩, true) ∧
        (∃ L', e = ⟨L', [], e.Arm, false⟩ ∧ L'.length = 19 ∧ (∀ x ∈ L', x.length = 32) ∧ 0 ≤ e.Arm ∧ e.Arm ≤ 900 ∧ Clean 9 L' (fun i => (img S).getD i [])) := by
      intro S hS hset
      obtain ⟨e, o, g, cl, _⟩ := Open_settles hg hS hset
      refine ⟨e, o, e.Last, ?_, g.len, g.ok.last, by rw [g.arm]; omega, by rw [g.arm]; omega, cl⟩
      have h1 := g.wait
      have h2 := g.up
      obtain ⟨a1, a2, a3, a4⟩ := e
      simp only at h1 h2
      subst h1 h2
      rfl
    simp only [cond_false]
    rcases x1 rfl keep with h | h
    · obtain ⟨e, o, r⟩ := go s hs h
      exact ⟨e, s, o, hs, fun h => (by cases h), .inr rfl, r⟩
    · obtain ⟨e, o, r⟩ := go t ht h
      exact ⟨e, t, o, ht, fun h => (by cases h), .inl rfl, r⟩
abbrev KB : Type := (Int × TStore × TState) ⊕ ((TStore × TState × Ttenancymade_Picks × TState × TStore × TStore) ⊕ ((TStore × TState × Ttenancymade_Picks × TState × TStore × TStore) ⊕ (TStore × TState)))
theorem cut20 (l : List UInt8) (h : l.length = 20) : cutL l 0 20 = l := by
  have := cut_front l 20
  rw [show ((20 : Nat) : Int) = 20 from rfl, List.take_of_length_le (by omega)] at this
  exact this
theorem law12_StoreKeeps_ok (l : List (List UInt8)) (which arm : UInt8) (keep : List Int) (hl : l.length = 6 ∧ ∀ x ∈ l, x.length = 20) (hk : keep.length ≤ 1048576) : law12_StoreKeeps fuel l which arm keep = some true := by
  obtain ⟨hl, hx⟩ := hl
  unfold law12_StoreKeeps law12_StoreKeeps_k
  rw [store_begun, some_bind]
  simp only [Bool.not_true, cond_false]
  by_cases h3 : (keep.length : Int) > 20
  · rw [decide_eq_true h3]; rfl
  rw [decide_eq_false h3, Make_ok]
  simp only [cond_false, some_bind]
  have m0 : 0 ≤ (i8 arm).tmod 30 := by rw [Int.tmod_eq_emod_of_nonneg (i8_lo arm)]; exact Int.emod_nonneg _ (by omega)
  have m1 : (i8 arm).tmod 30 < 30 := by rw [Int.tmod_eq_emod_of_nonneg (i8_lo arm)]; exact Int.emod_lt_of_pos _ (by omega)
  have m2 : wi64 (i8 (b8 ((i8 arm).tmod 30))) = (i8 arm).tmod 30 := by rw [i8_b8 m0 (by omega), wi64_of (by omega) (by omega)]
  unfold law12_StoreKeeps_l0
  obtain ⟨z, e, hz⟩ := iter_inv (step := law12_StoreKeeps_s0 fuel which arm keep l l) (fun k v => ∃ i : Nat, v.1 = (i : Int) ∧ i + k = 6 ∧ v.2.2 = v.2.1.S ∧ Good 1073741824 v.2.2 ∧ ∃ L A, v.2.1.D = ⟨L, [], A, false⟩ ∧ L.length = 19 ∧ (∀ x ∈ L, x.length = 32) ∧ 0 ≤ A ∧ A ≤ 900 ∧ Clean 9 L (fun i => (img v.2.2).getD i [])) (fun r => ∃ x, r = .inr (.inr x)) (fun k v hI => by
    obtain ⟨v1, v2, old⟩ := v
    obtain ⟨D, S0⟩ := v2
    obtain ⟨i, h1, hk, h4, hg, L, A, h2, hN, hL, hA0, hA1, hc⟩ := hI
    simp only at h1 h2 h4 hg hc
    subst h1 h2 h4
    simp only [law12_StoreKeeps_s0, law12_StoreKeeps_s0k]
    by_cases hlt : i < 6
    · have hil : i < l.length := by omega
      have hy := hx _ (List.getElem_mem hil)
      rw [decide_eq_true (show (i : Int) < 6 by omega), inR_of (show (0 : Int) ≤ i by omega) (show (i : Int) < ((6 : Nat) : Int) by omega), Int.toNat_natCast, List.getElem?_eq_getElem hil]
      simp only [cond_true, some_bind]
      rw [cutOk_of (by omega) (by omega) (by omega), cut20 _ hy]
      obtain ⟨r, er, hr⟩ := State_ok 8 (by omega) (made_Made l[i]) (made_ok l[i] (by omega))
      have er' : made_Picks_State fuel 8 (made_Made l[i]) = some r := er
      rw [er']
      simp only [cond_true, some_bind]
      generalize r.1 = t at hr
      generalize r.2 = pk
      have hround : ∀ B : Int, 0 ≤ B → B ≤ 900 → ∀ {β : Type} (kk : (Int × TStore × TState) → Option β) (kf : TStore → TStore → Option β),
          ∃ st' old', (((store_Commit fuel ⟨⟨L, [], B, false⟩, old⟩ t)).bind fun r_14 =>
            bif r_14.2 then (((ref5_Crash fuel r_14.1.D [])).bind fun r_15 =>
              ((store_Open fuel r_15)).bind fun r_16 =>
              bif (!r_16.2) then kf r_14.1 r_16.1
              else ((ref7_SameState fuel r_16.1.S t)).bind fun r_17 =>
                bif (!r_17) then kf r_14.1 r_16.1
                else ((ref7_SameState fuel r_14.1.S t)).bind fun r_18 =>
                  bif (!r_18) then kf r_14.1 r_16.1
                  else kk ((wi64 ((i : Int) + 1)), r_14.1, t))
            else ((ref5_Crash fuel r_14.1.D keep)).bind fun r_19 =>
              ((store_Open fuel r_19)).bind fun r_20 =>
              bif (!r_20.2) then kf r_14.1 r_20.1
              else ((ref7_SameState fuel r_20.1.S t)).bind fun r_21 =>
                bif (!r_21) then (((ref7_SameState fuel r_20.1.S old)).bind fun r_22 =>
                  bif (!r_22) then kf r_14.1 r_20.1
                  else ((ref7_SameState fuel r_14.1.S old)).bind fun r_23 =>
                    bif (!r_23) then kf r_14.1 r_20.1
                    else kk ((wi64 ((i : Int) + 1)), r_20.1, r_20.1.S))
                else ((ref7_SameState fuel r_14.1.S old)).bind fun r_24 =>
                  bif (!r_24) then kf r_14.1 r_20.1
                  else kk ((wi64 ((i : Int) + 1)), r_20.1, r_20.1.S)) = kk ((i : Int) + 1, st', old') ∧ old' = st'.S ∧ Good 1073741824 old' ∧ ∃ L A, st'.D = ⟨L, [], A, false⟩ ∧ L.length = 19 ∧ (∀ x ∈ L, x.length = 32) ∧ 0 ≤ A ∧ A ≤ 900 ∧ Clean 9 L (fun i => (img old').getD i []) := by
        intro B hB0 hB1 β kk kf
        obtain ⟨d', b, c1, c, q1, e, S, o1, gS, hSt, hSo, L', hL1, hL2, hL3, hL4, hL5, hL6⟩ := keeps_round hL hN hB0 hB1 hg hr hc keep
        rw [c1, some_bind]
        cases b with
        | true =>
          obtain rfl := hSt rfl
          simp only [cond_true] at q1 hL1 hL4 hL5 ⊢
          rw [q1, some_bind, o1]
          simp only [some_bind, Bool.not_true, cond_false]
          rw [state_self' gS]
          simp only [some_bind, Bool.not_true, cond_false]
          rw [wi64_succ (by omega)]
          exact ⟨_, _, rfl, rfl, gS, L', _, hL1, hL2, hL3, hL4, hL5, hL6⟩
        | false =>
          simp only [cond_false] at q1 hL1 hL4 hL5 ⊢
          rw [q1, some_bind, o1]
          simp only [some_bind, Bool.not_true, cond_false]
          obtain ⟨r1, e1, i1⟩ := SameState_ok S t (by rw [gS.nm]; omega) (by rw [gS.nf]; omega)
          obtain ⟨r2, e2, i2⟩ := SameState_ok S old (by rw [gS.nm]; omega) (by rw [gS.nf]; omega)
          rw [e1, e2, state_self' hg, wi64_succ (by omega)]
          simp only [some_bind, Bool.not_true, cond_false]
          refine ⟨⟨e, S⟩, S, ?_, rfl, gS, L', _, hL1, hL2, hL3, hL4, hL5, hL6⟩
          rcases hSo with h | h
          · rw [i1.2 h]; rfl
          · cases r1 with
            | true => rfl
            | false => rw [i2.2 h]; rfl
      cases hw : ((i : Int) == wi64 (i8 (b8 ((i8 which).tmod 6)))) with
      | true =>
        simp only [cond_true]
        rw [m2]
        obtain ⟨st', old', h1, h2, h3, h4⟩ := hround ((i8 arm).tmod 30) m0 (by omega) (β := KB) (fun x => some (.inl x)) (fun a b => some (.inr (.inl (⟨⟨L, [], (i8 arm).tmod 30, false⟩, old⟩, old, pk, t, a, b))))
        refine ⟨_, h1, k - 1, by omega, i + 1, ?_, by omega, h2, h3, h4⟩
        show (i : Int) + 1 = ((i + 1 : Nat) : Int)
        omega
      | false =>
        simp only [cond_false]
        obtain ⟨st', old', h1, h2, h3, h4⟩ := hround A hA0 hA1 (β := KB) (fun x => some (.inl x)) (fun a b => some (.inr (.inr (.inl (⟨⟨L, [], A, false⟩, old⟩, old, pk, t, a, b)))))
        refine ⟨_, h1, k - 1, by omega, i + 1, ?_, by omega, h2, h3, h4⟩
        show (i : Int) + 1 = ((i + 1 : Nat) : Int)
        omega
    · obtain rfl : i = 6 := by omega
      exact ⟨_, rfl, _, rfl⟩) 6 (0, ⟨⟨List.replicate 19 zeros, [], 0, false⟩, newState⟩, newState) fuel ⟨0, rfl, rfl, rfl, new_ok.mono (by omega), _, _, rfl, List.length_replicate, Holds_new.ok.last, Int.le_refl _, by omega, clean_new⟩ (fuel_gt (by omega))
  obtain ⟨x, rfl⟩ := hz
  rw [e]
  rfl
end Go.Proofs.YtinbnobanikfmaaGreatDoor.N

set_option maxRecDepth 100000
namespace Go.Proofs.YtinbnobanikfmaaGreatDoor
open Go Go.ChangeShapes Go.WideShapes Go.ChangeAt Go.RowKit
namespace Q3
open Go.Proofs.YtinbnobanikfmaaGreatDoor.D Go.Proofs.YtinbnobanikfmaaGreatDoor.S
theorem law (xs : List (DVal E.T)) (h : ArgsOk E 1048576 [(.arr 6 (.arr 20 (.int .u8))), (.int .u8), (.int .u8), (.slice (.int .i64))] xs) : (B3 xs []).get = some (.ret [.val .bool true], []) := by
  match xs, h with
  | [_, _, _, _], .cons _ _ x0 _ h0 (.cons _ _ x1 _ h1 (.cons _ _ x2 _ h2 (.cons _ _ x3 _ h3 .nil))) => exact (F3 x0 x1 x2 x3).trans ((N.law12_StoreKeeps_bind N.fuel _ x0 x1 x2 x3).trans (by rw [N.law12_StoreKeeps_ok x0 x1 x2 x3 ⟨(h0 12).1, fun x hx => ((h0 12).2 x hx).1⟩ (h3 12).1]; rfl))
theorem contract (H : Type) (enc : TypeId × Value → H) (W : World) (base : Nat) (args : Array Value) (ds gs : List (DataW H)) (before : List MemPlace)
    (hval : ∀ (j : Nat) t v, Tryz.f3.params[j]? = some t → args[j]? = some v → Value.okWide Tryz.prog W .any base t v)
    (hW : DataW.Whole enc Tryz.prog Tryz.f3.params.toList Rows.storeKeepsSpec.vars false W args.toList ds gs before) (hk : ∀ d ∈ ds, Rows.uptoBulk d ≤ 1048576) :
    Calls Tryz.prog 3 args W fun e W' => ∃ v, e = .returned v ∧ Rows.storeKeepsSpec.post enc Tryz.prog Tryz.f3 false true false false W args v W' :=
  law_contract sound tl laid full meas bl (fn := Tryz.f3) (tb := 4) rfl Tryz.underlying4 (ps := [(.arr 6 (.arr 20 (.int .u8))), (.int .u8), (.int .u8), (.slice (.int .i64))]) rfl
    (by
      have h : (Tryz.f3.params.toList.all fun t => Tryz.prog.readableRec t && decide (t < Tryz.prog.types.size)) = true := by kernel_rfl
      intro t ht
      have := List.all_eq_true.1 h t ht
      simpa using this) rfl
    (fun ds hd => by
      match ds, hd with
      | [x0, x1, x2, x3], _ => rfl)
    B3_ok law W base args ds gs before hval hW hk
def wArgs : Array Value := #[.agg #[.int .u8 0, .int .u8 0, .int .u8 0, .int .u8 0, .int .u8 0, .int .u8 0, .int .u8 0, .int .u8 0, .int .u8 0, .int .u8 0, .int .u8 0, .int .u8 0, .int .u8 0, .int .u8 0, .int .u8 0, .int .u8 0, .int .u8 0, .int .u8 0, .int .u8 0, .int .u8 0, .int .u8 0, .int .u8 0, .int .u8 0, .int .u8 0, .int .u8 0, .int .u8 0, .int .u8 0, .int .u8 0, .int .u8 0, .int .u8 0, .int .u8 0, .int .u8 0, .int .u8 0, .int .u8 0, .int .u8 0, .int .u8 0, .int .u8 0, .int .u8 0, .int .u8 0, .int .u8 0, .int .u8 0, .int .u8 0, .int .u8 0, .int .u8 0, .int .u8 0, .int .u8 0, .int .u8 0, .int .u8 0, .int .u8 0, .int .u8 0, .int .u8 0, .int .u8 0, .int .u8 0, .int .u8 0, .int .u8 0, .int .u8 0, .int .u8 0, .int .u8 0, .int .u8 0, .int .u8 0, .int .u8 0, .int .u8 0, .int .u8 0, .int .u8 0, .int .u8 0, .int .u8 0, .int .u8 0, .int .u8 0, .int .u8 0, .int .u8 0, .int .u8 0, .int .u8 0, .int .u8 0, .int .u8 0, .int .u8 0, .int .u8 0, .int .u8 0, .int .u8 0, .int .u8 0, .int .u8 0, .int .u8 0, .int .u8 0, .int .u8 0, .int .u8 0, .int .u8 0, .int .u8 0, .int .u8 0, .int .u8 0, .int .u8 0, .int .u8 0, .int .u8 0, .int .u8 0, .int .u8 0, .int .u8 0, .int .u8 0, .int .u8 0, .int .u8 0, .int .u8 0, .int .u8 0, .int .u8 0, .int .u8 0, .int .u8 0, .int .u8 0, .int .u8 0, .int .u8 0, .int .u8 0, .int .u8 0, .int .u8 0, .int .u8 0, .int .u8 0, .int .u8 0, .int .u8 0, .int .u8 0, .int .u8 0, .int .u8 0, .int .u8 0, .int .u8 0, .int .u8 0, .int .u8 0, .int .u8 0], .int .u8 0, .int .u8 0, .slice none 0 0]
def wData {H : Type} : List (DataW H) := [.agg [.agg [.lit (.int .u8 0), .lit (.int .u8 0), .lit (.int .u8 0), .lit (.int .u8 0), .lit (.int .u8 0), .lit (.int .u8 0), .lit (.int .u8 0), .lit (.int .u8 0), .lit (.int .u8 0), .lit (.int .u8 0), .lit (.int .u8 0), .lit (.int .u8 0), .lit (.int .u8 0), .lit (.int .u8 0), .lit (.int .u8 0), .lit (.int .u8 0), .lit (.int .u8 0), .lit (.int .u8 0), .lit (.int .u8 0), .lit (.int .u8 0)], .agg [.lit (.int .u8 0), .lit (.int .u8 0), .lit (.int .u8 0), .lit (.int .u8 0), .lit (.int .u8 0), .lit (.int .u8 0), .lit (.int .u8 0), .lit (.int .u8 0), .lit (.int .u8 0), .lit (.int .u8 0), .lit (.int .u8 0), .lit (.int .u8 0), .lit (.int .u8 0), .lit (.int .u8 0), .lit (.int .u8 0), .lit (.int .u8 0), .lit (.int .u8 0), .lit (.int .u8 0), .lit (.int .u8 0), .lit (.int .u8 0)], .agg [.lit (.int .u8 0), .lit (.int .u8 0), .lit (.int .u8 0), .lit (.int .u8 0), .lit (.int .u8 0), .lit (.int .u8 0), .lit (.int .u8 0), .lit (.int .u8 0), .lit (.int .u8 0), .lit (.int .u8 0), .lit (.int .u8 0), .lit (.int .u8 0), .lit (.int .u8 0), .lit (.int .u8 0), .lit (.int .u8 0), .lit (.int .u8 0), .lit (.int .u8 0), .lit (.int .u8 0), .lit (.int .u8 0), .lit (.int .u8 0)], .agg [.lit (.int .u8 0), .lit (.int .u8 0), .lit (.int .u8 0), .lit (.int .u8 0), .lit (.int .u8 0), .lit (.int .u8 0), .lit (.int .u8 0), .lit (.int .u8 0), .lit (.int .u8 0), .lit (.int .u8 0), .lit (.int .u8 0), .lit (.int .u8 0), .lit (.int .u8 0), .lit (.int .u8 0), .lit (.int .u8 0), .lit (.int .u8 0), .lit (.int .u8 0), .lit (.int .u8 0), .lit (.int .u8 0), .lit (.int .u8 0)], .agg [.lit (.int .u8 0), .lit (.int .u8 0), .lit (.int .u8 0), .lit (.int .u8 0), .lit (.int .u8 0), .lit (.int .u8 0), .lit (.int .u8 0), .lit (.int .u8 0), .lit (.int .u8 0), .lit (.int .u8 0), .lit (.int .u8 0), .lit (.int .u8 0), .lit (.int .u8 0), .lit (.int .u8 0), .lit (.int .u8 0), .lit (.int .u8 0), .lit (.int .u8 0), .lit (.int .u8 0), .lit (.int .u8 0), .lit (.int .u8 0)], .agg [.lit (.int .u8 0), .lit (.int .u8 0), .lit (.int .u8 0), .lit (.int .u8 0), .lit (.int .u8 0), .lit (.int .u8 0), .lit (.int .u8 0), .lit (.int .u8 0), .lit (.int .u8 0), .lit (.int .u8 0), .lit (.int .u8 0), .lit (.int .u8 0), .lit (.int .u8 0), .lit (.int .u8 0), .lit (.int .u8 0), .lit (.int .u8 0), .lit (.int .u8 0), .lit (.int .u8 0), .lit (.int .u8 0), .lit (.int .u8 0)]], .lit (.int .u8 0), .lit (.int .u8 0), .nil]
noncomputable def laidWorld (os : Os) : World := layAt 1 ((Go.Pinned.utf8FirstZ.map fun (n : Nat) => Value.int .u8 (Int.ofNat n))) (layAt 2 ([.int .u8 128, .int .u8 191, .int .u8 160, .int .u8 191, .int .u8 128, .int .u8 159, .int .u8 144, .int .u8 191, .int .u8 128, .int .u8 143, .int .u8 0, .int .u8 0, .int .u8 0, .int .u8 0, .int .u8 0, .int .u8 0, .int .u8 0, .int .u8 0, .int .u8 0, .int .u8 0, .int .u8 0, .int .u8 0, .int .u8 0, .int .u8 0, .int .u8 0, .int .u8 0, .int .u8 0, .int .u8 0, .int .u8 0, .int .u8 0, .int .u8 0, .int .u8 0]) (World.holding Tryz.prog os ⟨#[], #[], []⟩))
theorem laid_met (os : Os) : laidMet Tryz.prog Rows.storeKeepsUptoRow.laid ((laidWorld os).forCall (fun _ _ => 0) ⟨#[], wArgs, []⟩).memory := laidMet_of_run' 8 (by kernel_rfl) (by kernel_rfl)
theorem reads (os : Os) {H : Type} (enc : TypeId × Value → H) : ∃ places, DataW.whole enc Tryz.prog ((laidWorld os).forCall (fun _ _ => 0) ⟨#[], wArgs, []⟩).memory Tryz.f3.params.toList Rows.storeKeepsSpec.vars false wArgs.toList 8 = some (wData, [], places) := ⟨[], by kernel_rfl⟩
theorem lifted (os : Os) (started : os.Started) (H : Type) (enc : TypeId × Value → H) (F : Stop.Interp) :
    ReturnsInHanded {} Tryz.checked os 3 .any ((Rows.OpenSpec.upto Rows.storeKeepsSpec).preRow enc Tryz.prog Tryz.f3 Rows.storeKeepsUptoRow.domain false Rows.storeKeepsUptoRow.laid) (((Rows.OpenSpec.upto Rows.storeKeepsSpec).at F).post enc Tryz.prog Tryz.f3 false true false false) := by
  obtain ⟨places, hx⟩ := reads os enc
  refine returnsInHanded_of_row (C := Tryz.checked) (s := Rows.OpenSpec.upto Rows.storeKeepsSpec) own started (by kernel_rfl) Tryz.func3
    (witness_row_at (enc := enc) (C := Tryz.checked) false (laidWorld os) wArgs rfl (by kernel_rfl) (by kernel_rfl) (by kernel_rfl)
      (OpenSpec.preRow_of_cond 8 hx (by kernel_rfl) (fun k hk => by cases hk; kernel_rfl) (by kernel_rfl) (laid_met os))) ?_
  intro W base args ds gs before hval hW _ hcond _ _ _ _
  have hgs : gs = [] := by
    obtain ⟨p, q, hA, hV, _⟩ := hW
    cases gs with
    | nil => rfl
    | cons g gs => exact hV.elim
  subst hgs
  have hk := hcond _ rfl
  exact contract H enc W base args ds [] before hval hW (small hk)
theorem over : Rows.storeKeepsUptoRow.holds Tryz.pinned (Rows.OpenSpec.upto Rows.storeKeepsSpec) :=
  OpenClaim.holds_of_cond 3 Tryz.f3 rfl rfl rfl rfl rfl rfl rfl ⟨rfl, rfl, rfl, rfl, rfl⟩ rfl rfl rfl rfl rfl (by kernel_rfl) Tryz.func3 (by kernel_rfl)
    (of_decide_eq_true (by kernel_rfl)) (by unfold Func.isWrapper; first | (rw [if_pos (by decide +kernel)]; kernel_rfl) | (rw [if_neg (by decide +kernel)]; exact ⟨rfl, rfl⟩))
    (fun os started H enc _ F => by rw [OpenClaim.pre_eq_preRow]; exact lifted os started H enc F)
theorem plain (f : FuncId) (fn : Func) (hf : Tryz.pinned.checked.prog.funcNamed "tenancy/tenancylaw12.StoreKeeps" = some f) (hfn : Tryz.pinned.checked.prog.funcs[f]? = some fn) :
    true = Tryz.pinned.checked.prog.looks [] ∧ ∀ (j : Nat) t, fn.params[j]? = some t → Tryz.pinned.checked.prog.wantsStandIn t = false := by
  obtain rfl : f = 3 := Option.some.inj ((show Tryz.prog.funcNamed "tenancy/tenancylaw12.StoreKeeps" = some 3 by kernel_rfl).symm.trans hf) |>.symm
  obtain rfl : fn = Tryz.f3 := (Option.some.inj (Tryz.func3.symm.trans hfn)).symm
  refine ⟨by kernel_rfl, fun j t ht => ?_⟩
  have h : (Tryz.f3.params.toList.all fun t => !(Tryz.prog.wantsStandIn t)) = true := by kernel_rfl
  have := List.all_eq_true.1 h t (Array.mem_toList_iff.2 (Array.mem_of_getElem? ht))
  show Tryz.prog.wantsStandIn t = false
  simpa using this
theorem card : Rows.StoreKeepsUptoCardSaid :=
  Claim7.holds_tied_plain_at .later [] _ _ _ _ over (fun _ h => by cases h) (by kernel_rfl) (fun _ h => by cases h) storeKeepsUpto_row_tie rfl ⟨rfl, rfl⟩ (by kernel_rfl) rfl plain (by kernel_rfl)
end Q3
theorem storeKeeps_holds : Rows.StoreKeepsUptoCardSaid := Q3.card
end Go.Proofs.YtinbnobanikfmaaGreatDoor

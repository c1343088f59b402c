/- Proved: StoreTwice answers true at all arguments of bounded bulk. No condition beyond the statement's: the listed variables as the program's text lays them (the card). (This text joins: Plain words for this seat (24). A store, in plain words. Whatever lasts of a commit that was cut off: it settles to what was, or to what is new. Mending what settles; opening it. Any commit of a store; what stands behind it. The plain law of StoreTwice.) -/
import Derived.Test.YtinbnobanikfmaaGreatDoorSeat7
import Derived.KernelRfl
import Derived.Test.YtinbnobanikfmaaGreatDoorCards
import Derived.Test.YtinbnobanikfmaaGreatDoorTie
import Derived.Deep.DeepHandedRow
import Derived.OpenShut
import Derived.Test.YtinbnobanikfmaaGreatDoorSeat1
import Derived.Test.YtinbnobanikfmaaGreatDoorSeat6
set_option linter.unusedVariables false
set_option linter.unusedSimpArgs false
namespace Go.Proofs.YtinbnobanikfmaaGreatDoor.N
open Go
def tear (L : List (List UInt8)) (p : TPut) (n : Nat) : List (List UInt8) := L.set p.At.toNat (p.B.take n ++ (L.getD p.At.toNat []).drop n)
def clampK : Option Int → Nat
  | some k => (min (max k 0) 32).toNat
  | none => 0
def crashL (L : List (List UInt8)) : List TPut → List Int → List (List UInt8)
  | [], _ => L
  | p :: r, ks => crashL (tear L p (clampK ks.head?)) r ks.tail
theorem clampK_le (o : Option Int) : clampK o ≤ 32 := by
  cases o with
  | none => exact Nat.zero_le _
  | some k => show (min (max k 0) 32).toNat ≤ 32; omega
theorem tear_len (L : List (List UInt8)) (p : TPut) (n : Nat) : (tear L p n).length = L.length := List.length_set
theorem tear_each {L : List (List UInt8)} (h : ∀ x ∈ L, x.length = 32) {p : TPut} (hp : okP L.length p) {n : Nat} (hn : n ≤ 32) : ∀ x ∈ tear L p n, x.length = 32 := by
  intro x hx
  obtain ⟨a, b, c⟩ := hp
  rcases List.mem_or_eq_of_mem_set hx with hx | rfl
  · exact h x hx
  · have := getD_len h (show p.At.toNat < L.length by omega)
    rw [List.length_append, List.length_take, List.length_drop, this, c]
    omega
theorem crash_len : ∀ (ws : List TPut) (L : List (List UInt8)) (ks : List Int), (crashL L ws ks).length = L.length
  | [], L, ks => rfl
  | p :: r, L, ks => by rw [crashL, crash_len r, tear_len]
theorem crash_each : ∀ (ws : List TPut) (L : List (List UInt8)) (ks : List Int), (∀ x ∈ L, x.length = 32) → (∀ p ∈ ws, okP L.length p) → ∀ x ∈ crashL L ws ks, x.length = 32
  | [], L, ks, h, _ => h
  | p :: r, L, ks, h, hp => crash_each r _ _ (tear_each h (hp p (List.mem_cons_self ..)) (clampK_le _)) (fun q hq => by rw [tear_len]; exact hp q (List.mem_cons_of_mem _ hq))
theorem lasts_ok (L : List (List UInt8)) (hL : ∀ x ∈ L, x.length = 32) (hN : L.length ≤ 1000) (p : TPut) (hp : okP L.length p) (n : Nat) (hn : n ≤ 32) : ref5_lasts L p (n : Int) = some (tear L p n) := by
  obtain ⟨a, b, c⟩ := hp
  have hlt : p.At.toNat < L.length := by omega
  have hy := hL _ (List.getElem_mem hlt)
  unfold ref5_lasts ref5_lasts_k tear
  rw [decide_eq_true (show L.length ≤ lim by rw [lim_eq]; omega), decide_eq_true (show p.At ≥ 0 from a), decide_eq_true b, inR_of a b, List.getElem?_eq_getElem hlt]
  simp only [cond_true, some_bind]
  have hm : imin (imax (n : Int) 0) (imin (p.B.length : Int) (L[p.At.toNat].length : Int)) = (n : Int) := by
    rw [c, hy]; unfold imin imax; split <;> split <;> split <;> omega
  rw [hm, cutOk_of (by omega) (by omega) (by omega), cut_front]
  simp only [cond_true]
  rw [cutOk_of (by omega) (by omega) (by omega), cut_back, decide_eq_true (by rw [lim_eq, List.length_take, List.length_drop]; omega), List.getD_eq_getElem?_getD, List.getElem?_eq_getElem hlt]
  rfl
theorem crash_loop (keep : List Int) (W : List TPut) (A : Int) (D : Bool) : ∀ (r : List TPut) (i : Nat) (L : List (List UInt8)) (o : TDisk) (n : Nat), W.drop i = r → i ≤ W.length → r.length < n → W.length ≤ 1000 → (∀ x ∈ L, x.length = 32) → L.length ≤ 1000 → (∀ p ∈ r, okP L.length p) →
    ∃ o', iter (ref5_Crash_s0 keep) n ((i : Int), ⟨L, W, A, D⟩, o) = some (⟨crashL L r (keep.drop i), W, A, D⟩, o')
  | _, _, _, _, 0, _, _, h, _, _, _, _ => absurd h (Nat.not_lt_zero _)
  | [], i, L, o, n + 1, hdr, hi, _, _, _, _, _ => by
    obtain rfl : i = W.length := Nat.le_antisymm hi (List.drop_eq_nil_iff.1 hdr)
    rw [iter_succ]
    simp only [ref5_Crash_s0, ref5_Crash_s0k, ge_dec, cond_false]
    exact ⟨_, rfl⟩
  | p :: r, i, L, o, n + 1, hdr, hi, hn, hWl, hL, hN, hp => by
    have hlt : i < W.length := by
      rcases Nat.lt_or_ge i W.length with h | h
      · exact h
      · rw [List.drop_eq_nil_iff.2 h] at hdr; cases hdr
    have hd2 : W.drop i = W[i] :: W.drop (i + 1) := List.drop_eq_getElem_cons hlt
    rw [hdr] at hd2
    obtain ⟨e1, e2⟩ := List.cons.inj hd2
    rw [List.length_cons] at hn
    have hpk := hp p (List.mem_cons_self ..)
    have hgo : ∀ k : Nat, k ≤ 32 → k = clampK (keep.drop i).head? → ∃ o', iter (ref5_Crash_s0 keep) n (wi64 ((i : Int) + 1), ⟨tear L p k, W, A, D⟩, TDisk.mk [] [] o.Arm o.Down) = some (⟨crashL L (p :: r) (keep.drop i), W, A, D⟩, o') := by
      intro k hk hk2
      rw [wi64_succ (by omega), crashL, ← hk2]
      have := crash_loop keep W A D r (i + 1) (tear L p k) (TDisk.mk [] [] o.Arm o.Down) n e2.symm hlt (by omega) hWl (tear_each hL hpk hk) (by rw [tear_len]; exact hN) (fun q hq => by rw [tear_len]; exact hp q (List.mem_cons_of_mem _ hq))
      rw [← List.tail_drop] at this
      exact this
    rw [iter_succ]
    simp only [ref5_Crash_s0, ref5_Crash_s0k]
    rw [lt_dec hlt, inR_nat hlt, Int.toNat_natCast, List.getElem?_eq_getElem hlt, ← e1]
    by_cases hk : i < keep.length
    · rw [lt_dec hk, inR_nat hk, List.getElem?_eq_getElem hk]
      simp only [cond_true, some_bind]
      have hm : imin (imax keep[i] 0) 32 = ((clampK (some keep[i]) : Nat) : Int) := by
        show imin (imax keep[i] 0) 32 = (((min (max keep[i] 0) 32).toNat : Nat) : Int)
        unfold imin imax; split <;> split <;> omega
      rw [hm, lasts_ok L hL hN p hpk _ (clampK_le _), some_bind]
      have hh : (keep.drop i).head? = some keep[i] := by rw [List.drop_eq_getElem_cons hk]; rfl
      obtain ⟨o', h⟩ := hgo _ (clampK_le (some keep[i])) (by rw [hh])
      exact ⟨o', h⟩
    · rw [decide_eq_false (show ¬ (i : Int) < (keep.length : Int) by omega)]
      simp only [cond_true, cond_false, some_bind]
      have h0 := lasts_ok L hL hN p hpk 0 (by omega)
      rw [show ((0 : Nat) : Int) = 0 from rfl] at h0
      rw [h0, some_bind]
      have hh : (keep.drop i).head? = none := by rw [List.drop_eq_nil_iff.2 (by omega)]; rfl
      obtain ⟨o', h⟩ := hgo 0 (by omega) (by rw [hh]; rfl)
      exact ⟨o', h⟩
theorem Crash_ok (d : TDisk) (hd : DOk d) (keep : List Int) : ref5_Crash fuel d keep = some ⟨crashL d.Last d.Wait keep, [], 0, false⟩ := by
  unfold ref5_Crash ref5_Crash_k ref5_Crash_l0
  obtain ⟨o', e⟩ := crash_loop keep d.Wait d.Arm d.Down d.Wait 0 d.Last (TDisk.mk [] [] 0 false) fuel rfl (Nat.zero_le _) (fuel_gt (by have := hd.wlen; omega)) hd.wlen hd.last hd.len hd.wait
  have e' : iter (ref5_Crash_s0 keep) fuel (0, d, TDisk.mk [] [] 0 false) = _ := e
  rw [e', some_bind]
  rfl
end Go.Proofs.YtinbnobanikfmaaGreatDoor.N

set_option linter.unusedVariables false
set_option linter.unusedSimpArgs false
set_option maxRecDepth 100000
namespace Go.Proofs.YtinbnobanikfmaaGreatDoor.N
open Go
theorem store_begun : law12_begun fuel = some true := by rw [fuel_eq]; kernel_rfl
theorem home_ok : store_home fuel = some 9 := by rw [fuel_eq]; kernel_rfl
theorem size_ok : store_size fuel = some 19 := by rw [fuel_eq]; kernel_rfl
theorem Make_ok : store_Make fuel = some ⟨⟨List.replicate 19 zeros, [], 0, false⟩, newState⟩ := by rw [fuel_eq]; kernel_rfl
theorem img_new : img newState = List.replicate 9 zeros := by kernel_rfl
def after (L : List (List UInt8)) (home : Nat) (l : List TPut) : List (List UInt8) := wr (wr (wr (wr L [⟨(home : Int), zeros⟩]) (copies (home + 1) l)) [⟨(home : Int), headB l⟩]) l
theorem rounds_all (L : List (List UInt8)) (home : Nat) (l : List TPut) : rounds ⟨L, [], 0, false⟩ home l = (⟨after L home l, [], 0, false⟩, true) := by
  unfold rounds
  have w1 : ∀ (L : List (List UInt8)) (p : TPut), wput ⟨L, [], 0, false⟩ p = ⟨L, [p], 0, false⟩ := fun L p => rfl
  have f1 : ∀ (L : List (List UInt8)) (ws : List TPut), flushed ⟨L, ws, 0, false⟩ = ⟨wr L ws, [], 0, false⟩ := fun L ws => rfl
  have m1 : ∀ (L : List (List UInt8)) (ws : List TPut), wmany ⟨L, [], 0, false⟩ ws = (⟨L, ws, 0, false⟩, true) := fun L ws => wmany_all ws ⟨L, [], 0, false⟩ rfl (Int.le_refl _) (.inl rfl)
  rw [w1, f1, m1]
  simp only [cond_false, cond_true]
  rw [f1, w1, f1, m1]
  simp only [cond_false, cond_true]
  rw [f1]
  rfl
theorem getD_set_ne {α : Type} (L : List α) (i j : Nat) (x d : α) (h : i ≠ j) : (L.set i x).getD j d = L.getD j d := by
  rw [List.getD_eq_getElem?_getD, List.getD_eq_getElem?_getD, List.getElem?_set_ne h]
theorem getD_set_eq {α : Type} (L : List α) (i : Nat) (x d : α) (h : i < L.length) : (L.set i x).getD i d = x := by
  rw [List.getD_eq_getElem?_getD, List.getElem?_set_self h]
  rfl
theorem wr_other : ∀ (ws : List TPut) (L : List (List UInt8)) (i : Nat), (∀ p ∈ ws, p.At.toNat ≠ i) → (wr L ws).getD i [] = L.getD i []
  | [], L, i, _ => rfl
  | p :: r, L, i, h => by
    show (wr (L.set p.At.toNat p.B) r).getD i [] = _
    rw [wr_other r _ i (fun q hq => h q (List.mem_cons_of_mem _ hq)), getD_set_ne _ _ _ _ _ (h p (List.mem_cons_self ..))]
theorem wr_at : ∀ (ws : List TPut) (L : List (List UInt8)) (p : TPut), p ∈ ws → (∀ q ∈ ws, 0 ≤ q.At) → ws.Pairwise (fun a b => a.At < b.At) → p.At.toNat < L.length → (wr L ws).getD p.At.toNat [] = p.B
  | [], _, _, h, _, _, _ => by cases h
  | q :: r, L, p, h, h0, hs, hl => by
    show (wr (L.set q.At.toNat q.B) r).getD p.At.toNat [] = _
    rcases List.mem_cons.1 h with rfl | h
    · rw [wr_other r _ _ (fun x hx => by
        have := List.rel_of_pairwise_cons hs hx
        have := h0 p (List.mem_cons_self ..)
        omega), getD_set_eq _ _ _ _ hl]
    · exact wr_at r _ p h (fun x hx => h0 x (List.mem_cons_of_mem _ hx)) (List.Pairwise.of_cons hs) (by rw [List.length_set]; exact hl)
theorem after_len (L : List (List UInt8)) (home : Nat) (l : List TPut) : (after L home l).length = L.length := by
  unfold after; rw [wr_len, wr_len, wr_len, wr_len]
theorem after_home (L : List (List UInt8)) (home : Nat) (l : List TPut) (i : Nat) (hi : i < home) : (after L home l).getD i [] = (wr L l).getD i [] := by
  have hw : ∀ (l : List TPut) (A B : List (List UInt8)), A.length = B.length → A.getD i [] = B.getD i [] → (wr A l).getD i [] = (wr B l).getD i [] := by
    intro l
    induction l with
    | nil => intro A B _ h; exact h
    | cons p r ih =>
      intro A B hl h
      refine ih (A.set p.At.toNat p.B) (B.set p.At.toNat p.B) (by rw [List.length_set, List.length_set]; exact hl) ?_
      by_cases hp : p.At.toNat = i
      · by_cases hlt : i < A.length
        · rw [hp, getD_set_eq _ _ _ _ hlt, getD_set_eq _ _ _ _ (by omega)]
        · rw [List.getD_eq_getElem?_getD, List.getD_eq_getElem?_getD, List.getElem?_eq_none (by rw [List.length_set]; omega), List.getElem?_eq_none (by rw [List.length_set]; omega)]
      · rw [getD_set_ne _ _ _ _ _ hp, getD_set_ne _ _ _ _ _ hp, h]
  unfold after
  refine hw l _ _ (by rw [wr_len, wr_len, wr_len]) ?_
  have h1 : ∀ (A : List (List UInt8)) (b : List UInt8), (wr A [⟨(home : Int), b⟩]).getD i [] = A.getD i [] := fun A b => wr_other _ _ _ (fun p hp => by rw [List.mem_singleton.1 hp]; show (home : Int).toNat ≠ i; omega)
  rw [h1, wr_other _ _ _ (fun p hp => by obtain ⟨_, _, h2, _⟩ := copies_at _ _ _ hp; omega), h1]
structure Holds (d : TDisk) (s : TState) : Prop where
  ok : DOk d
  len : d.Last.length = 19
  wait : d.Wait = []
  up : d.Down = false
  at_ : ∀ i, i < 9 → d.Last.getD i [] = (img s).getD i []
theorem diff_valid {s t : TState} (hs : Good 1073741824 s) (ht : Good 1073741824 t) : Valid 9 (diffP (img s) (img t)) := by
  have l2 := img_len ht
  refine ⟨?_, fun p hp => ?_, diff_sorted _ _⟩
  · have := diff_len (img s) (img t) (img t).length
    unfold diffP
    omega
  · obtain ⟨i, y, hi, hy, _, rfl⟩ := mem_diff hp
    exact ⟨by show (0 : Int) ≤ i; omega, by show (i : Int) < _; omega, img_each ht y (List.mem_of_getElem? hy)⟩
theorem wr_diff {s t : TState} (hs : Good 1073741824 s) (ht : Good 1073741824 t) (L : List (List UInt8)) (hL : 9 ≤ L.length) (h : ∀ i, i < 9 → L.getD i [] = (img s).getD i []) (i : Nat) (hi : i < 9) : (wr L (diffP (img s) (img t))).getD i [] = (img t).getD i [] := by
  have l1 := img_len hs
  have l2 := img_len ht
  have ht2 : (img t)[i]? = some ((img t).getD i []) := by rw [List.getD_eq_getElem?_getD, List.getElem?_eq_getElem (by omega)]; rfl
  have hs2 : (img s)[i]? = some ((img s).getD i []) := by rw [List.getD_eq_getElem?_getD, List.getElem?_eq_getElem (by omega)]; rfl
  by_cases hn : (img s)[i]? ≠ some ((img t).getD i [])
  · have hm := diff_mem ht2 hn
    exact wr_at _ L _ hm (fun q hq => by obtain ⟨j, _, _, _, _, rfl⟩ := mem_diff hq; show (0 : Int) ≤ j; omega) (diff_sorted _ _) (by show i < L.length; omega)
  · have hn := Decidable.of_not_not hn
    rw [wr_other _ _ _ (fun q hq hqi => by
      obtain ⟨j, y, _, hy, hne, rfl⟩ := mem_diff hq
      have : j = i := hqi
      subst this
      rw [ht2] at hy
      cases hy
      exact hne hn), h i hi]
    rw [hs2] at hn
    exact Option.some.inj hn
theorem Holds_new : Holds ⟨List.replicate 19 zeros, [], 0, false⟩ newState := by
  refine ⟨⟨fun x hx => by rw [List.eq_of_mem_replicate hx]; rfl, by show (List.replicate 19 zeros).length ≤ 1000; rw [List.length_replicate]; omega, (fun q hq => nomatch hq), by show (0 : Nat) ≤ 1000; omega, Int.le_refl _, by show (0 : Int) ≤ 1000; omega⟩, List.length_replicate, rfl, rfl, fun i hi => ?_⟩
  rw [img_new]
  show (List.replicate 19 zeros).getD i [] = _
  rw [List.getD_eq_getElem?_getD, List.getD_eq_getElem?_getD, List.getElem?_replicate, List.getElem?_replicate, if_pos (by omega), if_pos (by omega)]
end Go.Proofs.YtinbnobanikfmaaGreatDoor.N

set_option linter.unusedVariables false
set_option linter.unusedSimpArgs false
namespace Go.Proofs.YtinbnobanikfmaaGreatDoor.N
open Go
def noHead (s : List UInt8) : Prop := s[0]? ≠ some 1 ∨ s[31]? ≠ some 1
def Settles (h : Nat) (L : List (List UInt8)) (T : Nat → List UInt8) : Prop :=
  (noHead (L.getD h []) ∧ ∀ i, i < h → L.getD i [] = T i) ∨
  (∃ q, q ≠ [] ∧ Valid h q ∧ h + q.length < L.length ∧ L.getD h [] = headB q ∧ ∀ i, i < h → (wr L (mends L (h + 1) q)).getD i [] = T i)
theorem mends_same (L : List (List UInt8)) : ∀ (l : List TPut) (n : Nat), (∀ (j : Nat) p, l[j]? = some p → L.getD (n + j) [] = p.B) → mends L n l = l
  | [], n, _ => rfl
  | p :: r, n, h => by
    rw [mends, mends_same L r (n + 1) (fun j q hj => by
      have := h (j + 1) q hj
      rw [show n + 1 + j = n + (j + 1) by omega]
      exact this)]
    have := h 0 p rfl
    rw [Nat.add_zero] at this
    rw [this]
theorem wr_copies : ∀ (l : List TPut) (n : Nat) (L : List (List UInt8)), n + l.length ≤ L.length → ∀ (j : Nat) p, l[j]? = some p → (wr L (copies n l)).getD (n + j) [] = p.B
  | [], _, _, _, j, p, h => by cases h
  | q :: r, n, L, hl, j, p, h => by
    rw [List.length_cons] at hl
    rw [copies]
    show (wr (L.set (n : Int).toNat q.B) (copies (n + 1) r)).getD (n + j) [] = _
    cases j with
    | zero =>
      cases h
      rw [wr_other _ _ _ (fun x hx => by obtain ⟨_, _, h2, _⟩ := copies_at _ _ _ hx; omega), Int.toNat_natCast]
      exact getD_set_eq _ _ _ _ (by omega)
    | succ j =>
      have := wr_copies r (n + 1) (L.set (n : Int).toNat q.B) (by rw [List.length_set]; omega) j p h
      rw [show n + (j + 1) = n + 1 + j by omega]
      exact this
theorem tear_other (L : List (List UInt8)) (p : TPut) (k i : Nat) (h : p.At.toNat ≠ i) : (tear L p k).getD i [] = L.getD i [] := getD_set_ne _ _ _ _ _ h
theorem crash_other : ∀ (ws : List TPut) (L : List (List UInt8)) (ks : List Int) (i : Nat), (∀ p ∈ ws, p.At.toNat ≠ i) → (crashL L ws ks).getD i [] = L.getD i []
  | [], L, ks, i, _ => rfl
  | p :: r, L, ks, i, h => by
    rw [crashL, crash_other r _ _ i (fun q hq => h q (List.mem_cons_of_mem _ hq)), tear_other _ _ _ _ (h p (List.mem_cons_self ..))]
theorem wr_over (l : List TPut) (hs : l.Pairwise (fun a b => a.At < b.At)) (h0 : ∀ p ∈ l, 0 ≤ p.At) (A B : List (List UInt8)) (hlen : A.length = B.length) (hl : ∀ p ∈ l, p.At.toNat < A.length) (i : Nat) (h : (∀ p ∈ l, p.At.toNat ≠ i) → A.getD i [] = B.getD i []) : (wr A l).getD i [] = (wr B l).getD i [] := by
  by_cases hin : ∃ p ∈ l, p.At.toNat = i
  · obtain ⟨p, hp, rfl⟩ := hin
    rw [wr_at l A p hp h0 hs (hl p hp), wr_at l B p hp h0 hs (by rw [← hlen]; exact hl p hp)]
  · have hn : ∀ p ∈ l, p.At.toNat ≠ i := fun p hp he => hin ⟨p, hp, he⟩
    rw [wr_other _ _ _ hn, wr_other _ _ _ hn, h hn]
structure Clean (h : Nat) (L : List (List UInt8)) (T : Nat → List UInt8) : Prop where
  at_ : ∀ i, i < h → L.getD i [] = T i
  set_ : Settles h L T
theorem Clean.mk_no {h : Nat} {L : List (List UInt8)} {T : Nat → List UInt8} (hn : noHead (L.getD h [])) (ha : ∀ i, i < h → L.getD i [] = T i) : Clean h L T := ⟨ha, .inl ⟨hn, ha⟩⟩
theorem noHead_zeros (k : Nat) (hk : 1 ≤ k) (hk2 : k ≤ 32) (s : List UInt8) : noHead (zeros.take k ++ s) := by
  left
  cases k with
  | zero => omega
  | succ k =>
    show some (0 : UInt8) ≠ some 1
    decide
theorem noHead_part (k : Nat) (hk : k < 32) (s : List UInt8) (hs : s.length = 32) : noHead (s.take k ++ zeros.drop k) := by
  right
  rw [List.getElem?_append_right (by rw [List.length_take]; omega), List.length_take, hs, Nat.min_eq_left (by omega), List.getElem?_drop, show k + (31 - k) = 31 by omega]
  decide
theorem noHead_zero : noHead zeros := by left; decide
def newT (L : List (List UInt8)) (l : List TPut) (i : Nat) : List UInt8 := (wr L l).getD i []
theorem settles_cut {h : Nat} {L : List (List UInt8)} {T : Nat → List UInt8} (hL : ∀ x ∈ L, x.length = 32) (hN : L.length ≤ 1000) (hc : Clean h L T) (l : List TPut) (hl : l ≠ []) (hv : Valid h l) (hn : h + l.length < L.length) (A : Int) (hA0 : 0 ≤ A) (hA1 : A ≤ 900) (keep : List Int) :
    ((rounds ⟨L, [], A, false⟩ h l).2 = true ∧ (rounds ⟨L, [], A, false⟩ h l).1.Last = after L h l ∧ (rounds ⟨L, [], A, false⟩ h l).1.Wait = [] ∧ (rounds ⟨L, [], A, false⟩ h l).1.Down = false) ∨
    ((rounds ⟨L, [], A, false⟩ h l).2 = false ∧ (Settles h (crashL (rounds ⟨L, [], A, false⟩ h l).1.Last (rounds ⟨L, [], A, false⟩ h l).1.Wait keep) T ∨ Settles h (crashL (rounds ⟨L, [], A, false⟩ h l).1.Last (rounds ⟨L, [], A, false⟩ h l).1.Wait keep) (newT L l))) := by
  have hlp : 0 < l.length := List.length_pos_iff.2 hl
  have h16 := hv.len
  obtain ⟨L1, hL1⟩ : ∃ L1, wr L [⟨(h : Int), zeros⟩] = L1 := ⟨_, rfl⟩
  obtain ⟨L2, hL2⟩ : ∃ L2, wr L1 (copies (h + 1) l) = L2 := ⟨_, rfl⟩
  obtain ⟨L3, hL3⟩ : ∃ L3, wr L2 [⟨(h : Int), headB l⟩] = L3 := ⟨_, rfl⟩
  have l1 : L1.length = L.length := by rw [← hL1, wr_len]
  have l2 : L2.length = L.length := by rw [← hL2, wr_len, l1]
  have l3 : L3.length = L.length := by rw [← hL3, wr_len, l2]
  have hone : ∀ (X : List (List UInt8)) (b : List UInt8) (i : Nat), i ≠ h → (wr X [⟨(h : Int), b⟩]).getD i [] = X.getD i [] := fun X b i hi => wr_other _ _ _ (fun p hp => by rw [List.mem_singleton.1 hp]; show (h : Int).toNat ≠ i; omega)
  have honeh : ∀ (X : List (List UInt8)) (b : List UInt8), h < X.length → (wr X [⟨(h : Int), b⟩]).getD h [] = b := fun X b hx => by
    show (X.set (h : Int).toNat b).getD h [] = b
    rw [Int.toNat_natCast, getD_set_eq _ _ _ _ hx]
  have g1 : ∀ i, i < h → L1.getD i [] = T i := fun i hi => by rw [← hL1, hone _ _ _ (by omega), hc.at_ i hi]
  have g2 : ∀ i, i < h → L2.getD i [] = T i := fun i hi => by rw [← hL2, wr_other _ _ _ (fun p hp => by obtain ⟨_, _, h2, _⟩ := copies_at _ _ _ hp; omega), g1 i hi]
  have g3 : ∀ i, i < h → L3.getD i [] = T i := fun i hi => by rw [← hL3, hone _ _ _ (by omega), g2 i hi]
  have z1 : L1.getD h [] = zeros := by rw [← hL1]; exact honeh _ _ (by omega)
  have z2 : L2.getD h [] = zeros := by rw [← hL2, wr_other _ _ _ (fun p hp => by obtain ⟨_, _, h2, _⟩ := copies_at _ _ _ hp; omega), z1]
  have z3 : L3.getD h [] = headB l := by rw [← hL3]; exact honeh _ _ (by omega)
  have c2 : ∀ (j : Nat) p, l[j]? = some p → L2.getD (h + 1 + j) [] = p.B := by rw [← hL2]; exact wr_copies l (h + 1) L1 (by omega)
  have c3 : ∀ (j : Nat) p, l[j]? = some p → L3.getD (h + 1 + j) [] = p.B := fun j p hj => by rw [← hL3, hone _ _ _ (by omega), c2 j p hj]
  have key : ∀ X : List (List UInt8), X.length = L.length → X.getD h [] = headB l → (∀ (j : Nat) p, l[j]? = some p → X.getD (h + 1 + j) [] = p.B) → (∀ i, i < h → (∀ p ∈ l, p.At.toNat ≠ i) → X.getD i [] = T i) → Settles h X (newT L l) := by
    intro X hX hh hcp ho
    refine .inr ⟨l, hl, hv, by omega, hh, fun i hi => ?_⟩
    rw [mends_same X l (h + 1) hcp]
    unfold newT
    exact wr_over l hv.sorted (fun p hp => (hv.each p hp).1) X L hX (fun p hp => by have := (hv.each p hp).2.1; have := (hv.each p hp).1; omega) i (fun hn => by rw [ho i hi hn, hc.at_ i hi])
  unfold rounds
  by_cases a1 : A = 1
  · have w : wput ⟨L, [], A, false⟩ ⟨(h : Int), zeros⟩ = ⟨L, [⟨(h : Int), zeros⟩], 0, true⟩ := by rw [a1]; rfl
    rw [w]
    right
    refine ⟨rfl, .inl ?_⟩
    show Settles h (tear L ⟨(h : Int), zeros⟩ (clampK keep.head?)) T
    have hk := clampK_le keep.head?
    generalize clampK keep.head? = k at hk
    have hh : (tear L ⟨(h : Int), zeros⟩ k).getD h [] = zeros.take k ++ (L.getD h []).drop k := by
      show (L.set (h : Int).toNat _).getD h [] = _
      rw [Int.toNat_natCast, getD_set_eq _ _ _ _ (by omega)]
    by_cases k0 : k = 0
    · have : tear L ⟨(h : Int), zeros⟩ k = L := by
        subst k0
        show L.set (h : Int).toNat ((L.getD (h : Int).toNat []).drop 0) = L
        rw [Int.toNat_natCast, List.drop_zero, List.getD_eq_getElem?_getD, List.getElem?_eq_getElem (show h < L.length by omega)]
        exact List.set_getElem_self _
      rw [this]
      exact hc.set_
    · exact .inl ⟨by rw [hh]; exact noHead_zeros k (by omega) hk _, fun i hi => by rw [tear_other _ _ _ _ (by show (h : Int).toNat ≠ i; omega), hc.at_ i hi]⟩
  · obtain ⟨A1, hA1'⟩ : ∃ A1, (if A = 0 then 0 else A - 1) = A1 := ⟨_, rfl⟩
    have w : wput ⟨L, [], A, false⟩ ⟨(h : Int), zeros⟩ = ⟨L, [⟨(h : Int), zeros⟩], A1, false⟩ := by
      unfold wput
      by_cases a0 : A > 0
      · rw [if_pos a0]
        rw [if_neg (by omega)] at hA1'
        show TDisk.mk L _ (A - 1) (A - 1 == 0) = _
        rw [hA1']
        congr 1
        exact beq_ne (by omega)
      · rw [if_neg a0]
        rw [if_pos (by omega)] at hA1'
        show TDisk.mk L _ A false = _
        rw [show A = A1 by omega]
        rfl
    have f : flushed ⟨L, [⟨(h : Int), zeros⟩], A1, false⟩ = ⟨L1, [], A1, false⟩ := by rw [← hL1]; rfl
    rw [w, f]
    simp only [cond_false]
    by_cases a2 : 1 ≤ A1 ∧ A1 ≤ ((copies (h + 1) l).length : Int)
    · rw [wmany_cut _ _ rfl a2.1 a2.2]
      right
      refine ⟨rfl, .inl (.inl ⟨?_, fun i hi => ?_⟩)⟩
      · show noHead ((crashL L1 ([] ++ (copies (h + 1) l).take A1.toNat) keep).getD h [])
        rw [crash_other _ _ _ _ (fun p hp => by
          rw [List.nil_append] at hp
          obtain ⟨_, _, h2, _⟩ := copies_at _ _ _ (List.mem_of_mem_take hp)
          omega), z1]
        exact noHead_zero
      · show (crashL L1 ([] ++ (copies (h + 1) l).take A1.toNat) keep).getD i [] = T i
        rw [crash_other _ _ _ _ (fun p hp => by
          rw [List.nil_append] at hp
          obtain ⟨_, _, h2, _⟩ := copies_at _ _ _ (List.mem_of_mem_take hp)
          omega), g1 i hi]
    · obtain ⟨A2, hA2'⟩ : ∃ A2, (if A1 = 0 then 0 else A1 - ((copies (h + 1) l).length : Int)) = A2 := ⟨_, rfl⟩
      have m : wmany ⟨L1, [], A1, false⟩ (copies (h + 1) l) = (⟨L1, copies (h + 1) l, A2, false⟩, true) := by
        rw [wmany_all _ _ rfl (by show 0 ≤ A1; omega) (by show A1 = 0 ∨ _ < A1; omega)]
        show (TDisk.mk L1 ([] ++ copies (h + 1) l) (if A1 = 0 then 0 else _) false, true) = _
        rw [hA2', List.nil_append]
      have f2 : flushed ⟨L1, copies (h + 1) l, A2, false⟩ = ⟨L2, [], A2, false⟩ := by rw [← hL2]; rfl
      rw [m]
      simp only [cond_true]
      rw [f2]
      by_cases a3 : A2 = 1
      · have w2 : wput ⟨L2, [], A2, false⟩ ⟨(h : Int), headB l⟩ = ⟨L2, [⟨(h : Int), headB l⟩], 0, true⟩ := by rw [a3]; rfl
        rw [w2]
        right
        refine ⟨rfl, ?_⟩
        show Settles h (tear L2 ⟨(h : Int), headB l⟩ (clampK keep.head?)) T ∨ Settles h (tear L2 ⟨(h : Int), headB l⟩ (clampK keep.head?)) (newT L l)
        have hk := clampK_le keep.head?
        generalize clampK keep.head? = k at hk
        have hh : (tear L2 ⟨(h : Int), headB l⟩ k).getD h [] = (headB l).take k ++ zeros.drop k := by
          show (L2.set (h : Int).toNat ((headB l).take k ++ (L2.getD (h : Int).toNat []).drop k)).getD h [] = _
          rw [Int.toNat_natCast, getD_set_eq _ _ _ _ (by omega), z2]
        by_cases k32 : k = 32
        · right
          refine key _ (by rw [tear_len, l2]) ?_ (fun j p hj => by rw [tear_other _ _ _ _ (by show (h : Int).toNat ≠ _; omega), c2 j p hj]) (fun i hi _ => by rw [tear_other _ _ _ _ (by show (h : Int).toNat ≠ _; omega), g2 i hi])
          rw [hh, k32, List.take_of_length_le (by rw [headB_len l h16]; exact Nat.le_refl _), show zeros.drop 32 = [] from rfl, List.append_nil]
        · left
          exact .inl ⟨by rw [hh]; exact noHead_part k (by omega) _ (headB_len l h16), fun i hi => by rw [tear_other _ _ _ _ (by show (h : Int).toNat ≠ i; omega), g2 i hi]⟩
      · obtain ⟨A3, hA3'⟩ : ∃ A3, (if A2 = 0 then 0 else A2 - 1) = A3 := ⟨_, rfl⟩
        have w2 : wput ⟨L2, [], A2, false⟩ ⟨(h : Int), headB l⟩ = ⟨L2, [⟨(h : Int), headB l⟩], A3, false⟩ := by
          unfold wput
          by_cases a0 : A2 > 0
          · rw [if_pos a0]
            rw [if_neg (by omega)] at hA3'
            show TDisk.mk L2 _ (A2 - 1) (A2 - 1 == 0) = _
            rw [hA3']
            congr 1
            exact beq_ne (by omega)
          · rw [if_neg a0]
            show TDisk.mk L2 _ A2 false = _
            rw [show A2 = A3 by
              split at hA3'
              · omega
              · split at hA2' <;> omega]
            rfl
        have f3 : flushed ⟨L2, [⟨(h : Int), headB l⟩], A3, false⟩ = ⟨L3, [], A3, false⟩ := by rw [← hL3]; rfl
        rw [w2, f3]
        simp only [cond_false]
        by_cases a4 : 1 ≤ A3 ∧ A3 ≤ (l.length : Int)
        · rw [wmany_cut _ _ rfl a4.1 a4.2]
          right
          refine ⟨rfl, .inr ?_⟩
          show Settles h (crashL L3 ([] ++ l.take A3.toNat) keep) (newT L l)
          rw [List.nil_append]
          refine key _ (by rw [crash_len, l3]) ?_ (fun j p hj => ?_) (fun i hi hn => ?_)
          · rw [crash_other _ _ _ _ (fun p hp => by have := (hv.each p (List.mem_of_mem_take hp)).2.1; have := (hv.each p (List.mem_of_mem_take hp)).1; omega), z3]
          · rw [crash_other _ _ _ _ (fun q hq => by have := (hv.each q (List.mem_of_mem_take hq)).2.1; have := (hv.each q (List.mem_of_mem_take hq)).1; omega), c3 j p hj]
          · rw [crash_other _ _ _ _ (fun q hq => hn q (List.mem_of_mem_take hq)), g3 i hi]
        · left
          have hA2nn : 0 ≤ A2 := by
            rw [copies_len] at a2 hA2'
            split at hA2' <;> omega
          have hA3nn : 0 ≤ A3 := by split at hA3' <;> omega
          rw [wmany_all _ _ rfl (by show 0 ≤ A3; exact hA3nn) (by show A3 = 0 ∨ _ < A3; omega)]
          refine ⟨rfl, ?_, rfl, rfl⟩
          show wr L3 ([] ++ l) = after L h l
          rw [List.nil_append]
          unfold after
          rw [hL1, hL2, hL3]
end Go.Proofs.YtinbnobanikfmaaGreatDoor.N

set_option linter.unusedVariables false
set_option linter.unusedSimpArgs false
namespace Go.Proofs.YtinbnobanikfmaaGreatDoor.N
open Go
theorem ext_getD {A B : List (List UInt8)} (hl : A.length = B.length) (h : ∀ i, A.getD i [] = B.getD i []) : A = B := by
  apply List.ext_getElem hl
  intro i h1 h2
  have := h i
  rw [List.getD_eq_getElem?_getD, List.getD_eq_getElem?_getD, List.getElem?_eq_getElem h1, List.getElem?_eq_getElem h2] at this
  exact this
theorem mends_at (L : List (List UInt8)) : ∀ (n : Nat) (q : List TPut) (x : TPut), x ∈ mends L n q → ∃ p ∈ q, x.At = p.At
  | _, [], _, h => by cases h
  | n, p :: r, x, h => by
    rw [mends] at h
    rcases List.mem_cons.1 h with rfl | h
    · exact ⟨p, List.mem_cons_self .., rfl⟩
    · obtain ⟨p', h1, h2⟩ := mends_at L (n + 1) r x h
      exact ⟨p', List.mem_cons_of_mem _ h1, h2⟩
theorem mends_sorted (L : List (List UInt8)) : ∀ (n : Nat) (q : List TPut), q.Pairwise (fun a b => a.At < b.At) → (mends L n q).Pairwise (fun a b => a.At < b.At)
  | _, [], _ => .nil
  | n, p :: r, h => by
    rw [mends]
    refine .cons (fun x hx => ?_) (mends_sorted L (n + 1) r (List.Pairwise.of_cons h))
    obtain ⟨p', h1, h2⟩ := mends_at L (n + 1) r x hx
    rw [h2]
    exact List.rel_of_pairwise_cons h h1
theorem mends_congr {X Y : List (List UInt8)} : ∀ (n : Nat) (q : List TPut), (∀ i, n ≤ i → Y.getD i [] = X.getD i []) → mends Y n q = mends X n q
  | _, [], _ => rfl
  | n, p :: r, h => by
    rw [mends, mends, h n (Nat.le_refl _), mends_congr (n + 1) r fun i hi => h i (by omega)]
theorem remend {h : Nat} {X : List (List UInt8)} {q : List TPut} (hv : Valid h q) (hn : h + q.length < X.length) :
    mends (wr X (mends X (h + 1) q)) (h + 1) q = mends X (h + 1) q ∧ wr (wr X (mends X (h + 1) q)) (mends X (h + 1) q) = wr X (mends X (h + 1) q) := by
  have hat : ∀ p ∈ mends X (h + 1) q, 0 ≤ p.At ∧ p.At < h := by
    intro p hp
    obtain ⟨p', h1, h2⟩ := mends_at _ _ _ _ hp
    rw [h2]
    exact ⟨(hv.each p' h1).1, (hv.each p' h1).2.1⟩
  refine ⟨mends_congr _ _ fun i hi => wr_other _ _ _ fun p hp => by have := hat p hp; omega, ?_⟩
  apply ext_getD (by rw [wr_len])
  intro i
  exact wr_over _ (mends_sorted X (h + 1) q hv.sorted) (fun p hp => (hat p hp).1) _ _ (wr_len _ _) (fun p hp => by rw [wr_len]; have := hat p hp; omega) i (fun hno => wr_other _ _ _ hno)
structure Good0 (d : TDisk) : Prop where
  ok : DOk d
  len : d.Last.length = 19
  wait : d.Wait = []
  up : d.Down = false
  arm : d.Arm = 0
theorem Mend_settles {d : TDisk} (hd : Good0 d) {T : Nat → List UInt8} (hs : Settles 9 d.Last T) : ∃ d' b, jrnl_Mend fuel d 9 = some (d', b) ∧ Good0 d' ∧ Clean 9 d'.Last T ∧ ∃ b', jrnl_Mend fuel d' 9 = some (d', b') := by
  rcases hs with ⟨hn, ha⟩ | ⟨q, hq, hv, hl, hh, ha⟩
  · have hm := Mend_no d hd.ok hd.up hd.wait 9 (by rw [hd.len]; omega) hn
    rw [show ((9 : Nat) : Int) = 9 from rfl] at hm
    exact ⟨d, false, hm, hd, Clean.mk_no hn ha, false, hm⟩
  · have hmy : ∀ (e : TDisk), Good0 e → 9 + q.length < e.Last.length → e.Last.getD 9 [] = headB q → jrnl_Mend fuel e 9 = some (⟨wr e.Last (mends e.Last 10 q), [], 0, false⟩, true) := by
      intro e he hl hh
      have hm := Mend_yes e he.ok he.up he.wait 9 (by omega) q hq hv hl hh
      rw [show ((9 : Nat) : Int) = 9 from rfl] at hm
      obtain ⟨L, W, A, D⟩ := e
      have h1 := he.wait
      have h2 := he.up
      have h3 := he.arm
      simp only at h1 h2 h3
      subst h1 h2 h3
      have hw : wmany ⟨L, [], 0, false⟩ (mends L (9 + 1) q) = (⟨L, mends L 10 q, 0, false⟩, true) := wmany_all (mends L (9 + 1) q) ⟨L, [], 0, false⟩ rfl (Int.le_refl _) (.inl rfl)
      rw [hm, hw]
      rfl
    have hat : ∀ p ∈ mends d.Last 10 q, 0 ≤ p.At ∧ p.At < 9 := by
      intro p hp
      obtain ⟨p', h1, h2⟩ := mends_at _ _ _ _ hp
      rw [h2]
      exact ⟨(hv.each p' h1).1, (hv.each p' h1).2.1⟩
    have hmok := mends_ok d.Last 9 hd.ok.last 10 q hv.each (by rw [hd.len]; omega) (by omega)
    have hm := hmy d hd hl hh
    obtain ⟨Y, hY⟩ : ∃ Y, wr d.Last (mends d.Last 10 q) = Y := ⟨_, rfl⟩
    have ly : Y.length = 19 := by rw [← hY, wr_len, hd.len]
    have hg : Good0 ⟨Y, [], 0, false⟩ := ⟨⟨by rw [← hY]; exact wr_each _ _ hd.ok.last (fun p hp => (hmok p hp).2.2), by show Y.length ≤ 1000; omega, (fun q hq => nomatch hq), by show (0 : Nat) ≤ 1000; omega, Int.le_refl _, by show (0 : Int) ≤ 1000; omega⟩, ly, rfl, rfl, rfl⟩
    obtain ⟨r1, r2⟩ := remend hv hl
    have r1' : mends Y 10 q = mends d.Last 10 q := by rw [← hY]; exact r1
    have r2' : wr Y (mends d.Last 10 q) = Y := by rw [← hY]; exact r2
    have hyh : Y.getD 9 [] = headB q := by rw [← hY, wr_other _ _ _ (fun p hp => by have := hat p hp; omega), hh]
    have hya : ∀ i, i < 9 → Y.getD i [] = T i := fun i hi => by rw [← hY]; exact ha i hi
    have hm2 := hmy ⟨Y, [], 0, false⟩ hg (by show 9 + q.length < Y.length; rw [ly, ← hd.len]; exact hl) hyh
    rw [hY] at hm
    refine ⟨⟨Y, [], 0, false⟩, true, hm, hg, ⟨hya, .inr ⟨q, hq, hv, by show 9 + q.length < Y.length; rw [ly, ← hd.len]; exact hl, hyh, fun i hi => ?_⟩⟩, true, ?_⟩
    · rw [r1', r2']; exact hya i hi
    · rw [hm2]
      show some (TDisk.mk (wr Y (mends Y 10 q)) [] 0 false, true) = _
      rw [r1', r2']
theorem sectors_ok {d : TDisk} (hd : Good0 d) {s : TState} (hs : Good 1073741824 s) (ha : ∀ i, i < 9 → d.Last.getD i [] = (img s).getD i []) : store_sectors fuel d = some (.inl (img s)) := by
  have l1 := img_len hs
  unfold store_sectors store_sectors_k
  rw [home_ok, some_bind]
  unfold store_sectors_l0
  obtain ⟨x, e, hx⟩ := iter_inv (step := store_sectors_s0 9 d) (fun k v => ∃ i : Nat, v.1 = (i : Int) ∧ i + k = 9 ∧ v.2 = (img s).take i) (fun r => r = .inr (img s)) (fun k v hI => by
    obtain ⟨v1, v2⟩ := v
    obtain ⟨i, h1, hk, h2⟩ := hI
    simp only at h1 h2
    subst h1 h2
    simp only [store_sectors_s0, store_sectors_s0k]
    by_cases hlt : i < 9
    · rw [decide_eq_true (show (i : Int) < 9 by omega), Read_plain d hd.up i (by rw [hd.len]; omega) (fun q hq => by rw [hd.wait] at hq; cases hq), decide_eq_true (show ((img s).take i).length + 1 ≤ lim by rw [lim_eq, List.length_take]; omega), wi64_succ (by omega), ha i hlt]
      refine ⟨_, rfl, k - 1, by omega, i + 1, rfl, by omega, ?_⟩
      rw [List.take_add_one, List.getD_eq_getElem?_getD, List.getElem?_eq_getElem (show i < (img s).length by omega)]
      rfl
    · obtain rfl : i = 9 := by omega
      exact ⟨_, rfl, by rw [List.take_of_length_le (by omega)]; rfl⟩) 9 (0, []) fuel ⟨0, rfl, rfl, rfl⟩ (fuel_gt (by omega))
  rw [e, hx, some_bind]
  rfl
theorem Open_settles {d : TDisk} (hd : Good0 d) {s : TState} (hs : Good 1073741824 s) (hset : Settles 9 d.Last (fun i => (img s).getD i [])) :
    ∃ d', store_Open fuel d = some (⟨d', s⟩, true) ∧ Good0 d' ∧ Clean 9 d'.Last (fun i => (img s).getD i []) ∧ store_Open fuel d' = some (⟨d', s⟩, true) := by
  obtain ⟨d', b, hm, hg, hc, b', hm'⟩ := Mend_settles hd hset
  have l1 := img_len hs
  obtain ⟨t, et, ht⟩ := Take_ok (img s) (by omega) (by have := flat_le (img s) (fun x hx => by rw [img_each hs x hx]; omega); rw [lim_eq]; omega)
  have ht2 : t = (s, true) := taken_one ht (.inl ⟨s, hs, rfl, rfl⟩)
  subst ht2
  have go : ∀ (e : TDisk) (c : Bool), Good0 e → jrnl_Mend fuel e 9 = some (d', c) → store_Open fuel e = some (⟨d', s⟩, true) := by
    intro e c he hme
    unfold store_Open store_Open_k
    rw [size_ok, some_bind, eq_int (show (e.Last.length : Int) = 19 by have := he.len; omega), he.up, home_ok]
    simp only [cond_false, some_bind]
    rw [hme, some_bind, sectors_ok hg hs hc.at_, some_bind]
    simp only [alt_inl]
    rw [et]
    rfl
  exact ⟨d', go d b hd hm, hg, hc, go d' b' hg hm'⟩
end Go.Proofs.YtinbnobanikfmaaGreatDoor.N

set_option linter.unusedVariables false
set_option linter.unusedSimpArgs false
namespace Go.Proofs.YtinbnobanikfmaaGreatDoor.N
open Go
theorem Settles.congr {h : Nat} {L : List (List UInt8)} {T T' : Nat → List UInt8} (hs : Settles h L T) (he : ∀ i, i < h → T i = T' i) : Settles h L T' := by
  rcases hs with ⟨a, b⟩ | ⟨q, a, b, c, d, e⟩
  · exact .inl ⟨a, fun i hi => (b i hi).trans (he i hi)⟩
  · exact .inr ⟨q, a, b, c, d, fun i hi => (e i hi).trans (he i hi)⟩
theorem Clean.congr {h : Nat} {L : List (List UInt8)} {T T' : Nat → List UInt8} (hs : Clean h L T) (he : ∀ i, i < h → T i = T' i) : Clean h L T' := ⟨fun i hi => (hs.at_ i hi).trans (he i hi), hs.set_.congr he⟩
theorem clean_after {h : Nat} {L : List (List UInt8)} {l : List TPut} (hl : l ≠ []) (hv : Valid h l) (hn : h + l.length < L.length) : Clean h (after L h l) (newT L l) := by
  have hat : ∀ i, i < h → (after L h l).getD i [] = newT L l i := fun i hi => after_home L h l i hi
  have hbig : ∀ i, h ≤ i → (after L h l).getD i [] = (wr (wr (wr L [⟨(h : Int), zeros⟩]) (copies (h + 1) l)) [⟨(h : Int), headB l⟩]).getD i [] := fun i hi => by
    unfold after
    rw [wr_other l _ i (fun p hp => by have := (hv.each p hp).2.1; have := (hv.each p hp).1; omega)]
  have hh : (after L h l).getD h [] = headB l := by
    rw [hbig h (Nat.le_refl _)]
    show (List.set _ (h : Int).toNat (headB l)).getD h [] = _
    rw [Int.toNat_natCast, getD_set_eq _ _ _ _ (by rw [wr_len, wr_len]; omega)]
  have hc : ∀ (j : Nat) p, l[j]? = some p → (after L h l).getD (h + 1 + j) [] = p.B := fun j p hj => by
    rw [hbig _ (by omega), wr_other _ _ _ (fun x hx => by rw [List.mem_singleton.1 hx]; show (h : Int).toNat ≠ _; omega)]
    exact wr_copies l (h + 1) _ (by rw [wr_len]; omega) j p hj
  refine ⟨hat, .inr ⟨l, hl, hv, by rw [after_len]; exact hn, hh, fun i hi => ?_⟩⟩
  rw [mends_same _ l (h + 1) hc]
  unfold newT
  exact wr_over l hv.sorted (fun p hp => (hv.each p hp).1) _ L (after_len L h l) (fun p hp => by rw [after_len]; have := (hv.each p hp).2.1; have := (hv.each p hp).1; omega) i (fun hno => by rw [hat i hi]; unfold newT; exact wr_other _ _ _ hno)
theorem rounds_ok (d : TDisk) (hd : DOk d) (hW : d.Wait = []) (home : Nat) (l : List TPut) (hv : Valid home l) (hn : home + l.length < d.Last.length) : DOk (rounds d home l).1 ∧ (rounds d home l).1.Last.length = d.Last.length := by
  unfold rounds
  have h16 := hv.len
  have hz : okP d.Last.length ⟨(home : Int), zeros⟩ := ⟨by show (0 : Int) ≤ home; omega, by show (home : Int) < _; omega, rfl⟩
  have d1 := wput_ok hd (by rw [hW]; simp) hz
  have L1 := wput_last d ⟨(home : Int), zeros⟩
  generalize wput d ⟨(home : Int), zeros⟩ = a at d1 L1
  cases a.Down with
  | true => exact ⟨d1, by rw [cond_true, L1]⟩
  | false =>
    simp only [cond_false]
    have d2 := flushed_ok d1
    have N2 : (flushed a).Last.length = d.Last.length := by rw [flushed_len, L1]
    have W2 : (flushed a).Wait = [] := rfl
    generalize flushed a = b at d2 N2 W2
    have hcp : ∀ p ∈ copies (home + 1) l, okP b.Last.length p := by
      intro p hp
      obtain ⟨q, hq, h1, h2, h3⟩ := copies_at _ _ _ hp
      exact ⟨by omega, by rw [N2]; omega, by rw [h3]; exact (hv.each q hq).2.2⟩
    have d3 := wmany_ok (copies (home + 1) l) b d2 (by rw [W2, copies_len]; simp; omega) hcp
    have L3 := wmany_last (copies (home + 1) l) b
    cases (wmany b (copies (home + 1) l)).2 with
    | false => exact ⟨d3, by rw [cond_false, L3, N2]⟩
    | true =>
      simp only [cond_true]
      generalize (wmany b (copies (home + 1) l)).1 = c at d3 L3
      have d4 := flushed_ok d3
      have N4 : (flushed c).Last.length = d.Last.length := by rw [flushed_len, L3, N2]
      have W4 : (flushed c).Wait = [] := rfl
      generalize flushed c = q at d4 N4 W4
      have hq : okP q.Last.length ⟨(home : Int), headB l⟩ := ⟨by show (0 : Int) ≤ home; omega, by show (home : Int) < _; omega, headB_len l h16⟩
      have d5 := wput_ok d4 (by rw [W4]; simp) hq
      have L5 := wput_last q ⟨(home : Int), headB l⟩
      generalize wput q ⟨(home : Int), headB l⟩ = u at d5 L5
      cases u.Down with
      | true => exact ⟨d5, by rw [cond_true, L5, N4]⟩
      | false =>
        simp only [cond_false]
        have d6 := flushed_ok d5
        have N6 : (flushed u).Last.length = d.Last.length := by rw [flushed_len, L5, N4]
        have W6 : (flushed u).Wait = [] := rfl
        generalize flushed u = v at d6 N6 W6
        have hlv : ∀ p ∈ l, okP v.Last.length p := by
          intro p hp
          obtain ⟨h1, h2, h3⟩ := hv.each p hp
          exact ⟨h1, by rw [N6]; omega, h3⟩
        have d7 := wmany_ok l v d6 (by rw [W6]; simp; omega) hlv
        have L7 := wmany_last l v
        cases (wmany v l).2 with
        | true => exact ⟨flushed_ok d7, by rw [cond_true, flushed_len, L7, N6]⟩
        | false => exact ⟨d7, by rw [cond_false, L7, N6]⟩
theorem Commit_any {L : List (List UInt8)} {A : Int} {s t : TState} (hL : ∀ x ∈ L, x.length = 32) (hN : L.length = 19) (hA0 : 0 ≤ A) (hA1 : A ≤ 900) (hs : Good 1073741824 s) (ht : Good 1073741824 t) (hc : Clean 9 L (fun i => (img s).getD i [])) :
    ∃ d' b, store_Commit fuel ⟨⟨L, [], A, false⟩, s⟩ t = some (⟨d', bif b then t else s⟩, b) ∧ DOk d' ∧ d'.Last.length = 19 ∧
      (b = true → d'.Wait = [] ∧ d'.Down = false ∧ Clean 9 d'.Last (fun i => (img t).getD i [])) ∧
      (b = false → ∀ keep, Settles 9 (crashL d'.Last d'.Wait keep) (fun i => (img s).getD i []) ∨ Settles 9 (crashL d'.Last d'.Wait keep) (fun i => (img t).getD i [])) ∧
      (A = 0 → b = true ∧ d'.Arm = 0) := by
  have l1 := img_len hs
  have l2 := img_len ht
  have d0 : DOk ⟨L, [], A, false⟩ := ⟨hL, by show L.length ≤ 1000; omega, (fun q hq => nomatch hq), by show (0 : Nat) ≤ 1000; omega, hA0, by show A ≤ 1000; omega⟩
  unfold store_Commit store_Commit_k
  rw [Put_ok _ (good_names ht), some_bind, putI_good ht, show (((img t).length : Int) == 0) = false from beq_ne (by omega), home_ok]
  simp only [cond_false, some_bind]
  rw [Put_ok _ (good_names hs), some_bind, putI_good hs, Diff_ok _ _ (by omega), some_bind]
  by_cases he : diffP (img s) (img t) = []
  · have hst : img s = img t := (diff_nil (by omega)).1 he
    rw [he]
    refine ⟨⟨L, [], A, false⟩, true, rfl, d0, hN, fun _ => ⟨rfl, rfl, ?_⟩, fun h => (by cases h), fun h => ⟨rfl, h⟩⟩
    rw [← hst]
    exact hc
  · have hv := diff_valid hs ht
    have hlen9 : (diffP (img s) (img t)).length ≤ 9 := by
      have := diff_len (img s) (img t) (img t).length
      unfold diffP
      omega
    have hnew : ∀ i, i < 9 → newT L (diffP (img s) (img t)) i = (img t).getD i [] := fun i hi => wr_diff hs ht L (by omega) hc.at_ i hi
    have hcm := Commit_ok ⟨L, [], A, false⟩ d0 rfl (by show (0 : Nat) < 1000; omega) 9 _ he hv (by show 9 + _ < L.length; omega) (by omega)
    rw [show ((9 : Nat) : Int) = 9 from rfl] at hcm
    rw [hcm]
    obtain ⟨k1, k2⟩ := rounds_ok ⟨L, [], A, false⟩ d0 rfl 9 _ hv (by show 9 + _ < L.length; omega)
    have hcut := settles_cut hL (by omega) hc _ he hv (by omega) A hA0 hA1
    have hall : A = 0 → (rounds ⟨L, [], A, false⟩ 9 (diffP (img s) (img t))).2 = true ∧ (rounds ⟨L, [], A, false⟩ 9 (diffP (img s) (img t))).1.Arm = 0 := by
      rintro rfl
      rw [rounds_all]
      exact ⟨rfl, rfl⟩
    generalize hR : rounds ⟨L, [], A, false⟩ 9 (diffP (img s) (img t)) = R at k1 k2 hcut hall
    obtain ⟨d', b⟩ := R
    simp only at k1 k2 hcut hall
    refine ⟨d', b, by cases b <;> rfl, k1, by rw [k2]; exact hN, fun hb => ?_, fun hb keep => ?_, hall⟩
    · rcases hcut [] with ⟨_, c2, c3, c4⟩ | ⟨c1, _⟩
      · refine ⟨c3, c4, ?_⟩
        rw [c2]
        exact (clean_after he hv (by omega)).congr hnew
      · rw [hb] at c1; cases c1
    · rcases hcut keep with ⟨c1, _⟩ | ⟨_, c2⟩
      · rw [hb] at c1; cases c1
      · rcases c2 with c2 | c2
        · exact .inl c2
        · exact .inr (c2.congr hnew)
theorem clean_new : Clean 9 (List.replicate 19 zeros) (fun i => (img newState).getD i []) := by
  refine Clean.mk_no ?_ Holds_new.at_
  have : (List.replicate 19 zeros).getD 9 [] = zeros := by rw [List.getD_eq_getElem?_getD, List.getElem?_replicate, if_pos (by omega)]; rfl
  rw [this]
  exact noHead_zero
end Go.Proofs.YtinbnobanikfmaaGreatDoor.N

set_option linter.unusedVariables false
set_option linter.unusedSimpArgs false
namespace Go.Proofs.YtinbnobanikfmaaGreatDoor.N
open Go
theorem state_self {s : TState} (h : Good 1073741824 s) : ref7_SameState fuel s s = some true := SameState_self s (by rw [h.nm]; omega) (by rw [h.nf]; omega)
theorem law12_StoreTwice_ok (a b : List UInt8) (arm : UInt8) (keep : List Int) (ha : a.length ≤ 1048576) (hb : b.length ≤ 1048576) (hk : keep.length ≤ 1048576) : law12_StoreTwice fuel a b arm keep = some true := by
  unfold law12_StoreTwice law12_StoreTwice_k
  rw [store_begun, some_bind]
  simp only [Bool.not_true, cond_false]
  by_cases h1 : (a.length : Int) > 30
  · rw [decide_eq_true h1]; rfl
  rw [decide_eq_false h1]
  by_cases h2 : (b.length : Int) > 30
  · rw [decide_eq_true h2]; rfl
  rw [decide_eq_false h2]
  by_cases h3 : (keep.length : Int) > 20
  · rw [decide_eq_true h3]; rfl
  rw [decide_eq_false h3]
  simp only [cond_false]
  obtain ⟨r, e, hg⟩ := State_ok 12 (by omega) (made_Made a) (made_ok a (by omega))
  obtain ⟨r2, e2, hg2⟩ := State_ok 12 (by omega) (made_Made b) (made_ok b (by omega))
  have e' : made_Picks_State fuel 12 (made_Made a) = some r := e
  have e2' : made_Picks_State fuel 12 (made_Made b) = some r2 := e2
  rw [e', some_bind, e2', some_bind, Make_ok, some_bind]
  generalize r.1 = s at hg
  generalize r2.1 = t at hg2
  obtain ⟨d1, b1, c1, k1, n1, y1, _, z1⟩ := Commit_any (L := List.replicate 19 zeros) (A := 0) Holds_new.ok.last List.length_replicate (Int.le_refl _) (by omega) (new_ok.mono (by omega)) hg clean_new
  obtain ⟨hb1, ha1⟩ := z1 rfl
  subst hb1
  obtain ⟨w1, u1, cl1⟩ := y1 rfl
  rw [c1]
  simp only [cond_true, some_bind, Bool.not_true, cond_false]
  have m0 : 0 ≤ (i8 arm).tmod 30 := by rw [Int.tmod_eq_emod_of_nonneg (i8_lo arm)]; exact Int.emod_nonneg _ (by omega)
  have m1 : (i8 arm).tmod 30 < 30 := by rw [Int.tmod_eq_emod_of_nonneg (i8_lo arm)]; exact Int.emod_lt_of_pos _ (by omega)
  rw [i8_b8 m0 (by omega), wi64_of (show -9223372036854775808 ≤ (i8 arm).tmod 30 by omega) (by omega), w1, u1]
  obtain ⟨d2, b2, c2, k2, n2, y2, x2, _⟩ := Commit_any (A := (i8 arm).tmod 30) k1.last n1 m0 (by omega) hg hg2 cl1
  rw [c2]
  simp only [some_bind]
  rw [Crash_ok d2 k2 keep, some_bind]
  have hset : ∃ S, Good 1073741824 S ∧ Settles 9 (crashL d2.Last d2.Wait keep) (fun i => (img S).getD i []) ∧ (b2 = true → S = t) := by
    cases b2 with
    | true =>
      obtain ⟨w2, u2, cl2⟩ := y2 rfl
      refine ⟨t, hg2, ?_, fun _ => rfl⟩
      rw [w2]
      exact cl2.set_
    | false =>
      rcases x2 rfl keep with h | h
      · exact ⟨s, hg, h, fun h => by cases h⟩
      · exact ⟨t, hg2, h, fun _ => rfl⟩
  obtain ⟨S, hgS, hS, hSt⟩ := hset
  have g3 : Good0 ⟨crashL d2.Last d2.Wait keep, [], 0, false⟩ := ⟨⟨crash_each _ _ _ k2.last k2.wait, by show (crashL d2.Last d2.Wait keep).length ≤ 1000; rw [crash_len]; omega, (fun q hq => nomatch hq), by show (0 : Nat) ≤ 1000; omega, Int.le_refl _, by show (0 : Int) ≤ 1000; omega⟩, by show (crashL d2.Last d2.Wait keep).length = 19; rw [crash_len]; exact n2, rfl, rfl, rfl⟩
  obtain ⟨d4, o4, g4, cl4, o5⟩ := Open_settles g3 hgS hS
  rw [o4]
  simp only [some_bind]
  rw [o5]
  simp only [some_bind, Bool.not_true, cond_false]
  rw [state_self hgS, some_bind]
  simp only [Bool.not_true, cond_false]
  rw [SameTexts_ok _ _ (by have := g4.len; omega), beq_self_eq_true, some_bind]
  simp only [Bool.not_true, cond_false]
  obtain ⟨L4, W4, A4, D4⟩ := d4
  have q1 := g4.wait
  have q2 := g4.up
  have q3 := g4.arm
  have q4 := g4.len
  simp only at q1 q2 q3 q4
  subst q1 q2 q3
  obtain ⟨d5, b5, c5, k5, n5, y5, _, z5⟩ := Commit_any (A := 0) g4.ok.last q4 (Int.le_refl _) (by omega) hgS hg2 cl4
  obtain ⟨hb5, ha5⟩ := z5 rfl
  subst hb5
  obtain ⟨w5, u5, cl5⟩ := y5 rfl
  rw [c5]
  simp only [cond_true, some_bind]
  obtain ⟨d6, o6, _, _, _⟩ := Open_settles (d := d5) ⟨k5, n5, w5, u5, ha5⟩ hg2 cl5.set_
  rw [o6]
  simp only [cond_true, some_bind]
  rw [state_self hg2, some_bind]
  simp only [cond_true]
  cases b2 with
  | false => rfl
  | true =>
    rw [hSt rfl, state_self hg2]
    rfl
end Go.Proofs.YtinbnobanikfmaaGreatDoor.N

set_option linter.unusedVariables false
set_option maxRecDepth 100000
namespace Go.Proofs.YtinbnobanikfmaaGreatDoor
open Go Go.ChangeShapes Go.WideShapes Go.ChangeAt Go.RowKit
namespace Q5
open Go.Proofs.YtinbnobanikfmaaGreatDoor.D Go.Proofs.YtinbnobanikfmaaGreatDoor.S
theorem law (xs : List (DVal E.T)) (h : ArgsOk E 1048576 [(.slice (.int .u8)), (.slice (.int .u8)), (.int .u8), (.slice (.int .i64))] xs) : (B5 xs []).get = some (.ret [.val .bool true], []) := by
  match xs, h with
  | [_, _, _, _], .cons _ _ x0 _ h0 (.cons _ _ x1 _ h1 (.cons _ _ x2 _ h2 (.cons _ _ x3 _ h3 .nil))) => exact (F5 x0 x1 x2 x3).trans ((N.law12_StoreTwice_bind N.fuel _ x0 x1 x2 x3).trans (by rw [N.law12_StoreTwice_ok x0 x1 x2 x3 (h0 12).1 (h1 12).1 (h3 12).1]; rfl))
theorem contract (H : Type) (enc : TypeId × Value → H) (W : World) (base : Nat) (args : Array Value) (ds gs : List (DataW H)) (before : List MemPlace)
    (hval : ∀ (j : Nat) t v, Tryz.f5.params[j]? = some t → args[j]? = some v → Value.okWide Tryz.prog W .any base t v)
    (hW : DataW.Whole enc Tryz.prog Tryz.f5.params.toList Rows.storeTwiceSpec.vars false W args.toList ds gs before) (hk : ∀ d ∈ ds, Rows.uptoBulk d ≤ 1048576) :
    Calls Tryz.prog 5 args W fun e W' => ∃ v, e = .returned v ∧ Rows.storeTwiceSpec.post enc Tryz.prog Tryz.f5 false true false false W args v W' :=
  law_contract sound tl laid full meas bl (fn := Tryz.f5) (tb := 4) rfl Tryz.underlying4 (ps := [(.slice (.int .u8)), (.slice (.int .u8)), (.int .u8), (.slice (.int .i64))]) rfl
    (by
      have h : (Tryz.f5.params.toList.all fun t => Tryz.prog.readableRec t && decide (t < Tryz.prog.types.size)) = true := by kernel_rfl
      intro t ht
      have := List.all_eq_true.1 h t ht
      simpa using this) rfl
    (fun ds hd => by
      match ds, hd with
      | [x0, x1, x2, x3], _ => rfl)
    B5_ok law W base args ds gs before hval hW hk
noncomputable def laidWorld (os : Os) : World := layAt 1 ((Go.Pinned.utf8FirstZ.map fun (n : Nat) => Value.int .u8 (Int.ofNat n))) (layAt 2 ([.int .u8 128, .int .u8 191, .int .u8 160, .int .u8 191, .int .u8 128, .int .u8 159, .int .u8 144, .int .u8 191, .int .u8 128, .int .u8 143, .int .u8 0, .int .u8 0, .int .u8 0, .int .u8 0, .int .u8 0, .int .u8 0, .int .u8 0, .int .u8 0, .int .u8 0, .int .u8 0, .int .u8 0, .int .u8 0, .int .u8 0, .int .u8 0, .int .u8 0, .int .u8 0, .int .u8 0, .int .u8 0, .int .u8 0, .int .u8 0, .int .u8 0, .int .u8 0]) (World.holding Tryz.prog os ⟨#[], #[], []⟩))
theorem laid_met (os : Os) : laidMet Tryz.prog Rows.storeTwiceUptoRow.laid ((laidWorld os).forCall (fun _ _ => 0) ⟨#[], #[.slice none 0 0, .slice none 0 0, .int .u8 0, .slice none 0 0], []⟩).memory := laidMet_of_run' 8 (by kernel_rfl) (by kernel_rfl)
theorem reads (os : Os) {H : Type} (enc : TypeId × Value → H) : ∃ places, DataW.whole enc Tryz.prog ((laidWorld os).forCall (fun _ _ => 0) ⟨#[], #[.slice none 0 0, .slice none 0 0, .int .u8 0, .slice none 0 0], []⟩).memory Tryz.f5.params.toList Rows.storeTwiceSpec.vars false (#[.slice none 0 0, .slice none 0 0, .int .u8 0, .slice none 0 0] : Array Value).toList 8 = some ([.nil, .nil, .lit (.int .u8 0), .nil], [], places) := ⟨[], by kernel_rfl⟩
theorem lifted (os : Os) (started : os.Started) (H : Type) (enc : TypeId × Value → H) (F : Stop.Interp) :
    ReturnsInHanded {} Tryz.checked os 5 .any ((Rows.OpenSpec.upto Rows.storeTwiceSpec).preRow enc Tryz.prog Tryz.f5 Rows.storeTwiceUptoRow.domain false Rows.storeTwiceUptoRow.laid) (((Rows.OpenSpec.upto Rows.storeTwiceSpec).at F).post enc Tryz.prog Tryz.f5 false true false false) := by
  obtain ⟨places, hx⟩ := reads os enc
  refine returnsInHanded_of_row (C := Tryz.checked) (s := Rows.OpenSpec.upto Rows.storeTwiceSpec) own started (by kernel_rfl) Tryz.func5
    (witness_row_at (enc := enc) (C := Tryz.checked) false (laidWorld os) #[.slice none 0 0, .slice none 0 0, .int .u8 0, .slice none 0 0] rfl (by kernel_rfl) (by kernel_rfl) (by kernel_rfl)
      (OpenSpec.preRow_of_cond 8 hx (by kernel_rfl) (fun k hk => by cases hk; kernel_rfl) (by kernel_rfl) (laid_met os))) ?_
  intro W base args ds gs before hval hW _ hcond _ _ _ _
  have hgs : gs = [] := by
    obtain ⟨p, q, hA, hV, _⟩ := hW
    cases gs with
    | nil => rfl
    | cons g gs => exact hV.elim
  subst hgs
  have hk := hcond _ rfl
  exact contract H enc W base args ds [] before hval hW (small hk)
theorem over : Rows.storeTwiceUptoRow.holds Tryz.pinned (Rows.OpenSpec.upto Rows.storeTwiceSpec) :=
  OpenClaim.holds_of_cond 5 Tryz.f5 rfl rfl rfl rfl rfl rfl rfl ⟨rfl, rfl, rfl, rfl, rfl⟩ rfl rfl rfl rfl rfl (by kernel_rfl) Tryz.func5 (by kernel_rfl)
    (of_decide_eq_true (by kernel_rfl)) (by unfold Func.isWrapper; first | (rw [if_pos (by decide +kernel)]; kernel_rfl) | (rw [if_neg (by decide +kernel)]; exact ⟨rfl, rfl⟩))
    (fun os started H enc _ F => by rw [OpenClaim.pre_eq_preRow]; exact lifted os started H enc F)
theorem plain (f : FuncId) (fn : Func) (hf : Tryz.pinned.checked.prog.funcNamed "tenancy/tenancylaw12.StoreTwice" = some f) (hfn : Tryz.pinned.checked.prog.funcs[f]? = some fn) :
    true = Tryz.pinned.checked.prog.looks [] ∧ ∀ (j : Nat) t, fn.params[j]? = some t → Tryz.pinned.checked.prog.wantsStandIn t = false := by
  obtain rfl : f = 5 := Option.some.inj ((show Tryz.prog.funcNamed "tenancy/tenancylaw12.StoreTwice" = some 5 by kernel_rfl).symm.trans hf) |>.symm
  obtain rfl : fn = Tryz.f5 := (Option.some.inj (Tryz.func5.symm.trans hfn)).symm
  refine ⟨by kernel_rfl, fun j t ht => ?_⟩
  have h : (Tryz.f5.params.toList.all fun t => !(Tryz.prog.wantsStandIn t)) = true := by kernel_rfl
  have := List.all_eq_true.1 h t (Array.mem_toList_iff.2 (Array.mem_of_getElem? ht))
  show Tryz.prog.wantsStandIn t = false
  simpa using this
theorem card : Rows.StoreTwiceUptoCardSaid :=
  Claim7.holds_tied_plain_at .later [] _ _ _ _ over (fun _ h => by cases h) (by kernel_rfl) (fun _ h => by cases h) storeTwiceUpto_row_tie rfl ⟨rfl, rfl⟩ (by kernel_rfl) rfl plain (by kernel_rfl)
end Q5
theorem storeTwice_holds : Rows.StoreTwiceUptoCardSaid := Q5.card
end Go.Proofs.YtinbnobanikfmaaGreatDoor

/- Proved: JrnlMany answers true at all arguments of bounded bulk. No condition beyond the statement's: the listed variables as the program's text lays them (the card). (This text joins: Whatever lasts of a commit, or of a mending, that was cut off: it settles. A commit and a mending, at each of which the power may go; reading what stands there. The plain law of JrnlMany.) -/
import Derived.Test.YtddhfdbfackahaaDoorSeat4
import Derived.KernelRfl
import Derived.Test.YtddhfdbfackahaaDoorCards
import Derived.Test.YtddhfdbfackahaaDoorTie
import Derived.Deep.DeepHandedRow
import Derived.OpenShut
import Derived.Test.YtddhfdbfackahaaDoorSeat1
set_option linter.unusedVariables false
set_option linter.unusedSimpArgs false
set_option maxRecDepth 100000
namespace Go.Proofs.YtddhfdbfackahaaDoor.N
open Go
def after (L : List (List UInt8)) (home : Nat) (l : List TPut) : List (List UInt8) := wr (wr (wr (wr L [⟨(home : Int), zeros⟩]) (copies (home + 1) l)) [⟨(home : Int), headB l⟩]) l
theorem rounds_all (L : List (List UInt8)) (home : Nat) (l : List TPut) : rounds ⟨L, [], 0, false⟩ home l = (⟨after L home l, [], 0, false⟩, true) := by
  unfold rounds
  have w1 : ∀ (L : List (List UInt8)) (p : TPut), wput ⟨L, [], 0, false⟩ p = ⟨L, [p], 0, false⟩ := fun L p => rfl
  have f1 : ∀ (L : List (List UInt8)) (ws : List TPut), flushed ⟨L, ws, 0, false⟩ = ⟨wr L ws, [], 0, false⟩ := fun L ws => rfl
  have m1 : ∀ (L : List (List UInt8)) (ws : List TPut), wmany ⟨L, [], 0, false⟩ ws = (⟨L, ws, 0, false⟩, true) := fun L ws => wmany_all ws ⟨L, [], 0, false⟩ rfl (Int.le_refl _) (.inl rfl)
  rw [w1, f1, m1]
  simp only [cond_false, cond_true]
  rw [f1, w1, f1, m1]
  simp only [cond_false, cond_true]
  rw [f1]
  rfl
theorem getD_set_ne {α : Type} (L : List α) (i j : Nat) (x d : α) (h : i ≠ j) : (L.set i x).getD j d = L.getD j d := by
  rw [List.getD_eq_getElem?_getD, List.getD_eq_getElem?_getD, List.getElem?_set_ne h]
theorem getD_set_eq {α : Type} (L : List α) (i : Nat) (x d : α) (h : i < L.length) : (L.set i x).getD i d = x := by
  rw [List.getD_eq_getElem?_getD, List.getElem?_set_self h]
  rfl
theorem wr_other : ∀ (ws : List TPut) (L : List (List UInt8)) (i : Nat), (∀ p ∈ ws, p.At.toNat ≠ i) → (wr L ws).getD i [] = L.getD i []
  | [], L, i, _ => rfl
  | p :: r, L, i, h => by
    show (wr (L.set p.At.toNat p.B) r).getD i [] = _
    rw [wr_other r _ i (fun q hq => h q (List.mem_cons_of_mem _ hq)), getD_set_ne _ _ _ _ _ (h p (List.mem_cons_self ..))]
theorem wr_at : ∀ (ws : List TPut) (L : List (List UInt8)) (p : TPut), p ∈ ws → (∀ q ∈ ws, 0 ≤ q.At) → ws.Pairwise (fun a b => a.At < b.At) → p.At.toNat < L.length → (wr L ws).getD p.At.toNat [] = p.B
  | [], _, _, h, _, _, _ => by cases h
  | q :: r, L, p, h, h0, hs, hl => by
    show (wr (L.set q.At.toNat q.B) r).getD p.At.toNat [] = _
    rcases List.mem_cons.1 h with rfl | h
    · rw [wr_other r _ _ (fun x hx => by
        have := List.rel_of_pairwise_cons hs hx
        have := h0 p (List.mem_cons_self ..)
        omega), getD_set_eq _ _ _ _ hl]
    · exact wr_at r _ p h (fun x hx => h0 x (List.mem_cons_of_mem _ hx)) (List.Pairwise.of_cons hs) (by rw [List.length_set]; exact hl)
theorem after_len (L : List (List UInt8)) (home : Nat) (l : List TPut) : (after L home l).length = L.length := by
  unfold after; rw [wr_len, wr_len, wr_len, wr_len]
theorem after_home (L : List (List UInt8)) (home : Nat) (l : List TPut) (i : Nat) (hi : i < home) : (after L home l).getD i [] = (wr L l).getD i [] := by
  have hw : ∀ (l : List TPut) (A B : List (List UInt8)), A.length = B.length → A.getD i [] = B.getD i [] → (wr A l).getD i [] = (wr B l).getD i [] := by
    intro l
    induction l with
    | nil => intro A B _ h; exact h
    | cons p r ih =>
      intro A B hl h
      refine ih (A.set p.At.toNat p.B) (B.set p.At.toNat p.B) (by rw [List.length_set, List.length_set]; exact hl) ?_
      by_cases hp : p.At.toNat = i
      · by_cases hlt : i < A.length
        · rw [hp, getD_set_eq _ _ _ _ hlt, getD_set_eq _ _ _ _ (by omega)]
        · rw [List.getD_eq_getElem?_getD, List.getD_eq_getElem?_getD, List.getElem?_eq_none (by rw [List.length_set]; omega), List.getElem?_eq_none (by rw [List.length_set]; omega)]
      · rw [getD_set_ne _ _ _ _ _ hp, getD_set_ne _ _ _ _ _ hp, h]
  unfold after
  refine hw l _ _ (by rw [wr_len, wr_len, wr_len]) ?_
  have h1 : ∀ (A : List (List UInt8)) (b : List UInt8), (wr A [⟨(home : Int), b⟩]).getD i [] = A.getD i [] := fun A b => wr_other _ _ _ (fun p hp => by rw [List.mem_singleton.1 hp]; show (home : Int).toNat ≠ i; omega)
  rw [h1, wr_other _ _ _ (fun p hp => by obtain ⟨_, _, h2, _⟩ := copies_at _ _ _ hp; omega), h1]
def noHead (s : List UInt8) : Prop := s[0]? ≠ some 1 ∨ s[31]? ≠ some 1
def Settles (h : Nat) (L : List (List UInt8)) (T : Nat → List UInt8) : Prop :=
  (noHead (L.getD h []) ∧ ∀ i, i < h → L.getD i [] = T i) ∨
  (∃ q, q ≠ [] ∧ Valid h q ∧ h + q.length < L.length ∧ L.getD h [] = headB q ∧ ∀ i, i < h → (wr L (mends L (h + 1) q)).getD i [] = T i)
theorem mends_same (L : List (List UInt8)) : ∀ (l : List TPut) (n : Nat), (∀ (j : Nat) p, l[j]? = some p → L.getD (n + j) [] = p.B) → mends L n l = l
  | [], n, _ => rfl
  | p :: r, n, h => by
    rw [mends, mends_same L r (n + 1) (fun j q hj => by
      have := h (j + 1) q hj
      rw [show n + 1 + j = n + (j + 1) by omega]
      exact this)]
    have := h 0 p rfl
    rw [Nat.add_zero] at this
    rw [this]
theorem wr_copies : ∀ (l : List TPut) (n : Nat) (L : List (List UInt8)), n + l.length ≤ L.length → ∀ (j : Nat) p, l[j]? = some p → (wr L (copies n l)).getD (n + j) [] = p.B
  | [], _, _, _, j, p, h => by cases h
  | q :: r, n, L, hl, j, p, h => by
    rw [List.length_cons] at hl
    rw [copies]
    show (wr (L.set (n : Int).toNat q.B) (copies (n + 1) r)).getD (n + j) [] = _
    cases j with
    | zero =>
      cases h
      rw [wr_other _ _ _ (fun x hx => by obtain ⟨_, _, h2, _⟩ := copies_at _ _ _ hx; omega), Int.toNat_natCast]
      exact getD_set_eq _ _ _ _ (by omega)
    | succ j =>
      have := wr_copies r (n + 1) (L.set (n : Int).toNat q.B) (by rw [List.length_set]; omega) j p h
      rw [show n + (j + 1) = n + 1 + j by omega]
      exact this
theorem tear_other (L : List (List UInt8)) (p : TPut) (k i : Nat) (h : p.At.toNat ≠ i) : (tear L p k).getD i [] = L.getD i [] := getD_set_ne _ _ _ _ _ h
theorem crash_other : ∀ (ws : List TPut) (L : List (List UInt8)) (ks : List Int) (i : Nat), (∀ p ∈ ws, p.At.toNat ≠ i) → (crashL L ws ks).getD i [] = L.getD i []
  | [], L, ks, i, _ => rfl
  | p :: r, L, ks, i, h => by
    rw [crashL, crash_other r _ _ i (fun q hq => h q (List.mem_cons_of_mem _ hq)), tear_other _ _ _ _ (h p (List.mem_cons_self ..))]
theorem wr_over (l : List TPut) (hs : l.Pairwise (fun a b => a.At < b.At)) (h0 : ∀ p ∈ l, 0 ≤ p.At) (A B : List (List UInt8)) (hlen : A.length = B.length) (hl : ∀ p ∈ l, p.At.toNat < A.length) (i : Nat) (h : (∀ p ∈ l, p.At.toNat ≠ i) → A.getD i [] = B.getD i []) : (wr A l).getD i [] = (wr B l).getD i [] := by
  by_cases hin : ∃ p ∈ l, p.At.toNat = i
  · obtain ⟨p, hp, rfl⟩ := hin
    rw [wr_at l A p hp h0 hs (hl p hp), wr_at l B p hp h0 hs (by rw [← hlen]; exact hl p hp)]
  · have hn : ∀ p ∈ l, p.At.toNat ≠ i := fun p hp he => hin ⟨p, hp, he⟩
    rw [wr_other _ _ _ hn, wr_other _ _ _ hn, h hn]
structure Clean (h : Nat) (L : List (List UInt8)) (T : Nat → List UInt8) : Prop where
  at_ : ∀ i, i < h → L.getD i [] = T i
  set_ : Settles h L T
theorem Clean.mk_no {h : Nat} {L : List (List UInt8)} {T : Nat → List UInt8} (hn : noHead (L.getD h [])) (ha : ∀ i, i < h → L.getD i [] = T i) : Clean h L T := ⟨ha, .inl ⟨hn, ha⟩⟩
theorem noHead_zeros (k : Nat) (hk : 1 ≤ k) (hk2 : k ≤ 32) (s : List UInt8) : noHead (zeros.take k ++ s) := by
  left
  cases k with
  | zero => omega
  | succ k =>
    show some (0 : UInt8) ≠ some 1
    decide
theorem noHead_part (k : Nat) (hk : k < 32) (s : List UInt8) (hs : s.length = 32) : noHead (s.take k ++ zeros.drop k) := by
  right
  rw [List.getElem?_append_right (by rw [List.length_take]; omega), List.length_take, hs, Nat.min_eq_left (by omega), List.getElem?_drop, show k + (31 - k) = 31 by omega]
  decide
theorem noHead_zero : noHead zeros := by left; decide
def newT (L : List (List UInt8)) (l : List TPut) (i : Nat) : List UInt8 := (wr L l).getD i []
theorem settles_cut {h : Nat} {L : List (List UInt8)} {T : Nat → List UInt8} (hL : ∀ x ∈ L, x.length = 32) (hN : L.length ≤ 1000) (hc : Clean h L T) (l : List TPut) (hl : l ≠ []) (hv : Valid h l) (hn : h + l.length < L.length) (A : Int) (hA0 : 0 ≤ A) (hA1 : A ≤ 900) (keep : List Int) :
    ((rounds ⟨L, [], A, false⟩ h l).2 = true ∧ (rounds ⟨L, [], A, false⟩ h l).1.Last = after L h l ∧ (rounds ⟨L, [], A, false⟩ h l).1.Wait = [] ∧ (rounds ⟨L, [], A, false⟩ h l).1.Down = false) ∨
    ((rounds ⟨L, [], A, false⟩ h l).2 = false ∧ (Settles h (crashL (rounds ⟨L, [], A, false⟩ h l).1.Last (rounds ⟨L, [], A, false⟩ h l).1.Wait keep) T ∨ Settles h (crashL (rounds ⟨L, [], A, false⟩ h l).1.Last (rounds ⟨L, [], A, false⟩ h l).1.Wait keep) (newT L l))) := by
  have hlp : 0 < l.length := List.length_pos_iff.2 hl
  have h16 := hv.len
  obtain ⟨L1, hL1⟩ : ∃ L1, wr L [⟨(h : Int), zeros⟩] = L1 := ⟨_, rfl⟩
  obtain ⟨L2, hL2⟩ : ∃ L2, wr L1 (copies (h + 1) l) = L2 := ⟨_, rfl⟩
  obtain ⟨L3, hL3⟩ : ∃ L3, wr L2 [⟨(h : Int), headB l⟩] = L3 := ⟨_, rfl⟩
  have l1 : L1.length = L.length := by rw [← hL1, wr_len]
  have l2 : L2.length = L.length := by rw [← hL2, wr_len, l1]
  have l3 : L3.length = L.length := by rw [← hL3, wr_len, l2]
  have hone : ∀ (X : List (List UInt8)) (b : List UInt8) (i : Nat), i ≠ h → (wr X [⟨(h : Int), b⟩]).getD i [] = X.getD i [] := fun X b i hi => wr_other _ _ _ (fun p hp => by rw [List.mem_singleton.1 hp]; show (h : Int).toNat ≠ i; omega)
  have honeh : ∀ (X : List (List UInt8)) (b : List UInt8), h < X.length → (wr X [⟨(h : Int), b⟩]).getD h [] = b := fun X b hx => by
    show (X.set (h : Int).toNat b).getD h [] = b
    rw [Int.toNat_natCast, getD_set_eq _ _ _ _ hx]
  have g1 : ∀ i, i < h → L1.getD i [] = T i := fun i hi => by rw [← hL1, hone _ _ _ (by omega), hc.at_ i hi]
  have g2 : ∀ i, i < h → L2.getD i [] = T i := fun i hi => by rw [← hL2, wr_other _ _ _ (fun p hp => by obtain ⟨_, _, h2, _⟩ := copies_at _ _ _ hp; omega), g1 i hi]
  have g3 : ∀ i, i < h → L3.getD i [] = T i := fun i hi => by rw [← hL3, hone _ _ _ (by omega), g2 i hi]
  have z1 : L1.getD h [] = zeros := by rw [← hL1]; exact honeh _ _ (by omega)
  have z2 : L2.getD h [] = zeros := by rw [← hL2, wr_other _ _ _ (fun p hp => by obtain ⟨_, _, h2, _⟩ := copies_at _ _ _ hp; omega), z1]
  have z3 : L3.getD h [] = headB l := by rw [← hL3]; exact honeh _ _ (by omega)
  have c2 : ∀ (j : Nat) p, l[j]? = some p → L2.getD (h + 1 + j) [] = p.B := by rw [← hL2]; exact wr_copies l (h + 1) L1 (by omega)
  have c3 : ∀ (j : Nat) p, l[j]? = some p → L3.getD (h + 1 + j) [] = p.B := fun j p hj => by rw [← hL3, hone _ _ _ (by omega), c2 j p hj]
  have key : ∀ X : List (List UInt8), X.length = L.length → X.getD h [] = headB l → (∀ (j : Nat) p, l[j]? = some p → X.getD (h + 1 + j) [] = p.B) → (∀ i, i < h → (∀ p ∈ l, p.At.toNat ≠ i) → X.getD i [] = T i) → Settles h X (newT L l) := by
    intro X hX hh hcp ho
    refine .inr ⟨l, hl, hv, by omega, hh, fun i hi => ?_⟩
    rw [mends_same X l (h + 1) hcp]
    unfold newT
    exact wr_over l hv.sorted (fun p hp => (hv.each p hp).1) X L hX (fun p hp => by have := (hv.each p hp).2.1; have := (hv.each p hp).1; omega) i (fun hn => by rw [ho i hi hn, hc.at_ i hi])
  unfold rounds
  by_cases a1 : A = 1
  · have w : wput ⟨L, [], A, false⟩ ⟨(h : Int), zeros⟩ = ⟨L, [⟨(h : Int), zeros⟩], 0, true⟩ := by rw [a1]; rfl
    rw [w]
    right
    refine ⟨rfl, .inl ?_⟩
    show Settles h (tear L ⟨(h : Int), zeros⟩ (clampK keep.head?)) T
    have hk := clampK_le keep.head?
    generalize clampK keep.head? = k at hk
    have hh : (tear L ⟨(h : Int), zeros⟩ k).getD h [] = zeros.take k ++ (L.getD h []).drop k := by
      show (L.set (h : Int).toNat _).getD h [] = _
      rw [Int.toNat_natCast, getD_set_eq _ _ _ _ (by omega)]
    by_cases k0 : k = 0
    · have : tear L ⟨(h : Int), zeros⟩ k = L := by
        subst k0
        show L.set (h : Int).toNat ((L.getD (h : Int).toNat []).drop 0) = L
        rw [Int.toNat_natCast, List.drop_zero, List.getD_eq_getElem?_getD, List.getElem?_eq_getElem (show h < L.length by omega)]
        exact List.set_getElem_self _
      rw [this]
      exact hc.set_
    · exact .inl ⟨by rw [hh]; exact noHead_zeros k (by omega) hk _, fun i hi => by rw [tear_other _ _ _ _ (by show (h : Int).toNat ≠ i; omega), hc.at_ i hi]⟩
  · obtain ⟨A1, hA1'⟩ : ∃ A1, (if A = 0 then 0 else A - 1) = A1 := ⟨_, rfl⟩
    have w : wput ⟨L, [], A, false⟩ ⟨(h : Int), zeros⟩ = ⟨L, [⟨(h : Int), zeros⟩], A1, false⟩ := by
      unfold wput
      by_cases a0 : A > 0
      · rw [if_pos a0]
        rw [if_neg (by omega)] at hA1'
        show TDisk.mk L _ (A - 1) (A - 1 == 0) = _
        rw [hA1']
        congr 1
        exact beq_ne (by omega)
      · rw [if_neg a0]
        rw [if_pos (by omega)] at hA1'
        show TDisk.mk L _ A false = _
        rw [show A = A1 by omega]
        rfl
    have f : flushed ⟨L, [⟨(h : Int), zeros⟩], A1, false⟩ = ⟨L1, [], A1, false⟩ := by rw [← hL1]; rfl
    rw [w, f]
    simp only [cond_false]
    by_cases a2 : 1 ≤ A1 ∧ A1 ≤ ((copies (h + 1) l).length : Int)
    · rw [wmany_cut _ _ rfl a2.1 a2.2]
      right
      refine ⟨rfl, .inl (.inl ⟨?_, fun i hi => ?_⟩)⟩
      · show noHead ((crashL L1 ([] ++ (copies (h + 1) l).take A1.toNat) keep).getD h [])
        rw [crash_other _ _ _ _ (fun p hp => by
          rw [List.nil_append] at hp
          obtain ⟨_, _, h2, _⟩ := copies_at _ _ _ (List.mem_of_mem_take hp)
          omega), z1]
        exact noHead_zero
      · show (crashL L1 ([] ++ (copies (h + 1) l).take A1.toNat) keep).getD i [] = T i
        rw [crash_other _ _ _ _ (fun p hp => by
          rw [List.nil_append] at hp
          obtain ⟨_, _, h2, _⟩ := copies_at _ _ _ (List.mem_of_mem_take hp)
          omega), g1 i hi]
    · obtain ⟨A2, hA2'⟩ : ∃ A2, (if A1 = 0 then 0 else A1 - ((copies (h + 1) l).length : Int)) = A2 := ⟨_, rfl⟩
      have m : wmany ⟨L1, [], A1, false⟩ (copies (h + 1) l) = (⟨L1, copies (h + 1) l, A2, false⟩, true) := by
        rw [wmany_all _ _ rfl (by show 0 ≤ A1; omega) (by show A1 = 0 ∨ _ < A1; omega)]
        show (TDisk.mk L1 ([] ++ copies (h + 1) l) (if A1 = 0 then 0 else _) false, true) = _
        rw [hA2', List.nil_append]
      have f2 : flushed ⟨L1, copies (h + 1) l, A2, false⟩ = ⟨L2, [], A2, false⟩ := by rw [← hL2]; rfl
      rw [m]
      simp only [cond_true]
      rw [f2]
      by_cases a3 : A2 = 1
      · have w2 : wput ⟨L2, [], A2, false⟩ ⟨(h : Int), headB l⟩ = ⟨L2, [⟨(h : Int), headB l⟩], 0, true⟩ := by rw [a3]; rfl
        rw [w2]
        right
        refine ⟨rfl, ?_⟩
        show Settles h (tear L2 ⟨(h : Int), headB l⟩ (clampK keep.head?)) T ∨ Settles h (tear L2 ⟨(h : Int), headB l⟩ (clampK keep.head?)) (newT L l)
        have hk := clampK_le keep.head?
        generalize clampK keep.head? = k at hk
        have hh : (tear L2 ⟨(h : Int), headB l⟩ k).getD h [] = (headB l).take k ++ zeros.drop k := by
          show (L2.set (h : Int).toNat ((headB l).take k ++ (L2.getD (h : Int).toNat []).drop k)).getD h [] = _
          rw [Int.toNat_natCast, getD_set_eq _ _ _ _ (by omega), z2]
        by_cases k32 : k = 32
        · right
          refine key _ (by rw [tear_len, l2]) ?_ (fun j p hj => by rw [tear_other _ _ _ _ (by show (h : Int).toNat ≠ _; omega), c2 j p hj]) (fun i hi _ => by rw [tear_other _ _ _ _ (by show (h : Int).toNat ≠ _; omega), g2 i hi])
          rw [hh, k32, List.take_of_length_le (by rw [headB_len l h16]; exact Nat.le_refl _), show zeros.drop 32 = [] from rfl, List.append_nil]
        · left
          exact .inl ⟨by rw [hh]; exact noHead_part k (by omega) _ (headB_len l h16), fun i hi => by rw [tear_other _ _ _ _ (by show (h : Int).toNat ≠ i; omega), g2 i hi]⟩
      · obtain ⟨A3, hA3'⟩ : ∃ A3, (if A2 = 0 then 0 else A2 - 1) = A3 := ⟨_, rfl⟩
        have w2 : wput ⟨L2, [], A2, false⟩ ⟨(h : Int), headB l⟩ = ⟨L2, [⟨(h : Int), headB l⟩], A3, false⟩ := by
          unfold wput
          by_cases a0 : A2 > 0
          · rw [if_pos a0]
            rw [if_neg (by omega)] at hA3'
            show TDisk.mk L2 _ (A2 - 1) (A2 - 1 == 0) = _
            rw [hA3']
            congr 1
            exact beq_ne (by omega)
          · rw [if_neg a0]
            show TDisk.mk L2 _ A2 false = _
            rw [show A2 = A3 by
              split at hA3'
              · omega
              · split at hA2' <;> omega]
            rfl
        have f3 : flushed ⟨L2, [⟨(h : Int), headB l⟩], A3, false⟩ = ⟨L3, [], A3, false⟩ := by rw [← hL3]; rfl
        rw [w2, f3]
        simp only [cond_false]
        by_cases a4 : 1 ≤ A3 ∧ A3 ≤ (l.length : Int)
        · rw [wmany_cut _ _ rfl a4.1 a4.2]
          right
          refine ⟨rfl, .inr ?_⟩
          show Settles h (crashL L3 ([] ++ l.take A3.toNat) keep) (newT L l)
          rw [List.nil_append]
          refine key _ (by rw [crash_len, l3]) ?_ (fun j p hj => ?_) (fun i hi hn => ?_)
          · rw [crash_other _ _ _ _ (fun p hp => by have := (hv.each p (List.mem_of_mem_take hp)).2.1; have := (hv.each p (List.mem_of_mem_take hp)).1; omega), z3]
          · rw [crash_other _ _ _ _ (fun q hq => by have := (hv.each q (List.mem_of_mem_take hq)).2.1; have := (hv.each q (List.mem_of_mem_take hq)).1; omega), c3 j p hj]
          · rw [crash_other _ _ _ _ (fun q hq => hn q (List.mem_of_mem_take hq)), g3 i hi]
        · left
          have hA2nn : 0 ≤ A2 := by
            rw [copies_len] at a2 hA2'
            split at hA2' <;> omega
          have hA3nn : 0 ≤ A3 := by split at hA3' <;> omega
          rw [wmany_all _ _ rfl (by show 0 ≤ A3; exact hA3nn) (by show A3 = 0 ∨ _ < A3; omega)]
          refine ⟨rfl, ?_, rfl, rfl⟩
          show wr L3 ([] ++ l) = after L h l
          rw [List.nil_append]
          unfold after
          rw [hL1, hL2, hL3]
theorem ext_getD {A B : List (List UInt8)} (hl : A.length = B.length) (h : ∀ i, A.getD i [] = B.getD i []) : A = B := by
  apply List.ext_getElem hl
  intro i h1 h2
  have := h i
  rw [List.getD_eq_getElem?_getD, List.getD_eq_getElem?_getD, List.getElem?_eq_getElem h1, List.getElem?_eq_getElem h2] at this
  exact this
theorem mends_at (L : List (List UInt8)) : ∀ (n : Nat) (q : List TPut) (x : TPut), x ∈ mends L n q → ∃ p ∈ q, x.At = p.At
  | _, [], _, h => by cases h
  | n, p :: r, x, h => by
    rw [mends] at h
    rcases List.mem_cons.1 h with rfl | h
    · exact ⟨p, List.mem_cons_self .., rfl⟩
    · obtain ⟨p', h1, h2⟩ := mends_at L (n + 1) r x h
      exact ⟨p', List.mem_cons_of_mem _ h1, h2⟩
theorem mends_sorted (L : List (List UInt8)) : ∀ (n : Nat) (q : List TPut), q.Pairwise (fun a b => a.At < b.At) → (mends L n q).Pairwise (fun a b => a.At < b.At)
  | _, [], _ => .nil
  | n, p :: r, h => by
    rw [mends]
    refine .cons (fun x hx => ?_) (mends_sorted L (n + 1) r (List.Pairwise.of_cons h))
    obtain ⟨p', h1, h2⟩ := mends_at L (n + 1) r x hx
    rw [h2]
    exact List.rel_of_pairwise_cons h h1
theorem mends_congr {X Y : List (List UInt8)} : ∀ (n : Nat) (q : List TPut), (∀ i, n ≤ i → Y.getD i [] = X.getD i []) → mends Y n q = mends X n q
  | _, [], _ => rfl
  | n, p :: r, h => by
    rw [mends, mends, h n (Nat.le_refl _), mends_congr (n + 1) r fun i hi => h i (by omega)]
theorem remend {h : Nat} {X : List (List UInt8)} {q : List TPut} (hv : Valid h q) (hn : h + q.length < X.length) :
    mends (wr X (mends X (h + 1) q)) (h + 1) q = mends X (h + 1) q ∧ wr (wr X (mends X (h + 1) q)) (mends X (h + 1) q) = wr X (mends X (h + 1) q) := by
  have hat : ∀ p ∈ mends X (h + 1) q, 0 ≤ p.At ∧ p.At < h := by
    intro p hp
    obtain ⟨p', h1, h2⟩ := mends_at _ _ _ _ hp
    rw [h2]
    exact ⟨(hv.each p' h1).1, (hv.each p' h1).2.1⟩
  refine ⟨mends_congr _ _ fun i hi => wr_other _ _ _ fun p hp => by have := hat p hp; omega, ?_⟩
  apply ext_getD (by rw [wr_len])
  intro i
  exact wr_over _ (mends_sorted X (h + 1) q hv.sorted) (fun p hp => (hat p hp).1) _ _ (wr_len _ _) (fun p hp => by rw [wr_len]; have := hat p hp; omega) i (fun hno => wr_other _ _ _ hno)
theorem Settles.congr {h : Nat} {L : List (List UInt8)} {T T' : Nat → List UInt8} (hs : Settles h L T) (he : ∀ i, i < h → T i = T' i) : Settles h L T' := by
  rcases hs with ⟨a, b⟩ | ⟨q, a, b, c, d, e⟩
  · exact .inl ⟨a, fun i hi => (b i hi).trans (he i hi)⟩
  · exact .inr ⟨q, a, b, c, d, fun i hi => (e i hi).trans (he i hi)⟩
theorem Clean.congr {h : Nat} {L : List (List UInt8)} {T T' : Nat → List UInt8} (hs : Clean h L T) (he : ∀ i, i < h → T i = T' i) : Clean h L T' := ⟨fun i hi => (hs.at_ i hi).trans (he i hi), hs.set_.congr he⟩
theorem clean_after {h : Nat} {L : List (List UInt8)} {l : List TPut} (hl : l ≠ []) (hv : Valid h l) (hn : h + l.length < L.length) : Clean h (after L h l) (newT L l) := by
  have hat : ∀ i, i < h → (after L h l).getD i [] = newT L l i := fun i hi => after_home L h l i hi
  have hbig : ∀ i, h ≤ i → (after L h l).getD i [] = (wr (wr (wr L [⟨(h : Int), zeros⟩]) (copies (h + 1) l)) [⟨(h : Int), headB l⟩]).getD i [] := fun i hi => by
    unfold after
    rw [wr_other l _ i (fun p hp => by have := (hv.each p hp).2.1; have := (hv.each p hp).1; omega)]
  have hh : (after L h l).getD h [] = headB l := by
    rw [hbig h (Nat.le_refl _)]
    show (List.set _ (h : Int).toNat (headB l)).getD h [] = _
    rw [Int.toNat_natCast, getD_set_eq _ _ _ _ (by rw [wr_len, wr_len]; omega)]
  have hc : ∀ (j : Nat) p, l[j]? = some p → (after L h l).getD (h + 1 + j) [] = p.B := fun j p hj => by
    rw [hbig _ (by omega), wr_other _ _ _ (fun x hx => by rw [List.mem_singleton.1 hx]; show (h : Int).toNat ≠ _; omega)]
    exact wr_copies l (h + 1) _ (by rw [wr_len]; omega) j p hj
  refine ⟨hat, .inr ⟨l, hl, hv, by rw [after_len]; exact hn, hh, fun i hi => ?_⟩⟩
  rw [mends_same _ l (h + 1) hc]
  unfold newT
  exact wr_over l hv.sorted (fun p hp => (hv.each p hp).1) _ L (after_len L h l) (fun p hp => by rw [after_len]; have := (hv.each p hp).2.1; have := (hv.each p hp).1; omega) i (fun hno => by rw [hat i hi]; unfold newT; exact wr_other _ _ _ hno)
theorem rounds_ok (d : TDisk) (hd : DOk d) (hW : d.Wait = []) (home : Nat) (l : List TPut) (hv : Valid home l) (hn : home + l.length < d.Last.length) : DOk (rounds d home l).1 ∧ (rounds d home l).1.Last.length = d.Last.length := by
  unfold rounds
  have h16 := hv.len
  have hz : okP d.Last.length ⟨(home : Int), zeros⟩ := ⟨by show (0 : Int) ≤ home; omega, by show (home : Int) < _; omega, rfl⟩
  have d1 := wput_ok hd (by rw [hW]; simp) hz
  have L1 := wput_last d ⟨(home : Int), zeros⟩
  generalize wput d ⟨(home : Int), zeros⟩ = a at d1 L1
  cases a.Down with
  | true => exact ⟨d1, by rw [cond_true, L1]⟩
  | false =>
    simp only [cond_false]
    have d2 := flushed_ok d1
    have N2 : (flushed a).Last.length = d.Last.length := by rw [flushed_len, L1]
    have W2 : (flushed a).Wait = [] := rfl
    generalize flushed a = b at d2 N2 W2
    have hcp : ∀ p ∈ copies (home + 1) l, okP b.Last.length p := by
      intro p hp
      obtain ⟨q, hq, h1, h2, h3⟩ := copies_at _ _ _ hp
      exact ⟨by omega, by rw [N2]; omega, by rw [h3]; exact (hv.each q hq).2.2⟩
    have d3 := wmany_ok (copies (home + 1) l) b d2 (by rw [W2, copies_len]; simp; omega) hcp
    have L3 := wmany_last (copies (home + 1) l) b
    cases (wmany b (copies (home + 1) l)).2 with
    | false => exact ⟨d3, by rw [cond_false, L3, N2]⟩
    | true =>
      simp only [cond_true]
      generalize (wmany b (copies (home + 1) l)).1 = c at d3 L3
      have d4 := flushed_ok d3
      have N4 : (flushed c).Last.length = d.Last.length := by rw [flushed_len, L3, N2]
      have W4 : (flushed c).Wait = [] := rfl
      generalize flushed c = q at d4 N4 W4
      have hq : okP q.Last.length ⟨(home : Int), headB l⟩ := ⟨by show (0 : Int) ≤ home; omega, by show (home : Int) < _; omega, headB_len l h16⟩
      have d5 := wput_ok d4 (by rw [W4]; simp) hq
      have L5 := wput_last q ⟨(home : Int), headB l⟩
      generalize wput q ⟨(home : Int), headB l⟩ = u at d5 L5
      cases u.Down with
      | true => exact ⟨d5, by rw [cond_true, L5, N4]⟩
      | false =>
        simp only [cond_false]
        have d6 := flushed_ok d5
        have N6 : (flushed u).Last.length = d.Last.length := by rw [flushed_len, L5, N4]
        have W6 : (flushed u).Wait = [] := rfl
        generalize flushed u = v at d6 N6 W6
        have hlv : ∀ p ∈ l, okP v.Last.length p := by
          intro p hp
          obtain ⟨h1, h2, h3⟩ := hv.each p hp
          exact ⟨h1, by rw [N6]; omega, h3⟩
        have d7 := wmany_ok l v d6 (by rw [W6]; simp; omega) hlv
        have L7 := wmany_last l v
        cases (wmany v l).2 with
        | true => exact ⟨flushed_ok d7, by rw [cond_true, flushed_len, L7, N6]⟩
        | false => exact ⟨d7, by rw [cond_false, L7, N6]⟩
end Go.Proofs.YtddhfdbfackahaaDoor.N

set_option linter.unusedVariables false
set_option linter.unusedSimpArgs false
set_option maxRecDepth 100000
namespace Go.Proofs.YtddhfdbfackahaaDoor.N
open Go
theorem jbegun : law6_begun fuel = some true := by rw [fuel_eq]; kernel_rfl
theorem dok {L : List (List UInt8)} {A : Int} {b : Bool} (hL : ∀ x ∈ L, x.length = 32) (hN : L.length = 17) (hA0 : 0 ≤ A) (hA1 : A ≤ 900) : DOk ⟨L, [], A, b⟩ :=
  ⟨hL, by show L.length ≤ 1000; omega, (fun q hq => nomatch hq), by show (0 : Nat) ≤ 1000; omega, hA0, by show A ≤ 1000; omega⟩
theorem Commit_arm {L : List (List UInt8)} {A : Int} {T : Nat → List UInt8} (hL : ∀ x ∈ L, x.length = 32) (hN : L.length = 17) (hA0 : 0 ≤ A) (hA1 : A ≤ 900) (hc : Clean 8 L T) (l : List TPut) (hv : Valid 8 l) (h8 : l.length ≤ 8) :
    ∃ d' b, jrnl_Commit fuel ⟨L, [], A, false⟩ 8 l = some (d', b) ∧ DOk d' ∧ d'.Last.length = 17 ∧
      (b = true → d'.Wait = [] ∧ d'.Down = false ∧ Clean 8 d'.Last (newT L l)) ∧
      (b = false → ∀ keep, Settles 8 (crashL d'.Last d'.Wait keep) T ∨ Settles 8 (crashL d'.Last d'.Wait keep) (newT L l)) ∧
      (A = 0 → b = true ∧ d'.Arm = 0) := by
  have d0 : DOk ⟨L, [], A, false⟩ := dok hL hN hA0 hA1
  by_cases hl : l = []
  · subst hl
    exact ⟨⟨L, [], A, false⟩, true, rfl, d0, hN, fun _ => ⟨rfl, rfl, hc.congr fun i hi => (hc.at_ i hi).symm⟩, fun h => (by cases h), fun h => ⟨rfl, h⟩⟩
  · have hcm := Commit_ok ⟨L, [], A, false⟩ d0 rfl (by show (0 : Nat) < 1000; omega) 8 l hl hv (by show 8 + _ < L.length; omega) (by omega)
    rw [show ((8 : Nat) : Int) = 8 from rfl] at hcm
    obtain ⟨k1, k2⟩ := rounds_ok ⟨L, [], A, false⟩ d0 rfl 8 l hv (by show 8 + _ < L.length; omega)
    have hcut := settles_cut hL (by omega) hc l hl hv (by omega) A hA0 hA1
    have hall : A = 0 → (rounds ⟨L, [], A, false⟩ 8 l).2 = true ∧ (rounds ⟨L, [], A, false⟩ 8 l).1.Arm = 0 := by
      rintro rfl
      rw [rounds_all]
      exact ⟨rfl, rfl⟩
    generalize hR : rounds ⟨L, [], A, false⟩ 8 l = R at k1 k2 hcut hall
    rw [hR] at hcm
    obtain ⟨d', b⟩ := R
    simp only at k1 k2 hcut hall
    refine ⟨d', b, hcm, k1, by rw [k2]; exact hN, fun hb => ?_, fun hb keep => ?_, hall⟩
    · rcases hcut [] with ⟨_, c2, c3, c4⟩ | ⟨c1, _⟩
      · refine ⟨c3, c4, ?_⟩
        rw [c2]
        exact clean_after hl hv (by omega)
      · rw [hb] at c1; cases c1
    · rcases hcut keep with ⟨c1, _⟩ | ⟨_, c2⟩
      · rw [hb] at c1; cases c1
      · exact c2
theorem settles_over {L X : List (List UInt8)} {T : Nat → List UInt8} (hN : L.length = 17) (hX : X.length = 17) {q : List TPut} (hq : q ≠ []) (hv : Valid 8 q) (hl : 8 + q.length < L.length) (hh : L.getD 8 [] = headB q) (ha : ∀ i, i < 8 → (wr L (mends L 9 q)).getD i [] = T i)
    (hbig : ∀ i, 8 ≤ i → X.getD i [] = L.getD i []) (hsm : ∀ i, i < 8 → (∀ p ∈ mends L 9 q, p.At.toNat ≠ i) → X.getD i [] = L.getD i []) : Settles 8 X T := by
  refine .inr ⟨q, hq, hv, by omega, by rw [hbig 8 (by omega), hh], fun i hi => ?_⟩
  rw [show 8 + 1 = 9 from rfl, mends_congr 9 q (fun i hi => hbig i (by omega)), ← ha i hi]
  have hat : ∀ p ∈ mends L 9 q, 0 ≤ p.At ∧ p.At < 8 := by
    intro p hp
    obtain ⟨p', h1, h2⟩ := mends_at _ _ _ _ hp
    rw [h2]
    exact ⟨(hv.each p' h1).1, (hv.each p' h1).2.1⟩
  exact wr_over _ (mends_sorted L 9 q hv.sorted) (fun p hp => (hat p hp).1) X L (by omega) (fun p hp => by have := hat p hp; omega) i (fun hn => hsm i hi hn)
theorem Mend_arm {L : List (List UInt8)} {A : Int} {T : Nat → List UInt8} (hL : ∀ x ∈ L, x.length = 32) (hN : L.length = 17) (hA0 : 0 ≤ A) (hA1 : A ≤ 900) (hs : Settles 8 L T) :
    ∃ d' b, jrnl_Mend fuel ⟨L, [], A, false⟩ 8 = some (d', b) ∧ DOk d' ∧ d'.Last.length = 17 ∧ (∀ keep, Settles 8 (crashL d'.Last d'.Wait keep) T) ∧
      (A = 0 → d'.Wait = [] ∧ d'.Down = false ∧ d'.Arm = 0 ∧ Clean 8 d'.Last T ∧ jrnl_Mend fuel d' 8 = some (d', b)) := by
  have d0 : DOk ⟨L, [], A, false⟩ := dok hL hN hA0 hA1
  rcases hs with ⟨hn, ha⟩ | ⟨q, hq, hv, hl, hh, ha⟩
  · have hm := Mend_no ⟨L, [], A, false⟩ d0 rfl rfl 8 (by show 8 < L.length; omega) hn
    rw [show ((8 : Nat) : Int) = 8 from rfl] at hm
    exact ⟨_, false, hm, d0, hN, fun keep => .inl ⟨hn, ha⟩, fun h => ⟨rfl, rfl, h, Clean.mk_no hn ha, hm⟩⟩
  · have hmy : ∀ (M : List (List UInt8)) (B : Int), DOk ⟨M, [], B, false⟩ → M.length = 17 → M.getD 8 [] = headB q → jrnl_Mend fuel ⟨M, [], B, false⟩ 8 = some (bif (wmany ⟨M, [], B, false⟩ (mends M 9 q)).2 then (flushed (wmany ⟨M, [], B, false⟩ (mends M 9 q)).1, true) else ((wmany ⟨M, [], B, false⟩ (mends M 9 q)).1, false)) := by
      intro M B he hl2 hh
      have hm := Mend_yes ⟨M, [], B, false⟩ he rfl rfl 8 (by omega) q hq hv (by show 8 + q.length < M.length; omega) hh
      rw [show ((8 : Nat) : Int) = 8 from rfl] at hm
      exact hm
    have hat : ∀ p ∈ mends L 9 q, 0 ≤ p.At ∧ p.At < 8 := by
      intro p hp
      obtain ⟨p', h1, h2⟩ := mends_at _ _ _ _ hp
      rw [h2]
      exact ⟨(hv.each p' h1).1, (hv.each p' h1).2.1⟩
    have hmok := mends_ok L 8 hL 9 q hv.each (by omega) (by omega)
    have hm := hmy L A d0 hN hh
    have hwok := wmany_ok (mends L 9 q) _ d0 (by rw [mends_len]; have := hv.len; show 0 + _ ≤ _; omega) hmok
    have hlenm : (mends L 9 q).length = q.length := mends_len L 9 q
    by_cases hcut : 1 ≤ A ∧ A ≤ ((mends L 9 q).length : Int)
    · rw [wmany_cut (mends L 9 q) ⟨L, [], A, false⟩ rfl hcut.1 hcut.2] at hm hwok
      refine ⟨_, false, hm, hwok, hN, fun keep => ?_, fun h => by omega⟩
      refine settles_over hN (by rw [crash_len]; exact hN) hq hv hl hh ha (fun i hi => ?_) (fun i hi hno => ?_)
      · exact crash_other _ _ _ _ (fun p hp => by
          have hp' : p ∈ (mends L 9 q).take A.toNat := by simpa using hp
          have := hat p (List.mem_of_mem_take hp'); omega)
      · exact crash_other _ _ _ _ (fun p hp => by
          have hp' : p ∈ (mends L 9 q).take A.toNat := by simpa using hp
          exact hno p (List.mem_of_mem_take hp'))
    · have hw := wmany_all (mends L 9 q) ⟨L, [], A, false⟩ rfl hA0 (by show A = 0 ∨ _ < A; omega)
      rw [hw] at hm hwok
      obtain ⟨A2, hA2⟩ : ∃ A2, (if A = 0 then 0 else A - ((mends L 9 q).length : Int)) = A2 := ⟨_, rfl⟩
      simp only [hA2, List.nil_append] at hm hwok
      obtain ⟨Y, hY⟩ : ∃ Y, wr L (mends L 9 q) = Y := ⟨_, rfl⟩
      have hf : flushed ⟨L, mends L 9 q, A2, false⟩ = ⟨Y, [], A2, false⟩ := by rw [← hY]; rfl
      simp only [cond_true, hf] at hm
      have ly : Y.length = 17 := by rw [← hY, wr_len, hN]
      have eY : ∀ x ∈ Y, x.length = 32 := by rw [← hY]; exact wr_each _ _ hL (fun p hp => (hmok p hp).2.2)
      have hA2n : 0 ≤ A2 ∧ A2 ≤ 900 := by split at hA2 <;> omega
      have hYb : ∀ i, 8 ≤ i → Y.getD i [] = L.getD i [] := fun i hi => by rw [← hY]; exact wr_other _ _ _ (fun p hp => by have := hat p hp; omega)
      have hset : Settles 8 Y T := settles_over hN ly hq hv hl hh ha hYb (fun i hi hno => by rw [← hY]; exact wr_other _ _ _ hno)
      have hya : ∀ i, i < 8 → Y.getD i [] = T i := fun i hi => by rw [← hY]; exact ha i hi
      refine ⟨⟨Y, [], A2, false⟩, true, hm, dok eY ly hA2n.1 hA2n.2, ly, fun keep => hset, fun h => ?_⟩
      have hA20 : A2 = 0 := by rw [← hA2, if_pos h]
      subst hA20
      refine ⟨rfl, rfl, rfl, ⟨hya, hset⟩, ?_⟩
      obtain ⟨r1, r2⟩ := remend hv hl
      have r1' : mends Y 9 q = mends L 9 q := by rw [← hY]; exact r1
      have r2' : wr Y (mends L 9 q) = Y := by rw [← hY]; exact r2
      have hm2 := hmy Y 0 (dok eY ly (by omega) (by omega)) ly (by rw [hYb 8 (by omega), hh])
      rw [hm2, r1', wmany_all (mends L 9 q) ⟨Y, [], 0, false⟩ rfl (Int.le_refl _) (.inl rfl)]
      show some (TDisk.mk (wr Y (mends L 9 q)) [] 0 false, true) = _
      rw [r2']
theorem wr_below (h : Nat) : ∀ (l : List TPut) (A B : List (List UInt8)), h ≤ A.length → h ≤ B.length → (∀ p ∈ l, 0 ≤ p.At ∧ p.At < h) → (∀ i, i < h → A.getD i [] = B.getD i []) → ∀ i, i < h → (wr A l).getD i [] = (wr B l).getD i []
  | [], A, B, _, _, _, he, i, hi => he i hi
  | p :: r, A, B, hA, hB, hp, he, i, hi => by
    have hp0 := hp p (List.mem_cons_self ..)
    refine wr_below h r (A.set p.At.toNat p.B) (B.set p.At.toNat p.B) (by rw [List.length_set]; exact hA) (by rw [List.length_set]; exact hB) (fun q hq => hp q (List.mem_cons_of_mem _ hq)) (fun j hj => ?_) i hi
    by_cases hpj : p.At.toNat = j
    · rw [hpj, getD_set_eq _ _ _ _ (by omega), getD_set_eq _ _ _ _ (by omega)]
    · rw [getD_set_ne _ _ _ _ _ hpj, getD_set_ne _ _ _ _ _ hpj, he j hj]
theorem puts8 (l : List UInt8) (h : l.length = 8) : Valid 8 (putsFrom 0 l) ∧ (putsFrom 0 l).length ≤ 8 ∧ ∀ p ∈ putsFrom 0 l, 0 ≤ p.At ∧ p.At < ((8 : Nat) : Int) :=
  ⟨puts_valid l h, by have := puts_len l 0; omega, fun p hp => by obtain ⟨a, b, _⟩ := puts_at l 0 p hp; exact ⟨by omega, by omega⟩⟩
theorem cut8 (l : List UInt8) (h : l.length = 8) : cutL l 0 8 = l := by
  have := cut_front l 8
  rw [show ((8 : Nat) : Int) = 8 from rfl, List.take_of_length_le (by omega)] at this
  exact this
theorem new17 : ref5_New fuel 17 = some ⟨List.replicate 17 zeros, [], 0, false⟩ := New_ok 17 (by omega)
theorem rep17 : (List.replicate 17 zeros).length = 17 ∧ (∀ x ∈ List.replicate 17 zeros, x.length = 32) ∧ Clean 8 (List.replicate 17 zeros) (fun _ => zeros) := by
  have hz : ∀ i, i < 17 → (List.replicate 17 zeros).getD i [] = zeros := fun i hi => by
    rw [List.getD_eq_getElem?_getD, List.getElem?_replicate, if_pos hi]; rfl
  exact ⟨List.length_replicate, fun x hx => by rw [List.eq_of_mem_replicate hx]; rfl, Clean.mk_no (by rw [hz 8 (by omega)]; exact noHead_zero) (fun i hi => hz i (by omega))⟩
end Go.Proofs.YtddhfdbfackahaaDoor.N

set_option linter.unusedVariables false
set_option linter.unusedSimpArgs false
namespace Go.Proofs.YtddhfdbfackahaaDoor.N
open Go
theorem many_want (l : List (List UInt8)) (d : TDisk) : law6_JrnlMany_l0 fuel l d 0 [[], [], [], [], [], [], [], []] = some (List.replicate 8 zeros) := by
  unfold law6_JrnlMany_l0
  obtain ⟨x, e, hx⟩ := iter_inv (step := law6_JrnlMany_s0 l d) (fun k v => ∃ i : Nat, v.1 = (i : Int) ∧ i + k = 8 ∧ v.2 = List.replicate i zeros ++ List.replicate (8 - i) []) (fun r => r = List.replicate 8 zeros) (fun k v hI => by
    obtain ⟨v1, v2⟩ := v
    obtain ⟨i, h1, hk, h2⟩ := hI
    simp only at h1 h2
    subst h1 h2
    simp only [law6_JrnlMany_s0, law6_JrnlMany_s0k]
    by_cases hlt : i < 8
    · have hl : i < (List.replicate i zeros ++ List.replicate (8 - i) ([] : List UInt8)).length := by
        rw [List.length_append, List.length_replicate, List.length_replicate]; omega
      rw [decide_eq_true (show (i : Int) < 8 by omega), show (8 : Nat) = 8 from rfl, inR_of (show (0 : Int) ≤ i by omega) (show (i : Int) < ((8 : Nat) : Int) by omega), Int.toNat_natCast, List.getElem?_eq_getElem hl]
      simp only [cond_true, some_bind]
      rw [wi64_succ (by omega)]
      refine ⟨_, rfl, k - 1, by omega, i + 1, rfl, by omega, ?_⟩
      show List.set _ i zeros = _
      rw [List.set_append_right _ _ (by rw [List.length_replicate]; exact Nat.le_refl _), List.length_replicate, Nat.sub_self, show 8 - i = (8 - (i + 1)) + 1 by omega, List.replicate_succ, List.set_cons_zero, List.replicate_succ', List.append_assoc]
      rfl
    · obtain rfl : i = 8 := by omega
      exact ⟨_, rfl, by show _ = List.replicate 8 zeros; simp⟩) 8 (0, [[], [], [], [], [], [], [], []]) fuel ⟨0, rfl, rfl, rfl⟩ (fuel_gt (by omega))
  rw [e, hx]
theorem many_set (l : List (List UInt8)) (i : Int) (p : List TPut) (o : List (List UInt8)) (d x : TDisk) (want : List (List UInt8)) (hw : want.length = 8) (hp : ∀ q ∈ p, 0 ≤ q.At ∧ q.At < ((8 : Nat) : Int)) (h8 : p.length ≤ 8) :
    law6_JrnlMany_l1 fuel l i p o d x 0 want = some (wr want p) := by
  unfold law6_JrnlMany_l1
  obtain ⟨z, e, hz⟩ := iter_inv (step := law6_JrnlMany_s1 l i p o d x) (fun k v => ∃ j : Nat, v.1 = (j : Int) ∧ j + k = p.length ∧ v.2 = wr want (p.take j)) (fun r => r = wr want p) (fun k v hI => by
    obtain ⟨v1, v2⟩ := v
    obtain ⟨j, h1, hk, h2⟩ := hI
    simp only at h1 h2
    subst h1 h2
    simp only [law6_JrnlMany_s1, law6_JrnlMany_s1k]
    by_cases hlt : j < p.length
    · have hq := hp _ (List.getElem_mem hlt)
      have hl : p[j].At.toNat < (wr want (p.take j)).length := by rw [wr_len, hw]; omega
      rw [lt_dec hlt, inR_nat hlt, Int.toNat_natCast, List.getElem?_eq_getElem hlt]
      simp only [cond_true, some_bind]
      rw [inR_of hq.1 hq.2, List.getElem?_eq_getElem hl]
      simp only [cond_true, some_bind]
      rw [wi64_succ (by omega)]
      refine ⟨_, rfl, k - 1, by omega, j + 1, rfl, by omega, ?_⟩
      rw [List.take_add_one, List.getElem?_eq_getElem hlt, wr_app]
      rfl
    · obtain rfl : j = p.length := by omega
      rw [ge_dec]
      exact ⟨_, rfl, by show wr want (p.take p.length) = _; rw [List.take_length]⟩) p.length (0, want) fuel ⟨0, rfl, by omega, rfl⟩ (fuel_gt (by omega))
  rw [e, hz]
theorem many_read (l : List (List UInt8)) (i : Int) (o : List (List UInt8)) (d : TDisk) (want : List (List UInt8)) (x y : TDisk) (hw : want.length = 8) (x1 : x.Down = false) (x2 : x.Wait = []) (x3 : x.Last.length = 17) (y1 : y.Down = false) (y2 : y.Wait = []) (y3 : y.Last.length = 17)
    (hx : ∀ i, i < 8 → x.Last.getD i [] = want.getD i []) (hy : ∀ i, i < 8 → y.Last.getD i [] = want.getD i []) : law6_JrnlMany_l2 fuel l i o d want x y 0 = some (.inr ()) := by
  unfold law6_JrnlMany_l2
  obtain ⟨z, e, hz⟩ := iter_inv (step := law6_JrnlMany_s2 fuel l i o d want x y) (fun k v => ∃ j : Nat, v = (j : Int) ∧ j + k = 8) (fun r => r = .inr ()) (fun k v hI => by
    obtain ⟨j, h1, hk⟩ := hI
    subst h1
    simp only [law6_JrnlMany_s2, law6_JrnlMany_s2k]
    by_cases hlt : j < 8
    · have hl : j < want.length := by omega
      have hg : want[j]? = some (want.getD j []) := by rw [List.getD_eq_getElem?_getD, List.getElem?_eq_getElem hl]; rfl
      rw [decide_eq_true (show (j : Int) < 8 by omega), rRead_ok x x1 x2 j (by omega), rRead_ok y y1 y2 j (by omega)]
      simp only [cond_true, some_bind, Bool.not_true, cond_false]
      rw [inR_of (show (0 : Int) ≤ j by omega) (show (j : Int) < ((8 : Nat) : Int) by omega), Int.toNat_natCast, hg]
      simp only [cond_true, some_bind]
      rw [hx j hlt, hy j hlt, beq_self_eq_true]
      simp only [Bool.not_true, cond_false]
      rw [wi64_succ (by omega)]
      exact ⟨_, rfl, k - 1, by omega, j + 1, rfl, by omega⟩
    · obtain rfl : j = 8 := by omega
      exact ⟨_, rfl, rfl⟩) 8 0 fuel ⟨0, rfl, rfl⟩ (fuel_gt (by omega))
  rw [e, hz]
theorem law6_JrnlMany_ok (l : List (List UInt8)) (hl : l.length = 5 ∧ ∀ x ∈ l, x.length = 8) : law6_JrnlMany fuel l = some true := by
  obtain ⟨hl, hx⟩ := hl
  unfold law6_JrnlMany law6_JrnlMany_k
  rw [jbegun, some_bind]
  simp only [Bool.not_true, cond_false]
  obtain ⟨n0, e0, c0⟩ := rep17
  rw [new17, some_bind, many_want, some_bind]
  unfold law6_JrnlMany_l3
  obtain ⟨z, e, hz⟩ := iter_inv (step := law6_JrnlMany_s3 fuel l l) (fun k v => ∃ i : Nat, v.1 = (i : Int) ∧ i + k = 5 ∧ v.2.2.length = 8 ∧ ∃ L, v.2.1 = ⟨L, [], 0, false⟩ ∧ L.length = 17 ∧ (∀ x ∈ L, x.length = 32) ∧ Clean 8 L (fun i => v.2.2.getD i [])) (fun r => ∃ d w, r = .inr (.inr (d, w)) ∧ d.Wait = []) (fun k v hI => by
    obtain ⟨v1, v2, want⟩ := v
    obtain ⟨i, h1, hk, h8, L, h2, hN, hL, hc⟩ := hI
    simp only at h1 h2 h8 hc
    subst h1 h2
    simp only [law6_JrnlMany_s3, law6_JrnlMany_s3k]
    by_cases hlt : i < 5
    · have hil : i < l.length := by omega
      have hy := hx _ (List.getElem_mem hil)
      rw [decide_eq_true (show (i : Int) < 5 by omega), inR_of (show (0 : Int) ≤ i by omega) (show (i : Int) < ((5 : Nat) : Int) by omega), Int.toNat_natCast, List.getElem?_eq_getElem hil]
      simp only [cond_true, some_bind]
      rw [cutOk_of (by omega) (by omega) (by omega), cut8 _ hy, puts_ok _ hy]
      simp only [cond_true, some_bind]
      obtain ⟨v1, s1, p1⟩ := puts8 _ hy
      generalize putsFrom 0 l[i] = p at v1 s1 p1
      obtain ⟨d1, b1, q1, k1, n1, y1, _, z1⟩ := Commit_arm (A := 0) hL hN (Int.le_refl _) (by omega) hc p v1 s1
      obtain ⟨hb1, a1⟩ := z1 rfl
      subst hb1
      obtain ⟨w1, u1, c1⟩ := y1 rfl
      rw [q1]
      simp only [some_bind, Bool.not_true, cond_false]
      rw [many_set _ _ _ _ _ _ _ h8 p1 s1, some_bind]
      obtain ⟨L1, W1, A1, D1⟩ := d1
      simp only at w1 u1 a1 n1
      subst w1 u1 a1
      have hwl : (wr want p).length = 8 := by rw [wr_len, h8]
      have hcw : ∀ j, j < 8 → newT L p j = (wr want p).getD j [] := fun j hj => wr_below 8 p L want (by omega) (by omega) p1 hc.at_ j hj
      have c1' := c1.congr hcw
      obtain ⟨d2, b2, q2, k2, n2, _, z2⟩ := Mend_arm (A := 0) k1.last n1 (Int.le_refl _) (by omega) c1'.set_
      obtain ⟨w2, u2, a2, c2, _⟩ := z2 rfl
      rw [q2, some_bind, many_read _ _ _ _ _ _ _ hwl rfl rfl n1 u2 w2 n2 c1'.at_ c2.at_]
      simp only [some_bind, alt_inr]
      rw [wi64_succ (by omega)]
      exact ⟨_, rfl, k - 1, by omega, i + 1, rfl, by omega, hwl, L1, rfl, n1, k1.last, c1'⟩
    · obtain rfl : i = 5 := by omega
      exact ⟨_, rfl, _, _, rfl, rfl⟩) 5 (0, ⟨List.replicate 17 zeros, [], 0, false⟩, List.replicate 8 zeros) fuel ⟨0, rfl, rfl, List.length_replicate, _, rfl, n0, e0, c0.congr (fun i hi => by
        show zeros = (List.replicate 8 zeros).getD i []
        rw [List.getD_eq_getElem?_getD, List.getElem?_replicate, if_pos hi]; rfl)⟩ (fuel_gt (by omega))
  obtain ⟨d, w, rfl, hW⟩ := hz
  rw [e]
  simp only [some_bind, alt_inr]
  rw [hW]
  rfl
end Go.Proofs.YtddhfdbfackahaaDoor.N

set_option linter.unusedVariables false
set_option maxRecDepth 100000
namespace Go.Proofs.YtddhfdbfackahaaDoor
open Go Go.ChangeShapes Go.WideShapes Go.ChangeAt Go.RowKit
namespace Q7
open Go.Proofs.YtddhfdbfackahaaDoor.D Go.Proofs.YtddhfdbfackahaaDoor.J
theorem law (xs : List (DVal E.T)) (h : ArgsOk E 1048576 [(.arr 5 (.arr 8 (.int .u8)))] xs) : (B7 xs []).get = some (.ret [.val .bool true], []) := by
  match xs, h with
  | [_], .cons _ _ x0 _ h0 .nil => exact (F7 x0).trans ((N.law6_JrnlMany_bind N.fuel _ x0).trans (by rw [N.law6_JrnlMany_ok x0 ⟨(h0 12).1, fun x hx => ((h0 12).2 x hx).1⟩]; rfl))
theorem contract (H : Type) (enc : TypeId × Value → H) (W : World) (base : Nat) (args : Array Value) (ds gs : List (DataW H)) (before : List MemPlace)
    (hval : ∀ (j : Nat) t v, Tryd.f7.params[j]? = some t → args[j]? = some v → Value.okWide Tryd.prog W .any base t v)
    (hW : DataW.Whole enc Tryd.prog Tryd.f7.params.toList Rows.jrnlManySpec.vars false W args.toList ds gs before) (hk : ∀ d ∈ ds, Rows.uptoBulk d ≤ 1048576) :
    Calls Tryd.prog 7 args W fun e W' => ∃ v, e = .returned v ∧ Rows.jrnlManySpec.post enc Tryd.prog Tryd.f7 false true false false W args v W' :=
  law_contract sound tl laid full meas bl (fn := Tryd.f7) (tb := 4) rfl Tryd.underlying4 (ps := [(.arr 5 (.arr 8 (.int .u8)))]) rfl
    (by
      have h : (Tryd.f7.params.toList.all fun t => Tryd.prog.readableRec t && decide (t < Tryd.prog.types.size)) = true := by kernel_rfl
      intro t ht
      have := List.all_eq_true.1 h t ht
      simpa using this) rfl
    (fun ds hd => by
      match ds, hd with
      | [x0], _ => rfl)
    B7_ok law W base args ds gs before hval hW hk
def wArgs : Array Value := #[.agg #[.int .u8 0, .int .u8 0, .int .u8 0, .int .u8 0, .int .u8 0, .int .u8 0, .int .u8 0, .int .u8 0, .int .u8 0, .int .u8 0, .int .u8 0, .int .u8 0, .int .u8 0, .int .u8 0, .int .u8 0, .int .u8 0, .int .u8 0, .int .u8 0, .int .u8 0, .int .u8 0, .int .u8 0, .int .u8 0, .int .u8 0, .int .u8 0, .int .u8 0, .int .u8 0, .int .u8 0, .int .u8 0, .int .u8 0, .int .u8 0, .int .u8 0, .int .u8 0, .int .u8 0, .int .u8 0, .int .u8 0, .int .u8 0, .int .u8 0, .int .u8 0, .int .u8 0, .int .u8 0]]
def wData {H : Type} : List (DataW H) := [.agg [.agg [.lit (.int .u8 0), .lit (.int .u8 0), .lit (.int .u8 0), .lit (.int .u8 0), .lit (.int .u8 0), .lit (.int .u8 0), .lit (.int .u8 0), .lit (.int .u8 0)], .agg [.lit (.int .u8 0), .lit (.int .u8 0), .lit (.int .u8 0), .lit (.int .u8 0), .lit (.int .u8 0), .lit (.int .u8 0), .lit (.int .u8 0), .lit (.int .u8 0)], .agg [.lit (.int .u8 0), .lit (.int .u8 0), .lit (.int .u8 0), .lit (.int .u8 0), .lit (.int .u8 0), .lit (.int .u8 0), .lit (.int .u8 0), .lit (.int .u8 0)], .agg [.lit (.int .u8 0), .lit (.int .u8 0), .lit (.int .u8 0), .lit (.int .u8 0), .lit (.int .u8 0), .lit (.int .u8 0), .lit (.int .u8 0), .lit (.int .u8 0)], .agg [.lit (.int .u8 0), .lit (.int .u8 0), .lit (.int .u8 0), .lit (.int .u8 0), .lit (.int .u8 0), .lit (.int .u8 0), .lit (.int .u8 0), .lit (.int .u8 0)]]]
noncomputable def laidWorld (os : Os) : World := layAt 0 ((Go.Pinned.utf8FirstZ.map fun (n : Nat) => Value.int .u8 (Int.ofNat n))) (layAt 1 ([.int .u8 128, .int .u8 191, .int .u8 160, .int .u8 191, .int .u8 128, .int .u8 159, .int .u8 144, .int .u8 191, .int .u8 128, .int .u8 143, .int .u8 0, .int .u8 0, .int .u8 0, .int .u8 0, .int .u8 0, .int .u8 0, .int .u8 0, .int .u8 0, .int .u8 0, .int .u8 0, .int .u8 0, .int .u8 0, .int .u8 0, .int .u8 0, .int .u8 0, .int .u8 0, .int .u8 0, .int .u8 0, .int .u8 0, .int .u8 0, .int .u8 0, .int .u8 0]) (World.holding Tryd.prog os ⟨#[], #[], []⟩))
theorem laid_met (os : Os) : laidMet Tryd.prog Rows.jrnlManyUptoRow.laid ((laidWorld os).forCall (fun _ _ => 0) ⟨#[], wArgs, []⟩).memory := laidMet_of_run' 8 (by kernel_rfl) (by kernel_rfl)
theorem reads (os : Os) {H : Type} (enc : TypeId × Value → H) : ∃ places, DataW.whole enc Tryd.prog ((laidWorld os).forCall (fun _ _ => 0) ⟨#[], wArgs, []⟩).memory Tryd.f7.params.toList Rows.jrnlManySpec.vars false wArgs.toList 8 = some (wData, [], places) := ⟨[], by kernel_rfl⟩
theorem lifted (os : Os) (started : os.Started) (H : Type) (enc : TypeId × Value → H) (F : Stop.Interp) :
    ReturnsInHanded {} Tryd.checked os 7 .any ((Rows.OpenSpec.upto Rows.jrnlManySpec).preRow enc Tryd.prog Tryd.f7 Rows.jrnlManyUptoRow.domain false Rows.jrnlManyUptoRow.laid) (((Rows.OpenSpec.upto Rows.jrnlManySpec).at F).post enc Tryd.prog Tryd.f7 false true false false) := by
  obtain ⟨places, hx⟩ := reads os enc
  refine returnsInHanded_of_row (C := Tryd.checked) (s := Rows.OpenSpec.upto Rows.jrnlManySpec) own started (by kernel_rfl) Tryd.func7
    (witness_row_at (enc := enc) (C := Tryd.checked) false (laidWorld os) wArgs rfl (by kernel_rfl) (by kernel_rfl) (by kernel_rfl)
      (OpenSpec.preRow_of_cond 8 hx (by kernel_rfl) (fun k hk => by cases hk; kernel_rfl) (by kernel_rfl) (laid_met os))) ?_
  intro W base args ds gs before hval hW _ hcond _ _ _ _
  have hgs : gs = [] := by
    obtain ⟨p, q, hA, hV, _⟩ := hW
    cases gs with
    | nil => rfl
    | cons g gs => exact hV.elim
  subst hgs
  have hk := hcond _ rfl
  exact contract H enc W base args ds [] before hval hW (small hk)
theorem over : Rows.jrnlManyUptoRow.holds Tryd.pinned (Rows.OpenSpec.upto Rows.jrnlManySpec) :=
  OpenClaim.holds_of_cond 7 Tryd.f7 rfl rfl rfl rfl rfl rfl rfl ⟨rfl, rfl, rfl, rfl, rfl⟩ rfl rfl rfl rfl rfl (by kernel_rfl) Tryd.func7 (by kernel_rfl)
    (of_decide_eq_true (by kernel_rfl)) (by unfold Func.isWrapper; first | (rw [if_pos (by decide +kernel)]; kernel_rfl) | (rw [if_neg (by decide +kernel)]; exact ⟨rfl, rfl⟩))
    (fun os started H enc _ F => by rw [OpenClaim.pre_eq_preRow]; exact lifted os started H enc F)
theorem plain (f : FuncId) (fn : Func) (hf : Tryd.pinned.checked.prog.funcNamed "tenancy/tenancylaw6.JrnlMany" = some f) (hfn : Tryd.pinned.checked.prog.funcs[f]? = some fn) :
    true = Tryd.pinned.checked.prog.looks [] ∧ ∀ (j : Nat) t, fn.params[j]? = some t → Tryd.pinned.checked.prog.wantsStandIn t = false := by
  obtain rfl : f = 7 := Option.some.inj ((show Tryd.prog.funcNamed "tenancy/tenancylaw6.JrnlMany" = some 7 by kernel_rfl).symm.trans hf) |>.symm
  obtain rfl : fn = Tryd.f7 := (Option.some.inj (Tryd.func7.symm.trans hfn)).symm
  refine ⟨by kernel_rfl, fun j t ht => ?_⟩
  have h : (Tryd.f7.params.toList.all fun t => !(Tryd.prog.wantsStandIn t)) = true := by kernel_rfl
  have := List.all_eq_true.1 h t (Array.mem_toList_iff.2 (Array.mem_of_getElem? ht))
  show Tryd.prog.wantsStandIn t = false
  simpa using this
theorem card : Rows.JrnlManyUptoCardSaid :=
  Claim7.holds_tied_plain_at .later [] _ _ _ _ over (fun _ h => by cases h) (by kernel_rfl) (fun _ h => by cases h) jrnlManyUpto_row_tie rfl ⟨rfl, rfl⟩ (by kernel_rfl) rfl plain (by kernel_rfl)
end Q7
theorem jrnlMany_holds : Rows.JrnlManyUptoCardSaid := Q7.card
end Go.Proofs.YtddhfdbfackahaaDoor

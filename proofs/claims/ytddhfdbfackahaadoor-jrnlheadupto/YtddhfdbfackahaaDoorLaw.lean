/- Proved: JrnlHead answers true at all arguments of bounded bulk. No condition beyond the statement's: the listed variables as the program's text lays them (the card). (This text joins: The plain law of JrnlHead.) -/
import Derived.Test.YtddhfdbfackahaaDoorSeat4
import Derived.KernelRfl
import Derived.Test.YtddhfdbfackahaaDoorCards
import Derived.Test.YtddhfdbfackahaaDoorTie
import Derived.Deep.DeepHandedRow
import Derived.OpenShut
import Derived.Test.YtddhfdbfackahaaDoorSeat1
import Derived.Test.YtddhfdbfackahaaDoorSeat3
set_option linter.unusedVariables false
set_option linter.unusedSimpArgs false
set_option maxRecDepth 100000
namespace Go.Proofs.YtddhfdbfackahaaDoor.N
open Go

theorem jrnl_begun : law6_begun fuel = some true := by rw [fuel_eq]; kernel_rfl

theorem getD_set_ne {α : Type} (L : List α) (i j : Nat) (x d : α) (h : i ≠ j) : (L.set i x).getD j d = L.getD j d := by
  rw [List.getD_eq_getElem?_getD, List.getD_eq_getElem?_getD, List.getElem?_set_ne h]
theorem getD_set_eq {α : Type} (L : List α) (i : Nat) (x d : α) (h : i < L.length) : (L.set i x).getD i d = x := by
  rw [List.getD_eq_getElem?_getD, List.getElem?_set_self h]
  rfl
theorem wr_other : ∀ (ws : List TPut) (L : List (List UInt8)) (i : Nat), (∀ p ∈ ws, p.At.toNat ≠ i) → (wr L ws).getD i [] = L.getD i []
  | [], L, i, _ => rfl
  | p :: r, L, i, h => by
    show (wr (L.set p.At.toNat p.B) r).getD i [] = _
    rw [wr_other r _ i (fun q hq => h q (List.mem_cons_of_mem _ hq)), getD_set_ne _ _ _ _ _ (h p (List.mem_cons_self ..))]

theorem law6_JrnlHead_ok (l : List UInt8) (n : UInt8) (hl : l.length = 8) : law6_JrnlHead fuel l n = some true := by
  unfold law6_JrnlHead law6_JrnlHead_k
  rw [jrnl_begun, some_bind]
  have hc : cutL l 0 8 = l := by
    have := cut_front l 8
    rw [show ((8 : Nat) : Int) = 8 from rfl, List.take_of_length_le (by omega)] at this
    exact this
  rw [cutOk_of (by omega) (by omega) (by omega), hc, puts_ok l hl]
  simp only [Bool.not_true, cond_false, cond_true, some_bind]
  have hv := puts_valid l hl
  have hle := puts_len l 0
  have hats := puts_at l 0
  generalize putsFrom 0 l = p at hv hle hats
  by_cases hp : p = []
  · subst hp; rfl
  have hlp : 0 < p.length := List.length_pos_iff.2 hp
  rw [show ((p.length : Int) == 0) = false from beq_ne (by omega)]
  have hnew : ref5_New fuel 17 = some ⟨List.replicate 17 zeros, [], 0, false⟩ := New_ok 17 (by omega)
  rw [hnew, wi64_of (show -9223372036854775808 ≤ 2 + (p.length : Int) by omega) (by omega)]
  simp only [cond_false, some_bind]
  obtain ⟨L0, hL0⟩ : ∃ L0, List.replicate 17 zeros = L0 := ⟨_, rfl⟩
  have l0 : L0.length = 17 := by rw [← hL0, List.length_replicate]
  have e0 : ∀ x ∈ L0, x.length = 32 := fun x hx => by rw [← hL0] at hx; rw [List.eq_of_mem_replicate hx]; rfl
  have z0 : ∀ i, i < 17 → L0.getD i [] = zeros := fun i hi => by
    rw [← hL0, List.getD_eq_getElem?_getD, List.getElem?_replicate, if_pos hi]; rfl
  rw [hL0]
  have d0 : DOk ⟨L0, [], 2 + (p.length : Int), false⟩ := ⟨e0, by show L0.length ≤ 1000; omega, (fun q hq => nomatch hq), by show (0 : Nat) ≤ 1000; omega, by show (0 : Int) ≤ 2 + (p.length : Int); omega, by show 2 + (p.length : Int) ≤ 1000; omega⟩
  have hcm := Commit_ok ⟨L0, [], 2 + (p.length : Int), false⟩ d0 rfl (by show (0 : Nat) < 1000; omega) 8 p hp hv (by show 8 + p.length < L0.length; omega) (by omega)
  rw [show ((8 : Nat) : Int) = 8 from rfl] at hcm
  rw [hcm, some_bind]
  -- the rounds
  obtain ⟨L1, hL1⟩ : ∃ L1, L0.set 8 zeros = L1 := ⟨_, rfl⟩
  obtain ⟨L2, hL2⟩ : ∃ L2, wr L1 (copies 9 p) = L2 := ⟨_, rfl⟩
  have w1 : wput ⟨L0, [], 2 + (p.length : Int), false⟩ ⟨8, zeros⟩ = ⟨L0, [⟨8, zeros⟩], 1 + (p.length : Int), false⟩ := by
    unfold wput
    rw [if_pos (show 2 + (p.length : Int) > 0 by omega)]
    have : 2 + (p.length : Int) - 1 = 1 + (p.length : Int) := by omega
    simp only [this]
    congr 1
    exact beq_ne (by omega)
  have f1 : flushed ⟨L0, [⟨8, zeros⟩], 1 + (p.length : Int), false⟩ = ⟨L1, [], 1 + (p.length : Int), false⟩ := by rw [← hL1]; rfl
  have m1 : wmany ⟨L1, [], 1 + (p.length : Int), false⟩ (copies 9 p) = (⟨L1, copies 9 p, 1, false⟩, true) := by
    rw [wmany_all _ _ rfl (by show 0 ≤ 1 + (p.length : Int); omega) (.inr (by rw [copies_len]; show (p.length : Int) < 1 + (p.length : Int); omega)), if_neg (by show ¬ (1 + (p.length : Int) = 0); omega), copies_len]
    simp only [List.nil_append]
    congr 2
    omega
  have f2 : flushed ⟨L1, copies 9 p, 1, false⟩ = ⟨L2, [], 1, false⟩ := by rw [← hL2]; rfl
  have w2 : wput ⟨L2, [], 1, false⟩ ⟨8, headB p⟩ = ⟨L2, [⟨8, headB p⟩], 0, true⟩ := rfl
  have hr : rounds ⟨L0, [], 2 + (p.length : Int), false⟩ 8 p = (⟨L2, [⟨8, headB p⟩], 0, true⟩, false) := by
    unfold rounds
    rw [show ((8 : Nat) : Int) = 8 from rfl, show 8 + 1 = 9 from rfl, w1, f1, m1]
    simp only [cond_false, cond_true]
    rw [f2, w2]
    rfl
  rw [hr]
  simp only [cond_false, Bool.not_true]
  have l1 : L1.length = 17 := by rw [← hL1, List.length_set, l0]
  have l2 : L2.length = 17 := by rw [← hL2, wr_len, l1]
  have e1 : ∀ x ∈ L1, x.length = 32 := by
    intro x hx
    rw [← hL1] at hx
    rcases List.mem_or_eq_of_mem_set hx with hx | rfl
    · exact e0 x hx
    · rfl
  have z1 : ∀ i, i < 17 → L1.getD i [] = zeros := fun i hi => by
    rw [← hL1]
    by_cases h8 : 8 = i
    · subst h8; exact getD_set_eq _ _ _ _ (by omega)
    · rw [getD_set_ne _ _ _ _ _ h8, z0 i hi]
  have e2 : ∀ x ∈ L2, x.length = 32 := by
    rw [← hL2]
    refine wr_each _ _ e1 fun q hq => ?_
    obtain ⟨q', h1, _, _, h4⟩ := copies_at _ _ _ hq
    rw [h4]; exact (hv.each q' h1).2.2
  have z2 : ∀ i, i < 9 → L2.getD i [] = zeros := fun i hi => by
    rw [← hL2, wr_other _ _ _ (fun q hq => by obtain ⟨_, _, h2, _⟩ := copies_at _ _ _ hq; omega), z1 i (by omega)]
  -- what lasts
  have m0 : 0 ≤ (i8 n).tmod 40 := by rw [Int.tmod_eq_emod_of_nonneg (i8_lo n)]; exact Int.emod_nonneg _ (by omega)
  have m1' : (i8 n).tmod 40 < 40 := by rw [Int.tmod_eq_emod_of_nonneg (i8_lo n)]; exact Int.emod_lt_of_pos _ (by omega)
  generalize (i8 n).tmod 40 = m at m0 m1'
  rw [i8_b8 m0 (by omega), wi64_of (by omega) (by omega)]
  have okh : okP L2.length ⟨8, headB p⟩ := ⟨by show (0 : Int) ≤ 8; omega, by show (8 : Int) < _; omega, headB_len p hv.len⟩
  have dq : DOk ⟨L2, [⟨8, headB p⟩], 0, true⟩ := ⟨e2, by show L2.length ≤ 1000; omega, fun q hq => by rw [List.mem_singleton.1 hq]; exact okh, by show (1 : Nat) ≤ 1000; omega, Int.le_refl _, by show (0 : Int) ≤ 1000; omega⟩
  rw [Crash_ok _ dq, some_bind]
  obtain ⟨kk, hkk⟩ : ∃ kk, clampK (some m) = kk := ⟨_, rfl⟩
  have hk32 : kk ≤ 32 := by rw [← hkk]; exact clampK_le _
  have hkm : (m ≥ 32 ↔ kk = 32) := by
    have : kk = (min (max m 0) 32).toNat := hkk.symm
    omega
  obtain ⟨L3, hL3⟩ : ∃ L3, crashL L2 [⟨8, headB p⟩] [m] = L3 := ⟨_, rfl⟩
  have hL3' : L2.set 8 ((headB p).take kk ++ zeros.drop kk) = L3 := by
    rw [← hL3, ← hkk]
    show _ = L2.set 8 _
    rw [show (L2.getD (8 : Int).toNat []) = zeros from z2 8 (by omega)]
    rfl
  rw [hL3]
  have l3 : L3.length = 17 := by rw [← hL3', List.length_set, l2]
  have e3 : ∀ x ∈ L3, x.length = 32 := by rw [← hL3]; exact crash_each _ _ _ e2 (fun q hq => by rw [List.mem_singleton.1 hq]; exact okh)
  have hd8 : L3.getD 8 [] = (headB p).take kk ++ zeros.drop kk := by rw [← hL3', getD_set_eq _ _ _ _ (by omega)]
  have dr : DOk ⟨L3, [], 0, false⟩ := ⟨e3, by show L3.length ≤ 1000; omega, (fun q hq => nomatch hq), by show (0 : Nat) ≤ 1000; omega, Int.le_refl _, by show (0 : Int) ≤ 1000; omega⟩
  -- the first of them
  cases hpc : p with
  | nil => exact absurd hpc hp
  | cons p0 r =>
    have hp0m : p0 ∈ p := by rw [hpc]; exact List.mem_cons_self ..
    obtain ⟨a0, a1, a2⟩ := hv.each p0 hp0m
    obtain ⟨_, _, x, hx⟩ := hats p0 hp0m
    rw [← hpc]
    have hp0 : p[0]? = some p0 := by rw [hpc]; rfl
    rw [inR_of (by omega) (by omega), hp0]
    simp only [cond_true, some_bind]
    have hat : p0.At = ((p0.At.toNat : Nat) : Int) := by omega
    by_cases h32 : m ≥ 32
    · have hk := hkm.1 h32
      have hhead : L3.getD 8 [] = headB p := by
        rw [hd8, hk, List.take_of_length_le (by rw [headB_len p hv.len]; exact Nat.le_refl _)]
        show headB p ++ zeros.drop 32 = _
        rw [show zeros.drop 32 = [] from rfl, List.append_nil]
      have hm := Mend_yes ⟨L3, [], 0, false⟩ dr rfl rfl 8 (by omega) p hp hv (by show 8 + p.length < L3.length; omega) hhead
      rw [show ((8 : Nat) : Int) = 8 from rfl] at hm
      have hw : wmany ⟨L3, [], 0, false⟩ (mends L3 (8 + 1) p) = (⟨L3, mends L3 9 p, 0, false⟩, true) := wmany_all (mends L3 (8 + 1) p) ⟨L3, [], 0, false⟩ rfl (Int.le_refl _) (.inl rfl)
      rw [hm, hw]
      simp only [cond_true, some_bind]
      have hfl : flushed ⟨L3, mends L3 9 p, 0, false⟩ = ⟨wr L3 (mends L3 9 p), [], 0, false⟩ := rfl
      rw [hfl]
      have l4 : (wr L3 (mends L3 9 p)).length = 17 := by rw [wr_len, l3]
      have hrd := rRead_ok ⟨wr L3 (mends L3 9 p), [], 0, false⟩ rfl rfl p0.At.toNat (by show _ < (wr L3 (mends L3 9 p)).length; omega)
      rw [← hat] at hrd
      rw [hrd]
      simp only [some_bind, Bool.not_true, cond_false]
      have h9 : L3.getD 9 [] = p0.B := by
        rw [← hL3', getD_set_ne _ _ _ _ _ (by omega), ← hL2, hpc]
        show (wr (L1.set 9 p0.B) (copies 10 r)).getD 9 [] = _
        rw [wr_other _ _ _ (fun q hq => by obtain ⟨_, _, h2, _⟩ := copies_at _ _ _ hq; omega), getD_set_eq _ _ _ _ (by omega)]
      have hme : ∀ (k : Nat) (r : List TPut) (q : TPut), q ∈ mends L3 k r → ∃ q' ∈ r, q.At = q'.At := by
        intro k r
        induction r generalizing k with
        | nil => intro q hq; cases hq
        | cons u v ih =>
          intro q hq
          rw [mends] at hq
          rcases List.mem_cons.1 hq with rfl | hq
          · exact ⟨u, List.mem_cons_self .., rfl⟩
          · obtain ⟨q', h1, h2⟩ := ih _ q hq
            exact ⟨q', List.mem_cons_of_mem _ h1, h2⟩
      have hval : (wr L3 (mends L3 9 p)).getD p0.At.toNat [] = p0.B := by
        rw [hpc, mends]
        show (wr (L3.set p0.At.toNat (L3.getD 9 [])) (mends L3 10 r)).getD p0.At.toNat [] = _
        rw [wr_other _ _ _ (fun q hq => by
          obtain ⟨q', h1, h2⟩ := hme 10 r q hq
          have hs := hv.sorted
          rw [hpc] at hs
          have := List.rel_of_pairwise_cons hs h1
          have := (hv.each q' (by rw [hpc]; exact List.mem_cons_of_mem _ h1)).1
          omega), getD_set_eq _ _ _ _ (by omega), h9]
      rw [hval, beq_self_eq_true, decide_eq_true h32]
      rfl
    · have hk : kk < 32 := by
        rcases Nat.lt_or_ge kk 32 with h | h
        · exact h
        · exact absurd (hkm.2 (by omega)) h32
      have hno : (L3.getD 8 [])[31]? ≠ some 1 := by
        rw [hd8, List.getElem?_append_right (by rw [List.length_take]; omega), List.length_take, headB_len p hv.len, Nat.min_eq_left hk32, List.getElem?_drop, show kk + (31 - kk) = 31 by omega]
        decide
      have hm := Mend_no ⟨L3, [], 0, false⟩ dr rfl rfl 8 (by show 8 < L3.length; omega) (.inr hno)
      rw [show ((8 : Nat) : Int) = 8 from rfl] at hm
      rw [hm]
      simp only [some_bind]
      have hrd := rRead_ok ⟨L3, [], 0, false⟩ rfl rfl p0.At.toNat (by show _ < L3.length; omega)
      rw [← hat] at hrd
      rw [hrd]
      simp only [some_bind, Bool.not_true, cond_false]
      have hval : L3.getD p0.At.toNat [] = zeros := by
        rw [← hL3', getD_set_ne _ _ _ _ _ (by omega), z2 _ (by omega)]
      rw [hval, decide_eq_false h32, hx, beq_ne (sector_ne x)]
      rfl
end Go.Proofs.YtddhfdbfackahaaDoor.N

set_option linter.unusedVariables false
set_option maxRecDepth 100000
namespace Go.Proofs.YtddhfdbfackahaaDoor
open Go Go.ChangeShapes Go.WideShapes Go.ChangeAt Go.RowKit
namespace Q4
open Go.Proofs.YtddhfdbfackahaaDoor.D Go.Proofs.YtddhfdbfackahaaDoor.J

theorem law (xs : List (DVal E.T)) (h : ArgsOk E 1048576 [(.arr 8 (.int .u8)), (.int .u8)] xs) : (B4 xs []).get = some (.ret [.val .bool true], []) := by
  match xs, h with
  | [_, _], .cons _ _ x0 _ h0 (.cons _ _ x1 _ h1 .nil) => exact (F4 x0 x1).trans ((N.law6_JrnlHead_bind N.fuel _ x0 x1).trans (by rw [N.law6_JrnlHead_ok x0 x1 (h0 12).1]; rfl))

theorem contract (H : Type) (enc : TypeId × Value → H) (W : World) (base : Nat) (args : Array Value) (ds gs : List (DataW H)) (before : List MemPlace)
    (hval : ∀ (j : Nat) t v, Tryd.f4.params[j]? = some t → args[j]? = some v → Value.okWide Tryd.prog W .any base t v)
    (hW : DataW.Whole enc Tryd.prog Tryd.f4.params.toList Rows.jrnlHeadSpec.vars false W args.toList ds gs before) (hk : ∀ d ∈ ds, Rows.uptoBulk d ≤ 1048576) :
    Calls Tryd.prog 4 args W fun e W' => ∃ v, e = .returned v ∧ Rows.jrnlHeadSpec.post enc Tryd.prog Tryd.f4 false true false false W args v W' :=
  law_contract sound tl laid full meas bl (fn := Tryd.f4) (tb := 4) rfl Tryd.underlying4 (ps := [(.arr 8 (.int .u8)), (.int .u8)]) rfl
    (by
      have h : (Tryd.f4.params.toList.all fun t => Tryd.prog.readableRec t && decide (t < Tryd.prog.types.size)) = true := by kernel_rfl
      intro t ht
      have := List.all_eq_true.1 h t ht
      simpa using this) rfl
    (fun ds hd => by
      match ds, hd with
      | [x0, x1], _ => rfl)
    B4_ok law W base args ds gs before hval hW hk

noncomputable def laidWorld (os : Os) : World := layAt 0 ((Go.Pinned.utf8FirstZ.map fun (n : Nat) => Value.int .u8 (Int.ofNat n))) (layAt 1 ([.int .u8 128, .int .u8 191, .int .u8 160, .int .u8 191, .int .u8 128, .int .u8 159, .int .u8 144, .int .u8 191, .int .u8 128, .int .u8 143, .int .u8 0, .int .u8 0, .int .u8 0, .int .u8 0, .int .u8 0, .int .u8 0, .int .u8 0, .int .u8 0, .int .u8 0, .int .u8 0, .int .u8 0, .int .u8 0, .int .u8 0, .int .u8 0, .int .u8 0, .int .u8 0, .int .u8 0, .int .u8 0, .int .u8 0, .int .u8 0, .int .u8 0, .int .u8 0]) (World.holding Tryd.prog os ⟨#[], #[], []⟩))
theorem laid_met (os : Os) : laidMet Tryd.prog Rows.jrnlHeadUptoRow.laid ((laidWorld os).forCall (fun _ _ => 0) ⟨#[], #[.agg #[.int .u8 0, .int .u8 0, .int .u8 0, .int .u8 0, .int .u8 0, .int .u8 0, .int .u8 0, .int .u8 0], .int .u8 0], []⟩).memory := laidMet_of_run' 8 (by kernel_rfl) (by kernel_rfl)
theorem reads (os : Os) {H : Type} (enc : TypeId × Value → H) : ∃ places, DataW.whole enc Tryd.prog ((laidWorld os).forCall (fun _ _ => 0) ⟨#[], #[.agg #[.int .u8 0, .int .u8 0, .int .u8 0, .int .u8 0, .int .u8 0, .int .u8 0, .int .u8 0, .int .u8 0], .int .u8 0], []⟩).memory Tryd.f4.params.toList Rows.jrnlHeadSpec.vars false (#[.agg #[.int .u8 0, .int .u8 0, .int .u8 0, .int .u8 0, .int .u8 0, .int .u8 0, .int .u8 0, .int .u8 0], .int .u8 0] : Array Value).toList 8 = some ([.agg [.lit (.int .u8 0), .lit (.int .u8 0), .lit (.int .u8 0), .lit (.int .u8 0), .lit (.int .u8 0), .lit (.int .u8 0), .lit (.int .u8 0), .lit (.int .u8 0)], .lit (.int .u8 0)], [], places) := ⟨[], by kernel_rfl⟩

theorem lifted (os : Os) (started : os.Started) (H : Type) (enc : TypeId × Value → H) (F : Stop.Interp) :
    ReturnsInHanded {} Tryd.checked os 4 .any ((Rows.OpenSpec.upto Rows.jrnlHeadSpec).preRow enc Tryd.prog Tryd.f4 Rows.jrnlHeadUptoRow.domain false Rows.jrnlHeadUptoRow.laid) (((Rows.OpenSpec.upto Rows.jrnlHeadSpec).at F).post enc Tryd.prog Tryd.f4 false true false false) := by
  obtain ⟨places, hx⟩ := reads os enc
  refine returnsInHanded_of_row (C := Tryd.checked) (s := Rows.OpenSpec.upto Rows.jrnlHeadSpec) own started (by kernel_rfl) Tryd.func4
    (witness_row_at (enc := enc) (C := Tryd.checked) false (laidWorld os) #[.agg #[.int .u8 0, .int .u8 0, .int .u8 0, .int .u8 0, .int .u8 0, .int .u8 0, .int .u8 0, .int .u8 0], .int .u8 0] rfl (by kernel_rfl) (by kernel_rfl) (by kernel_rfl)
      (OpenSpec.preRow_of_cond 8 hx (by kernel_rfl) (fun k hk => by cases hk; kernel_rfl) (by kernel_rfl) (laid_met os))) ?_
  intro W base args ds gs before hval hW _ hcond _ _ _ _
  have hgs : gs = [] := by
    obtain ⟨p, q, hA, hV, _⟩ := hW
    cases gs with
    | nil => rfl
    | cons g gs => exact hV.elim
  subst hgs
  have hk := hcond _ rfl
  exact contract H enc W base args ds [] before hval hW (small hk)

theorem over : Rows.jrnlHeadUptoRow.holds Tryd.pinned (Rows.OpenSpec.upto Rows.jrnlHeadSpec) :=
  OpenClaim.holds_of_cond 4 Tryd.f4 rfl rfl rfl rfl rfl rfl rfl ⟨rfl, rfl, rfl, rfl, rfl⟩ rfl rfl rfl rfl rfl (by kernel_rfl) Tryd.func4 (by kernel_rfl)
    (of_decide_eq_true (by kernel_rfl)) (by unfold Func.isWrapper; first | (rw [if_pos (by decide +kernel)]; kernel_rfl) | (rw [if_neg (by decide +kernel)]; exact ⟨rfl, rfl⟩))
    (fun os started H enc _ F => by rw [OpenClaim.pre_eq_preRow]; exact lifted os started H enc F)
theorem plain (f : FuncId) (fn : Func) (hf : Tryd.pinned.checked.prog.funcNamed "tenancy/tenancylaw6.JrnlHead" = some f) (hfn : Tryd.pinned.checked.prog.funcs[f]? = some fn) :
    true = Tryd.pinned.checked.prog.looks [] ∧ ∀ (j : Nat) t, fn.params[j]? = some t → Tryd.pinned.checked.prog.wantsStandIn t = false := by
  obtain rfl : f = 4 := Option.some.inj ((show Tryd.prog.funcNamed "tenancy/tenancylaw6.JrnlHead" = some 4 by kernel_rfl).symm.trans hf) |>.symm
  obtain rfl : fn = Tryd.f4 := (Option.some.inj (Tryd.func4.symm.trans hfn)).symm
  refine ⟨by kernel_rfl, fun j t ht => ?_⟩
  have h : (Tryd.f4.params.toList.all fun t => !(Tryd.prog.wantsStandIn t)) = true := by kernel_rfl
  have := List.all_eq_true.1 h t (Array.mem_toList_iff.2 (Array.mem_of_getElem? ht))
  show Tryd.prog.wantsStandIn t = false
  simpa using this
theorem card : Rows.JrnlHeadUptoCardSaid :=
  Claim7.holds_tied_plain_at .later [] _ _ _ _ over (fun _ h => by cases h) (by kernel_rfl) (fun _ h => by cases h) jrnlHeadUpto_row_tie rfl ⟨rfl, rfl⟩ (by kernel_rfl) rfl plain (by kernel_rfl)
end Q4
theorem jrnlHead_holds : Rows.JrnlHeadUptoCardSaid := Q4.card
end Go.Proofs.YtddhfdbfackahaaDoor

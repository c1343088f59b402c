/- Proved: ClientAgain answers true at all arguments of bounded bulk. No condition beyond the statement's. (This text joins: The seat's functions, and the nice ones (5). Loops and whole numbers of the nice functions. Plain words for this seat (1). Plain words for this seat (2). The plain law of ClientAgain.) -/
import Derived.Test.YthabbcjjecpbmaaGreatSeat6
import Derived.Test.YthabbcjjecpbmaaGreatBase5
import Derived.Laws.BitsLemmas
import Derived.Test.YthabbcjjecpbmaaGreatSeat2
import Derived.KernelRfl
import Derived.Test.YthabbcjjecpbmaaGreatSeat1
set_option linter.unusedVariables false
set_option maxRecDepth 100000
namespace Go.Proofs.YthabbcjjecpbmaaGreat.Z
open Go Go.Proofs.YthabbcjjecpbmaaGreat.D

/-! tenancy/tenancyref19.SameClient -/
noncomputable def S21 : List (Nat × D.Spec E) := [P15, P58, P59]
theorem S21_ok : AllS Tryz.prog E S21 := ⟨p15, p58, p59, trivial⟩
abbrev h21_s0 (a : N.TClient) (b : N.TClient) (i : Int) : Fr E.T := ofSlots E 123 [] [2, 3, 5] [.ptr 0 [], .ptr 1 [], .val (.int .i64) i]
abbrev t21_s0 (a : N.TClient) (b : N.TClient) (i : Int) : St E.T := [.box false (.val (.named 4) a), .box false (.val (.named 4) b)]
def x21_s0 (a : N.TClient) (b : N.TClient) (x_ : Unit ⊕ Unit) : Tree (CodeOut E) := altT x_ (fun u0_ => .ret (.ret, ofSlots E 123 [] [2, 3, 4] [.ptr 0 [], .ptr 1 [], .val .bool false], [.box false (.val (.named 4) a), .box false (.val (.named 4) b)])) (fun w0_ => .ret (.exit 0, ofSlots E 123 [] [2, 3, 4] [.ptr 0 [], .ptr 1 [], .undef], [.box false (.val (.named 4) a), .box false (.val (.named 4) b)]))
noncomputable def g21_s0 : Ins E (CodeOut E) := ⟨[.ptr 0 [], .ptr 1 [], .v (.int .i64)], [.box false (.v (.named 4)), .box false (.v (.named 4))], fun i a b => .opt (N.ref19_SameClient_l0 N.fuel a b i) (x21_s0 a b)⟩
noncomputable def L21 : Nat → LoopInfo E := clL E 123 [{ ks := [2, 3, 5], mvs := [], pro := [], d := [], g := some (insF [g21_s0]) }] []
theorem f21_s0 (a : N.TClient) (b : N.TClient) (i : Int) : ((stepOf E S21 L21 0 0 Tryz.f21 (h21_s0 a b i) (t21_s0 a b i)).bind (nx E [2, 3, 5] [] [2, 3, 4] 2)).get = N.ref19_SameClient_s0k N.fuel a b (fun v_ => some (.inl (h21_s0 a b v_, t21_s0 a b v_))) (fun x_ => some (.inr (.ret, ofSlots E 123 [] [2, 3, 4] [.ptr 0 [], .ptr 1 [], .val .bool false], [.box false (.val (.named 4) a), .box false (.val (.named 4) b)]))) (fun x_ => some (.inr (.exit 0, ofSlots E 123 [] [2, 3, 4] [.ptr 0 [], .ptr 1 [], .undef], [.box false (.val (.named 4) a), .box false (.val (.named 4) b)]))) i := by kernel_rfl
theorem q21_s0 : InsLp 123 [2, 3, 5] [] [] (stepOf E S21 L21 0 0 Tryz.f21) g21_s0 := by
  intro i a b out_ ho_
  obtain ⟨x_, h1_, h2_⟩ := Option.bind_eq_some_iff.1 ho_
  refine iter_loop (rs := [2, 3, 4]) (step := N.ref19_SameClient_s0 N.fuel a b) (hd := fun v_ => h21_s0 a b v_) (sv := fun v_ => t21_s0 a b v_) (ex := x21_s0 a b) (fun v_ => ?_) N.fuel i h1_ h2_
  refine (f21_s0 a b v_).trans ((N.ref19_SameClient_s0_bind N.fuel a b _ _ _ v_).trans ?_)
  refine congrArg _ (funext fun s_ => ?_)
  rcases s_ with v_ | a | a <;> rfl
noncomputable def B21 : List (DVal E.T) → St E.T → Tree (Res E.T × St E.T) := dbody E (lookS S21) (lookD []) L21 0 false Tryz.f21
theorem B21_ok : FnOk Tryz.prog E 21 B21 := bodyC_ok sound mix S21_ok (SD := []) trivial (L := L21) (N := 0) (keep := false) Tryz.func21 rfl (by
  intro k g hg fr st out ho
  match k, hg with
  | 0, hg => cases hg; exact lp_ok (allLp_cons q21_s0 (allLp_nil)) fr st out ho
  | _ + 1, hg => cases hg)
theorem F21 (a : N.TClient) (b : N.TClient) : (B21 [.val (.named 4) a, .val (.named 4) b] []).get = N.ref19_SameClient_k N.fuel (fun x_ => some (.ret [.val .bool x_], [])) a b := by kernel_rfl
noncomputable def i21 : Ins E (Res E.T × St E.T) := ⟨[.v (.named 4), .v (.named 4)], [], fun a b => .opt (N.ref19_SameClient N.fuel a b) fun x_ => .ret (.ret [.val .bool x_], [])⟩
theorem i21_ok : InsOk Tryz.prog 21 i21 := ⟨B21, B21_ok, by intro a b out_ h_; exact ((F21 a b).trans (N.ref19_SameClient_bind N.fuel _ a b)).trans h_⟩
noncomputable def P21 : Nat × D.Spec E := (21, .pure [(.named 4), (.named 4)] (pureF [i21]))
theorem p21 : SpecOk Tryz.prog E P21.1 P21.2 := pureI_ok Tryz.call21 ⟨i21_ok, trivial⟩

/-! tenancy/tenancylaw20.ClientGives -/
noncomputable def S7 : List (Nat × D.Spec E) := [P11, P13, P20, P21, P22, P8, P9]
theorem S7_ok : AllS Tryz.prog E S7 := ⟨p11, p13, p20, p21, p22, p8, p9, trivial⟩
abbrev h7_s0 (picks : List UInt8) (n : Int) (o1 : N.TAns) (i : Int) (c : N.TClient) (want : List N.TWrite) : Fr E.T := ofSlots E 191 [] [0, 5, 6, 9, 10] [.val (.slice (.int .u8)) picks, .val (.int .i64) n, .ptr 0 [], .own 2, .val (.int .i64) i]
abbrev t7_s0 (picks : List UInt8) (n : Int) (o1 : N.TAns) (i : Int) (c : N.TClient) (want : List N.TWrite) : St E.T := [.box false (.val (.named 4) c), .box false (.val (.named 6) o1), .arr .live (.named 0) want]
def x7_s0 (picks : List UInt8) (n : Int) (o1 : N.TAns) (x_ : (N.TClient × N.TWrite × N.TClient × N.TAns × List N.TWrite) ⊕ (N.TClient × List N.TWrite)) : Tree (CodeOut E) := altT x_ (fun u0_ => .ret (.ret, ofSlots E 191 [] [4, 5, 6, 9] [.val .bool false, .val (.int .i64) n, .ptr 0 [], .own 2], [.box false (.val (.named 4) u0_.1), .box false (.val (.named 6) o1), .arr .live (.named 0) u0_.2.2.2.2, .box false (.agg 0 [.val (.int .i64) u0_.2.1.Off, .val .str u0_.2.1.B]), .box false (.val (.named 4) u0_.2.2.1), .box false (.val (.named 6) u0_.2.2.2.1)])) (fun w0_ => .ret (.exit 0, ofSlots E 191 [] [4, 5, 6, 9] [.undef, .val (.int .i64) n, .ptr 0 [], .own 2], [.box false (.val (.named 4) w0_.1), .box false (.val (.named 6) o1), .arr .live (.named 0) w0_.2]))
noncomputable def g7_s0 : Ins E (CodeOut E) := ⟨[.v (.slice (.int .u8)), .v (.int .i64), .ptr 0 [], .own 2, .v (.int .i64)], [.box false (.v (.named 4)), .box false (.v (.named 6)), .arr .live (.named 0)], fun picks n i c o1 want => .opt (N.law20_ClientGives_l0 N.fuel picks n o1 i c want) (x7_s0 picks n o1)⟩
abbrev h7_s1 (n : Int) (m : List N.TAsk) (o0 : N.TClient) (o1 : N.TAns) (x : N.TClient) (want : List N.TWrite) (i : Int) : Fr E.T := ofSlots E 191 [] [5, 9, 15, 16, 17] [.val (.int .i64) n, .own 2, .ptr 3 [], .val (.slice (.named 2)) m, .val (.int .i64) i]
abbrev t7_s1 (n : Int) (m : List N.TAsk) (o0 : N.TClient) (o1 : N.TAns) (x : N.TClient) (want : List N.TWrite) (i : Int) : St E.T := [.box false (.val (.named 4) o0), .box false (.val (.named 6) o1), .arr .live (.named 0) want, .box false (.val (.named 4) x)]
def x7_s1 (n : Int) (m : List N.TAsk) (o0 : N.TClient) (o1 : N.TAns) (x : N.TClient) (want : List N.TWrite) (x_ : Unit ⊕ Unit) : Tree (CodeOut E) := altT x_ (fun u0_ => .ret (.ret, ofSlots E 191 [] [4, 5, 15] [.val .bool false, .val (.int .i64) n, .ptr 3 []], [.box false (.val (.named 4) o0), .box false (.val (.named 6) o1), .arr .live (.named 0) want, .box false (.val (.named 4) x)])) (fun w0_ => .ret (.exit 2, ofSlots E 191 [] [4, 5, 15] [.undef, .val (.int .i64) n, .ptr 3 []], [.box false (.val (.named 4) o0), .box false (.val (.named 6) o1), .arr .live (.named 0) want, .box false (.val (.named 4) x)]))
noncomputable def g7_s1 : Ins E (CodeOut E) := ⟨[.v (.int .i64), .own 2, .ptr 3 [], .v (.slice (.named 2)), .v (.int .i64)], [.box false (.v (.named 4)), .box false (.v (.named 6)), .arr .live (.named 0), .box false (.v (.named 4))], fun n m i o0 o1 want x => .opt (N.law20_ClientGives_l1 N.fuel n m o0 o1 x want i) (x7_s1 n m o0 o1 x want)⟩
noncomputable def L7 : Nat → LoopInfo E := clL E 191 [{ ks := [0, 5, 6, 9, 10], mvs := [], pro := [.pro (.slot 9) [] (.named 0)], d := [], g := some (insF [g7_s0]) }, { ks := [5, 9, 15, 16, 17], mvs := [], pro := [], d := [], g := some (insF [g7_s1]) }] []
theorem f7_s0 (picks : List UInt8) (n : Int) (o1 : N.TAns) (i : Int) (c : N.TClient) (want : List N.TWrite) : ((stepOf E S7 L7 0 0 Tryz.f7 (h7_s0 picks n o1 i c want) (t7_s0 picks n o1 i c want)).bind (nx E [0, 5, 6, 9, 10] [] [4, 5, 6, 9] 3)).get = N.law20_ClientGives_s0k N.fuel picks n o1 (fun v_ => some (.inl (h7_s0 picks n o1 v_.1 v_.2.1 v_.2.2, t7_s0 picks n o1 v_.1 v_.2.1 v_.2.2))) (fun x_ => some (.inr (.ret, ofSlots E 191 [] [4, 5, 6, 9] [.val .bool false, .val (.int .i64) n, .ptr 0 [], .own 2], [.box false (.val (.named 4) x_.1), .box false (.val (.named 6) o1), .arr .live (.named 0) x_.2.2.2.2, .box false (.agg 0 [.val (.int .i64) x_.2.1.Off, .val .str x_.2.1.B]), .box false (.val (.named 4) x_.2.2.1), .box false (.val (.named 6) x_.2.2.2.1)]))) (fun x_ => some (.inr (.exit 0, ofSlots E 191 [] [4, 5, 6, 9] [.undef, .val (.int .i64) n, .ptr 0 [], .own 2], [.box false (.val (.named 4) x_.1), .box false (.val (.named 6) o1), .arr .live (.named 0) x_.2]))) i c want := by kernel_rfl
theorem q7_s0 : InsLp 191 [0, 5, 6, 9, 10] [] [] (stepOf E S7 L7 0 0 Tryz.f7) g7_s0 := by
  intro picks n i c o1 want out_ ho_
  obtain ⟨x_, h1_, h2_⟩ := Option.bind_eq_some_iff.1 ho_
  refine iter_loop (rs := [4, 5, 6, 9]) (step := N.law20_ClientGives_s0 N.fuel picks n o1) (hd := fun v_ => h7_s0 picks n o1 v_.1 v_.2.1 v_.2.2) (sv := fun v_ => t7_s0 picks n o1 v_.1 v_.2.1 v_.2.2) (ex := x7_s0 picks n o1) (fun v_ => ?_) N.fuel (i, c, want) h1_ h2_
  refine (f7_s0 picks n o1 v_.1 v_.2.1 v_.2.2).trans ((N.law20_ClientGives_s0_bind N.fuel picks n o1 _ _ _ v_.1 v_.2.1 v_.2.2).trans ?_)
  refine congrArg _ (funext fun s_ => ?_)
  rcases s_ with v_ | a | a <;> rfl
theorem f7_s1 (n : Int) (m : List N.TAsk) (o0 : N.TClient) (o1 : N.TAns) (x : N.TClient) (want : List N.TWrite) (i : Int) : ((stepOf E S7 L7 0 1 Tryz.f7 (h7_s1 n m o0 o1 x want i) (t7_s1 n m o0 o1 x want i)).bind (nx E [5, 9, 15, 16, 17] [] [4, 5, 15] 4)).get = N.law20_ClientGives_s1k n m o0 o1 x want (fun v_ => some (.inl (h7_s1 n m o0 o1 x want v_, t7_s1 n m o0 o1 x want v_))) (fun x_ => some (.inr (.ret, ofSlots E 191 [] [4, 5, 15] [.val .bool false, .val (.int .i64) n, .ptr 3 []], [.box false (.val (.named 4) o0), .box false (.val (.named 6) o1), .arr .live (.named 0) want, .box false (.val (.named 4) x)]))) (fun x_ => some (.inr (.exit 2, ofSlots E 191 [] [4, 5, 15] [.undef, .val (.int .i64) n, .ptr 3 []], [.box false (.val (.named 4) o0), .box false (.val (.named 6) o1), .arr .live (.named 0) want, .box false (.val (.named 4) x)]))) i := by kernel_rfl
theorem q7_s1 : InsLp 191 [5, 9, 15, 16, 17] [] [] (stepOf E S7 L7 0 1 Tryz.f7) g7_s1 := by
  intro n m i o0 o1 want x out_ ho_
  obtain ⟨x_, h1_, h2_⟩ := Option.bind_eq_some_iff.1 ho_
  refine iter_loop (rs := [4, 5, 15]) (step := N.law20_ClientGives_s1 n m o0 o1 x want) (hd := fun v_ => h7_s1 n m o0 o1 x want v_) (sv := fun v_ => t7_s1 n m o0 o1 x want v_) (ex := x7_s1 n m o0 o1 x want) (fun v_ => ?_) N.fuel i h1_ h2_
  refine (f7_s1 n m o0 o1 x want v_).trans ((N.law20_ClientGives_s1_bind n m o0 o1 x want _ _ _ v_).trans ?_)
  refine congrArg _ (funext fun s_ => ?_)
  rcases s_ with v_ | a | a <;> rfl
noncomputable def B7 : List (DVal E.T) → St E.T → Tree (Res E.T × St E.T) := dbody E (lookS S7) (lookD []) L7 0 false Tryz.f7
theorem B7_ok : FnOk Tryz.prog E 7 B7 := bodyC_ok sound mix S7_ok (SD := []) trivial (L := L7) (N := 0) (keep := false) Tryz.func7 rfl (by
  intro k g hg fr st out ho
  match k, hg with
  | 0, hg => cases hg; exact lp_ok (allLp_cons q7_s0 (allLp_nil)) fr st out ho
  | 1, hg => cases hg; exact lp_ok (allLp_cons q7_s1 (allLp_nil)) fr st out ho
  | _ + 2, hg => cases hg)
theorem F7 (picks : List UInt8) (f : UInt8) : (B7 [.val (.slice (.int .u8)) picks, .val (.int .u8) f] []).get = N.law20_ClientGives_k N.fuel (fun x_ => some (.ret [.val .bool x_], [])) picks f := by kernel_rfl
noncomputable def i7 : Ins E (Res E.T × St E.T) := ⟨[.v (.slice (.int .u8)), .v (.int .u8)], [], fun picks f => .opt (N.law20_ClientGives N.fuel picks f) fun x_ => .ret (.ret [.val .bool x_], [])⟩
theorem i7_ok : InsOk Tryz.prog 7 i7 := ⟨B7, B7_ok, by intro picks f out_ h_; exact ((F7 picks f).trans (N.law20_ClientGives_bind N.fuel _ picks f)).trans h_⟩
noncomputable def P7 : Nat × D.Spec E := (7, .pure [(.slice (.int .u8)), (.int .u8)] (pureF [i7]))
theorem p7 : SpecOk Tryz.prog E P7.1 P7.2 := pureI_ok Tryz.call7 ⟨i7_ok, trivial⟩

end Go.Proofs.YthabbcjjecpbmaaGreat.Z

set_option linter.unusedVariables false
set_option linter.unusedSimpArgs false
namespace Go.Proofs.YthabbcjjecpbmaaGreat.N
open Go

theorem wi64_of {n : Int} (h1 : -9223372036854775808 ≤ n) (h2 : n ≤ 9223372036854775807) : wi64 n = n := by
  unfold wi64; rw [IntKind.wrap_i64]; omega

theorem some_bind {α β : Type} (a : α) (f : α → Option β) : (some a).bind f = f a := rfl

theorem i8_lo (x : UInt8) : 0 ≤ i8 x := Int.natCast_nonneg _
theorem i8_hi (x : UInt8) : i8 x < 256 := by have := x.toNat_lt; unfold i8; omega
theorem i8_inj {x y : UInt8} (h : i8 x = i8 y) : x = y := UInt8.toNat_inj.1 (by unfold i8 at h; omega)
theorem i8_b8 {n : Int} (h : 0 ≤ n) (h2 : n < 256) : i8 (b8 n) = n := by
  unfold i8 b8
  rw [UInt8.toNat_ofNat_of_lt' (by show n.toNat < 256; omega)]
  omega
theorem b8_i8 (x : UInt8) : b8 (i8 x) = x := by
  unfold b8 i8; simp

theorem inR_of {i : Int} {n : Nat} (h : 0 ≤ i) (h2 : i < n) : inR i n = true := by
  unfold inR; simp [h, h2]

theorem at_of {α : Type} {xs : List α} {i : Nat} {a : α} (h : xs[i]? = some a) : i < xs.length := (List.getElem?_eq_some_iff.1 h).1

/-! Loops over a list -/
/-- A walk along a list: go on, or leave. -/
def runL {A S X : Type} (g : A → S → Option (S ⊕ X)) (fin : S → X) : List A → S → Option X
  | [], s => some (fin s)
  | a :: r, s => (g a s).bind fun o => alt o (fun s' => runL g fin r s') (fun x => some x)

theorem iter_list {A S V X : Type} {step : V → Option (V ⊕ X)} {xs : List A} {mk : Nat → S → V} {g : A → S → Option (S ⊕ X)} {fin : S → X}
    (hc : ∀ i s a, xs[i]? = some a → step (mk i s) = (g a s).map (Sum.map (mk (i + 1)) id)) (he : ∀ s, step (mk xs.length s) = some (.inr (fin s))) :
    ∀ (r : List A) (i : Nat) (s : S) (n : Nat), xs.drop i = r → i ≤ xs.length → r.length < n → iter step n (mk i s) = runL g fin r s
  | _, _, _, 0, _, _, h => absurd h (Nat.not_lt_zero _)
  | [], i, s, n + 1, hd, hi, _ => by
    have : xs.length ≤ i := List.drop_eq_nil_iff.1 hd
    have : i = xs.length := Nat.le_antisymm hi this
    subst this
    rw [iter_succ, he]
    rfl
  | a :: r, i, s, n + 1, hd, hi, hn => by
    have hlt : i < xs.length := by
      rcases Nat.lt_or_ge i xs.length with h | h
      · exact h
      · rw [List.drop_eq_nil_iff.2 h] at hd; cases hd
    have ha : xs[i]? = some a := by
      have := List.getElem?_drop (xs := xs) (i := i) (j := 0)
      rw [hd] at this
      simpa using this.symm
    have hr : xs.drop (i + 1) = r := by
      have := List.drop_drop (l := xs) (i := 1) (j := i)
      rw [hd] at this
      simpa using this.symm
    rw [iter_succ, hc i s a ha, runL]
    cases hg : g a s with
    | none => rfl
    | some o =>
      simp only [Option.map_some, Option.bind_some]
      cases o with
      | inl s' => exact iter_list hc he r (i + 1) s' n hr hlt (by simp at hn; omega)
      | inr x => rfl

theorem iter_list0 {A S V X : Type} {step : V → Option (V ⊕ X)} {xs : List A} (mk : Nat → S → V) (g : A → S → Option (S ⊕ X)) (fin : S → X)
    (hc : ∀ i s a, xs[i]? = some a → step (mk i s) = (g a s).map (Sum.map (mk (i + 1)) id)) (he : ∀ s, step (mk xs.length s) = some (.inr (fin s))) (s : S) (hn : xs.length < fuel) :
    iter step fuel (mk 0 s) = runL g fin xs s := iter_list hc he xs 0 s fuel rfl (Nat.zero_le _) hn

theorem fuel_gt {n : Nat} (h : n < 4294967296) : n < fuel := by rw [fuel_eq]; exact h

/-- Counting down. -/
theorem iter_down {S V X : Type} {step : V → Option (V ⊕ X)} (mk : Nat → S → V) (g : S → Option (S ⊕ X)) (fin : S → X)
    (hc : ∀ i s, step (mk (i + 1) s) = (g s).map (Sum.map (mk i) id)) (he : ∀ s, step (mk 0 s) = some (.inr (fin s))) :
    ∀ (i : Nat) (s : S) (n : Nat), i < n → iter step n (mk i s) = runL (fun _ : Unit => g) fin (List.replicate i ()) s
  | _, _, 0, h => absurd h (Nat.not_lt_zero _)
  | 0, s, n + 1, _ => by rw [iter_succ, he]; rfl
  | i + 1, s, n + 1, h => by
    rw [iter_succ, hc, List.replicate_succ, runL]
    cases g s with
    | none => rfl
    | some o =>
      cases o with
      | inl s' => exact iter_down mk g fin hc he i s' n (by omega)
      | inr x => rfl

/-! All, any -/
theorem runL_all {A X : Type} (p : A → Bool) (x y : X) : ∀ l : List A, runL (S := Unit) (fun a _ => bif p a then some (.inl ()) else some (.inr x)) (fun _ => y) l () = some (bif l.all p then y else x)
  | [] => rfl
  | a :: r => by
    rw [runL, List.all_cons]
    cases p a with
    | true => exact runL_all p x y r
    | false => rfl

end Go.Proofs.YthabbcjjecpbmaaGreat.N

set_option linter.unusedVariables false
set_option linter.unusedSimpArgs false
namespace Go.Proofs.YthabbcjjecpbmaaGreat.N
open Go

theorem lt_dec {i n : Nat} (h : i < n) : decide ((i : Int) < (n : Int)) = true := decide_eq_true (by omega)
theorem ge_dec (n : Nat) : decide ((n : Int) < (n : Int)) = false := decide_eq_false (by omega)
theorem inR_nat {i n : Nat} (h : i < n) : inR (i : Int) n = true := inR_of (by omega) (by omega)
theorem wi64_succ {i : Nat} (h : i < 4294967296) : wi64 ((i : Int) + 1) = ((i + 1 : Nat) : Int) := by rw [wi64_of (by omega) (by omega)]; omega

/-! Names -/
def okc (a : UInt8) : Bool := !(decide (i8 a < 33)) && !(decide (i8 a > 126))
def mayName (s : List UInt8) : Bool := s.all okc && (decide ((s.length : Int) ≥ 1) && decide ((s.length : Int) ≤ 8))

theorem dir_May_ok (s : List UInt8) (h : s.length < 4294967296) : dir_May fuel s = some (mayName s) := by
  have hl : dir_May_l0 fuel s (s.length : Int) s 0 = some (bif s.all okc then .inr () else .inl ()) := by
    unfold dir_May_l0
    rw [← runL_all okc (Sum.inl ()) (Sum.inr ()) s]
    refine iter_list0 (xs := s) (fun i (_ : Unit) => (i : Int)) _ _ (fun i _ a ha => ?_) (fun _ => ?_) () (fuel_gt h)
    · have hi := at_of ha
      simp only [dir_May_s0, dir_May_s0k, lt_dec hi, inR_nat hi, Int.toNat_natCast, ha, cond_true, some_bind, wi64_succ (Nat.lt_trans hi h), okc]
      cases decide (i8 a < 33) <;> cases decide (i8 a > 126) <;> rfl
    · simp only [dir_May_s0, dir_May_s0k, ge_dec, cond_false]
  unfold dir_May dir_May_k
  rw [hl, some_bind]
  unfold mayName
  cases s.all okc <;> cases decide ((s.length : Int) ≥ 1) <;> rfl

/-! Writes -/
/-! Sameness -/
theorem write_eqb (x y : TWrite) : TWrite.eqb x y = true ↔ x = y := by
  cases x; cases y
  simp [TWrite.eqb]

def sameW : List TWrite → List TWrite → Bool
  | [], [] => true
  | x :: a, y :: b => TWrite.eqb x y && sameW a b
  | _, _ => false

theorem sameW_iff : ∀ a b : List TWrite, sameW a b = true ↔ a = b
  | [], [] => by simp [sameW]
  | [], _ :: _ => by simp [sameW]
  | _ :: _, [] => by simp [sameW]
  | x :: a, y :: b => by simp [sameW, write_eqb, sameW_iff a b]

theorem sameW_zip : ∀ a b : List TWrite, a.length = b.length → sameW a b = (a.zip b).all fun p => TWrite.eqb p.1 p.2
  | [], [], _ => rfl
  | [], _ :: _, h => by simp at h
  | _ :: _, [], h => by simp at h
  | x :: a, y :: b, h => by
    simp only [sameW, List.zip_cons_cons, List.all_cons]
    rw [sameW_zip a b (by simpa using h)]

theorem sameW_len {a b : List TWrite} (h : a.length ≠ b.length) : sameW a b = false := by
  cases hs : sameW a b with
  | false => rfl
  | true => exact absurd (by rw [(sameW_iff a b).1 hs]) h

theorem zip_at {α β : Type} {a : List α} {b : List β} {i : Nat} {p : α × β} (h : (a.zip b)[i]? = some p) : a[i]? = some p.1 ∧ b[i]? = some p.2 := by
  rw [List.getElem?_zip_eq_some] at h
  exact h

theorem equalW_ok (a b : List TWrite) (h : a.length < 4294967296) : slices_Equal_Write fuel a b = some (sameW a b) := by
  unfold slices_Equal_Write slices_Equal_Write_k
  by_cases hl : a.length = b.length
  · have hz : (a.zip b).length = a.length := by rw [List.length_zip]; omega
    have hl0 : slices_Equal_Write_l0 fuel a b (a.length : Int) 0 = some (bif (a.zip b).all (fun p => TWrite.eqb p.1 p.2) then .inr () else .inl ()) := by
      unfold slices_Equal_Write_l0
      rw [← runL_all (fun p : TWrite × TWrite => TWrite.eqb p.1 p.2) (Sum.inl ()) (Sum.inr ()) (a.zip b)]
      refine iter_list0 (xs := a.zip b) (fun i (_ : Unit) => (i : Int)) _ _ (fun i _ p hp => ?_) (fun _ => ?_) () (fuel_gt (by omega))
      · have hi := at_of hp
        obtain ⟨h1, h2⟩ := zip_at hp
        rw [hz] at hi
        simp only [slices_Equal_Write_s0, slices_Equal_Write_s0k, lt_dec hi, inR_nat hi, inR_nat (at_of h2), Int.toNat_natCast, h1, h2, cond_true, some_bind, wi64_succ (Nat.lt_trans hi h)]
        cases TWrite.eqb p.1 p.2 <;> rfl
      · simp only [slices_Equal_Write_s0, slices_Equal_Write_s0k, hz, ge_dec, cond_false]
    have : ((a.length : Int) != (b.length : Int)) = false := by simp [hl]
    rw [this, hl0, sameW_zip a b hl]
    cases (a.zip b).all (fun p => TWrite.eqb p.1 p.2) <;> rfl
  · have : ((a.length : Int) != (b.length : Int)) = true := by simp; omega
    rw [this, sameW_len hl]
    rfl

theorem ref7_SameWrites_ok (a b : List TWrite) (h : a.length < 4294967296) : ref7_SameWrites fuel a b = some (sameW a b) := by
  unfold ref7_SameWrites ref7_SameWrites_k
  by_cases hl : a.length = b.length
  · have hz : (a.zip b).length = a.length := by rw [List.length_zip]; omega
    have hl0 : ref7_SameWrites_l0 fuel a b 0 = some (bif (a.zip b).all (fun p => TWrite.eqb p.1 p.2) then .inr () else .inl ()) := by
      unfold ref7_SameWrites_l0
      rw [← runL_all (fun p : TWrite × TWrite => TWrite.eqb p.1 p.2) (Sum.inl ()) (Sum.inr ()) (a.zip b)]
      refine iter_list0 (xs := a.zip b) (fun i (_ : Unit) => (i : Int)) _ _ (fun i _ p hp => ?_) (fun _ => ?_) () (fuel_gt (by omega))
      · have hi := at_of hp
        obtain ⟨h1, h2⟩ := zip_at hp
        rw [hz] at hi
        simp only [ref7_SameWrites_s0, ref7_SameWrites_s0k, lt_dec hi, inR_nat hi, inR_nat (at_of h2), Int.toNat_natCast, h1, h2, cond_true, some_bind, wi64_succ (Nat.lt_trans hi h)]
        cases TWrite.eqb p.1 p.2 <;> rfl
      · simp only [ref7_SameWrites_s0, ref7_SameWrites_s0k, hz, ge_dec, cond_false]
    have : ((a.length : Int) != (b.length : Int)) = false := by simp [hl]
    rw [this, hl0, sameW_zip a b hl]
    cases (a.zip b).all (fun p => TWrite.eqb p.1 p.2) <;> rfl
  · have : ((a.length : Int) != (b.length : Int)) = true := by simp; omega
    rw [this, sameW_len hl]
    rfl

def sameAsk (a b : TAsk) : Bool := a.Kind == b.Kind && (a.From == b.From && (a.Epoch == b.Epoch && (a.Seq == b.Seq && (a.Name == b.Name && (a.File == b.File && (a.Mode == b.Mode && sameW a.Writes b.Writes))))))

theorem sameAsk_iff (a b : TAsk) : sameAsk a b = true ↔ a = b := by
  cases a; cases b
  simp [sameAsk, sameW_iff]

theorem sameAsk_refl (a : TAsk) : sameAsk a a = true := (sameAsk_iff a a).2 rfl

theorem and_cond (a b : Bool) : (a && b) = bif a then b else false := by cases a <;> rfl

theorem msg_SameAsk_ok (a b : TAsk) (h : a.Writes.length < 4294967296) : msg_SameAsk fuel a b = some (sameAsk a b) := by
  unfold msg_SameAsk msg_SameAsk_k sameAsk
  rw [equalW_ok _ _ h]
  simp only [and_cond, some_bind]
  cases a.Kind == b.Kind <;> cases a.From == b.From <;> cases a.Epoch == b.Epoch <;> cases a.Seq == b.Seq <;> cases a.Name == b.Name <;> cases a.File == b.File <;> cases a.Mode == b.Mode <;> rfl

theorem ref13_SameAsk_ok (a b : TAsk) (h : a.Writes.length < 4294967296) : ref13_SameAsk fuel a b = some (sameAsk a b) := by
  unfold ref13_SameAsk ref13_SameAsk_k sameAsk
  rw [ref7_SameWrites_ok _ _ h]
  simp only [and_cond, some_bind]
  cases a.Kind == b.Kind <;> cases a.From == b.From <;> cases a.Epoch == b.Epoch <;> cases a.Seq == b.Seq <;> cases a.Name == b.Name <;> cases a.File == b.File <;> cases a.Mode == b.Mode <;> rfl

end Go.Proofs.YthabbcjjecpbmaaGreat.N

set_option linter.unusedVariables false
set_option linter.unusedSimpArgs false
namespace Go.Proofs.YthabbcjjecpbmaaGreat.N
open Go

def rng (lo hi v : Int) : Bool := decide (lo ≤ v) && decide (v ≤ hi)
theorem rng_iff {lo hi v : Int} : rng lo hi v = true ↔ lo ≤ v ∧ v ≤ hi := by simp [rng]
theorem msg_from_eq (lo hi v : Int) : msg_from lo hi v = rng lo hi v := by
  unfold msg_from msg_from_k rng
  cases decide (lo ≤ v) <;> rfl
theorem ref13_num_eq (n least : Int) : ref13_num n least = rng least 1073741824 n := by
  unfold ref13_num ref13_num_k rng
  simp only [ge_iff_le]
  cases decide (least ≤ n) <;> rfl

def wantW (a : TAsk) : Bool := a.Kind == 3 || a.Kind == 4
def want (a : TAsk) : TAsk :=
  bif a.Kind == 1 then ⟨a.Kind, a.From, a.Epoch, a.Seq, a.Name, 0, 0, []⟩ else
  bif a.Kind == 2 then ⟨a.Kind, a.From, a.Epoch, a.Seq, [], a.File, a.Mode, []⟩ else
  bif wantW a then ⟨a.Kind, a.From, a.Epoch, a.Seq, [], a.File, 0, a.Writes⟩ else ⟨a.Kind, a.From, a.Epoch, a.Seq, [], a.File, 0, []⟩
def wantOk (a : TAsk) : Bool :=
  bif a.Kind == 1 then mayName a.Name else
  bif a.Kind == 2 then rng 1 6 a.File && rng 1 2 a.Mode else
  bif wantW a then decide ((a.Writes.length : Int) ≤ 5) && ((decide ((a.Writes.length : Int) > 0) || a.Kind == 4) && (rng 1 6 a.File && a.Writes.all file_May)) else rng 1 6 a.File
def mayAsk (a : TAsk) : Bool := rng 1 5 a.Kind && (rng 1 3 a.From && (rng 0 1073741824 a.Epoch && (rng 1 1073741824 a.Seq && (wantOk a && sameAsk a (want a)))))

theorem want_len (a : TAsk) : (want a).Writes.length ≤ a.Writes.length := by
  unfold want
  cases a.Kind == 1 <;> cases a.Kind == 2 <;> cases wantW a <;> simp

theorem sameAsk_comm (a b : TAsk) : sameAsk a b = sameAsk b a := by
  cases h : sameAsk b a with
  | true => exact (sameAsk_iff _ _).2 ((sameAsk_iff _ _).1 h).symm
  | false =>
    cases h2 : sameAsk a b with
    | false => rfl
    | true => rw [((sameAsk_iff _ _).1 h2).symm, sameAsk_refl] at h; cases h

/-! Tells -/
theorem tell_eqb (x y : TTell) : TTell.eqb x y = true ↔ x = y := by
  cases x; cases y
  simp [TTell.eqb]

theorem MayTell_eq (t : TTell) : msg_MayTell t = ref13_MayTell t := by
  unfold msg_MayTell msg_MayTell_k ref13_MayTell ref13_MayTell_k
  simp only [msg_from_eq, ref13_num_eq, id]
  by_cases k0 : 1 ≤ t.Kind ∧ t.Kind ≤ 3
  · obtain ⟨k1, k2⟩ := k0
    rw [decide_eq_false (show ¬ t.Kind < 1 by omega), decide_eq_false (show ¬ t.Kind > 3 by omega), rng_iff.2 ⟨k1, k2⟩]
    by_cases f0 : 1 ≤ t.To ∧ t.To ≤ 3
    · obtain ⟨f1, f2⟩ := f0
      rw [decide_eq_false (show ¬ t.To < 1 by omega), decide_eq_false (show ¬ t.To > 3 by omega), rng_iff.2 ⟨f1, f2⟩]
      have h1 : rng 1 6 t.File = (decide (t.File ≥ 1) && decide (t.File ≤ 6)) := rfl
      have h2 : rng 0 6 t.File = (decide (t.File ≥ 0) && decide (t.File ≤ 6)) := rfl
      have h3 : rng 0 2 t.Mode = (decide (t.Mode ≥ 0) && decide (t.Mode ≤ 2)) := rfl
      rw [h1, h2, h3]
      have hk : t.Kind = 1 ∨ t.Kind = 2 ∨ t.Kind = 3 := by omega
      rcases hk with hk | hk | hk <;> rw [hk] <;> simp only [Int.reduceBEq, cond_true, cond_false, Bool.not_true]
      · cases rng 0 1073741824 t.Epoch <;> cases rng 1 1073741824 t.Seq <;> cases decide (t.Err ≥ 0) <;> cases decide (t.Err ≤ 7) <;> cases decide (t.File ≥ 0) <;> cases decide (t.File ≤ 6) <;> cases decide (t.Mode ≥ 0) <;> cases decide (t.Mode ≤ 2) <;> rfl
      · cases rng 0 1073741824 t.Epoch <;> cases decide (t.File ≥ 1) <;> cases decide (t.File ≤ 6) <;> cases TTell.eqb t (TTell.mk 2 t.To t.Epoch 0 0 t.File 0 0 []) <;> rfl
    · have hf : rng 1 3 t.To = false := by
        cases h : rng 1 3 t.To with
        | false => rfl
        | true => exact absurd (rng_iff.1 h) f0
      rw [hf]
      by_cases f1 : t.To < 1
      · rw [decide_eq_true f1]; rfl
      · rw [decide_eq_false f1, decide_eq_true (show t.To > 3 by omega)]; rfl
  · have hk : rng 1 3 t.Kind = false := by
      cases h : rng 1 3 t.Kind with
      | false => rfl
      | true => exact absurd (rng_iff.1 h) k0
    rw [hk]
    by_cases k1 : t.Kind < 1
    · rw [decide_eq_true k1]; rfl
    · rw [decide_eq_false k1, decide_eq_true (show t.Kind > 3 by omega)]; rfl

end Go.Proofs.YthabbcjjecpbmaaGreat.N

set_option maxRecDepth 100000
set_option linter.unusedVariables false
namespace Go.Proofs.YthabbcjjecpbmaaGreat.N
open Go
theorem law20_begun_ok : law20_begun fuel = some true := by rw [fuel_eq]; kernel_rfl

theorem tmod_range (x : UInt8) (m : Int) (hm : 0 < m) : 0 ≤ (i8 x).tmod m ∧ (i8 x).tmod m < m := by
  have h : 0 ≤ i8 x := Int.natCast_nonneg _
  rw [Int.tmod_eq_emod_of_nonneg h]
  exact ⟨Int.emod_nonneg _ (by omega), Int.emod_lt_of_pos _ hm⟩

/-- A client none of whose files is held. -/
def calm (c : TClient) : Prop := (∀ f ∈ c.Files, f.Mode = 0) ∧ c.Files.length < 1000

theorem lapse_calm {f : TCache} (h : f.Mode = 0) (now : Int) : cache_Lapse f now = f := by
  unfold cache_Lapse cache_Lapse_k
  rw [h]
  rfl

theorem of_calm (c : TClient) (h : calm c) : client_of fuel c = some ⟨c, []⟩ := by
  have key : ∀ (r : List TCache) (i : Nat) (n : Nat), c.Files.drop i = r → i ≤ c.Files.length → r.length < n → iter (client_of_s0 (c.Files.length : Int) c) n ((i : Int), ⟨c, []⟩) = some ⟨c, []⟩ := by
    intro r
    induction r with
    | nil =>
      intro i n hd hi hn
      have : i = c.Files.length := Nat.le_antisymm hi (List.drop_eq_nil_iff.1 hd)
      subst this
      cases n with
      | zero => exact absurd hn (Nat.not_lt_zero _)
      | succ n =>
        rw [iter_succ]
        simp only [client_of_s0, client_of_s0k, ge_dec, cond_false, some_bind, alt_inr]
    | cons f r ih =>
      intro i n hd hi hn
      have hlt : i < c.Files.length := by
        rcases Nat.lt_or_ge i c.Files.length with h | h
        · exact h
        · rw [List.drop_eq_nil_iff.2 h] at hd; cases hd
      have ha : c.Files[i]? = some f := by
        have := List.getElem?_drop (xs := c.Files) (i := i) (j := 0)
        rw [hd] at this
        simpa using this.symm
      have hr : c.Files.drop (i + 1) = r := by
        have := List.drop_drop (l := c.Files) (i := 1) (j := i)
        rw [hd] at this
        simpa using this.symm
      have hs : c.Files.set i f = c.Files := by
        apply List.ext_getElem?
        intro j
        rw [List.getElem?_set]
        by_cases hj : i = j
        · subst hj; rw [if_pos rfl, if_pos hlt, ha]
        · rw [if_neg hj]
      cases n with
      | zero => exact absurd hn (Nat.not_lt_zero _)
      | succ n =>
        rw [iter_succ]
        simp only [client_of_s0, client_of_s0k, lt_dec hlt, inR_nat hlt, Int.toNat_natCast, ha, cond_true, some_bind, wi64_succ (Nat.lt_trans hlt (by have := h.2; omega)), alt_inl]
        rw [lapse_calm (h.1 f (List.mem_of_getElem? ha)), hs]
        exact ih (i + 1) n hr hlt (by simp at hn; omega)
  unfold client_of client_of_k client_of_l0
  have k0 : iter (client_of_s0 (c.Files.length : Int) c) fuel (0, ⟨c, []⟩) = some ⟨c, []⟩ := key c.Files 0 fuel rfl (Nat.zero_le _) (fuel_gt (by have := h.2; omega))
  rw [k0]
  rfl

/-- A client that waits: at the time t, having asked last at the time l. -/
def waits (c : TClient) (t l : Int) : TClient := ⟨c.ID, t, c.Epoch, c.Seq, c.Files, c.Names, ⟨c.Out.Is, c.Out.Ask, c.Out.First, l⟩, c.Bad, c.Hits, c.Asks⟩

theorem run_waits (c : TClient) (h : calm c) (hi : c.Out.Is = true) (t l : Int) (h1 : 0 ≤ l) (h2 : l ≤ t) (h3 : t ≤ 1000) :
    client_Run fuel (waits c t l) = some (if 10 ≤ t - l then (waits c t t, [c.Out.Ask]) else (waits c t l, [])) := by
  unfold client_Run client_Run_k
  rw [of_calm (waits c t l) h, some_bind]
  have e1 : (waits c t l).Out.Is = true := hi
  simp only [e1, cond_true]
  unfold sess_Due sess_Due_k
  rw [e1]
  have e2 : (waits c t l).Now - (waits c t l).Out.Last = t - l := rfl
  rw [e2, wi64_of (by omega) (by omega)]
  by_cases h10 : 10 ≤ t - l
  · rw [if_pos h10]
    simp only [cond_true, id]
    rw [decide_eq_true (show t - l ≥ 10 from h10)]
    rfl
  · rw [if_neg h10]
    simp only [cond_true, id]
    rw [decide_eq_false (show ¬ t - l ≥ 10 from h10)]
    rfl

theorem again_loop (c : TClient) (h : calm c) (hi : c.Out.Is = true) (hf : c.Out.First = 0) (hw : c.Out.Ask.Writes.length < 1000) (gaps : List UInt8) (hg : gaps.length ≤ 15) (a0 : TAns) :
    ∃ t l, 0 ≤ l ∧ l ≤ t ∧ t ≤ 300 ∧ law20_ClientAgain_l0 fuel gaps [c.Out.Ask] a0 0 0 (waits c 0 0) = some (.inr (waits c t l)) := by
  have key : ∀ (r : List UInt8) (i : Nat) (n : Nat) (t l : Int), gaps.drop i = r → i ≤ gaps.length → r.length < n → 0 ≤ l → l ≤ t → t ≤ 14 * i → ∃ t' l', 0 ≤ l' ∧ l' ≤ t' ∧ t' ≤ 300 ∧ iter (law20_ClientAgain_s0 fuel gaps [c.Out.Ask] a0) n (l, (i : Int), waits c t l) = some (.inr (waits c t' l')) := by
    intro r
    induction r with
    | nil =>
      intro i n t l hd hil hn h1 h2 h3
      have : i = gaps.length := Nat.le_antisymm hil (List.drop_eq_nil_iff.1 hd)
      subst this
      cases n with
      | zero => exact absurd hn (Nat.not_lt_zero _)
      | succ n =>
        refine ⟨t, l, h1, h2, by omega, ?_⟩
        rw [iter_succ]
        simp only [law20_ClientAgain_s0, law20_ClientAgain_s0k, ge_dec, cond_false, some_bind, alt_inr]
    | cons y r ih =>
      intro i n t l hd hil hn h1 h2 h3
      have hlt : i < gaps.length := by
        rcases Nat.lt_or_ge i gaps.length with h | h
        · exact h
        · rw [List.drop_eq_nil_iff.2 h] at hd; cases hd
      have ha : gaps[i]? = some y := by
        have := List.getElem?_drop (xs := gaps) (i := i) (j := 0)
        rw [hd] at this
        simpa using this.symm
      have hr : gaps.drop (i + 1) = r := by
        have := List.drop_drop (l := gaps) (i := 1) (j := i)
        rw [hd] at this
        simpa using this.symm
      cases n with
      | zero => exact absurd hn (Nat.not_lt_zero _)
      | succ n =>
        obtain ⟨g1, g2⟩ := tmod_range y 15 (by omega)
        obtain ⟨g, hgg⟩ : ∃ g, (i8 y).tmod 15 = g := ⟨_, rfl⟩
        rw [hgg] at g1 g2
        have e8 : wi64 (i8 (b8 g)) = g := by rw [i8_b8 g1 (by omega), wi64_of (by omega) (by omega)]
        have en : (waits c t l).Now = t := rfl
        have et : wi64 (t + g) = t + g := wi64_of (by omega) (by omega)
        have ed : wi64 (t + g - l) = t + g - l := wi64_of (by omega) (by omega)
        have ew : TClient.mk (waits c t l).ID (t + g) (waits c t l).Epoch (waits c t l).Seq (waits c t l).Files (waits c t l).Names (waits c t l).Out (waits c t l).Bad (waits c t l).Hits (waits c t l).Asks = waits c (t + g) l := rfl
        rw [iter_succ]
        simp only [law20_ClientAgain_s0, law20_ClientAgain_s0k, lt_dec hlt, inR_nat hlt, Int.toNat_natCast, ha, cond_true, some_bind, hgg, e8, en, et, ed, ew]
        rw [run_waits c h hi (t + g) l h1 (by omega) (by omega), some_bind, wi64_succ (by omega)]
        have es : (waits c t l).Seq = c.Seq := rfl
        by_cases h10 : 10 ≤ t + g - l
        · rw [if_pos h10, decide_eq_true (show t + g - l ≥ 10 from h10)]
          have d1 : ((([c.Out.Ask].length : Nat) : Int) == 1) = true := rfl
          have d2 : decide ((([c.Out.Ask].length : Nat) : Int) > 1) = false := rfl
          have d3 : inR 0 [c.Out.Ask].length = true := rfl
          have d4 : [c.Out.Ask][0]? = some c.Out.Ask := rfl
          have d5 : ((waits c (t + g) (t + g)).Seq != c.Seq) = false := by show (c.Seq != c.Seq) = false; rw [bne_self_eq_false]
          have d6 : ((waits c (t + g) (t + g)).Out.First != 0) = false := by show (c.Out.First != 0) = false; rw [hf]; rfl
          simp only [d1, d2, d3, d4, es, d5, d6, cond_true, cond_false, beq_self_eq_true, Bool.not_true, some_bind]
          rw [ref13_SameAsk_ok _ _ (by omega), some_bind, sameAsk_refl]
          simp only [Bool.not_true, cond_false, some_bind, alt_inl]
          exact ih (i + 1) n (t + g) (t + g) hr hlt (by simp at hn; omega) (by omega) (by omega) (by omega)
        · rw [if_neg h10, decide_eq_false (show ¬ t + g - l ≥ 10 from h10)]
          have d1 : ((([] : List TAsk).length : Int) == 1) = false := rfl
          have d2 : decide ((([] : List TAsk).length : Int) > 1) = false := rfl
          have d5 : ((waits c (t + g) l).Seq != c.Seq) = false := by show (c.Seq != c.Seq) = false; rw [bne_self_eq_false]
          have d6 : ((waits c (t + g) l).Out.First != 0) = false := by show (c.Out.First != 0) = false; rw [hf]; rfl
          simp only [d1, d2, es, d5, d6, cond_false, beq_self_eq_true, Bool.not_true, some_bind, alt_inl]
          exact ih (i + 1) n (t + g) l hr hlt (by simp at hn; omega) (by omega) (by omega) (by omega)
  obtain ⟨t, l, h1, h2, h3, h4⟩ := key gaps 0 fuel 0 0 rfl (Nat.zero_le _) (fuel_gt (by omega)) (Int.le_refl _) (Int.le_refl _) (by omega)
  exact ⟨t, l, h1, h2, h3, h4⟩

/-- Behind the first step. -/
noncomputable def rest (gaps : List UInt8) (r_3 : TClient × TAns × List TAsk) : Option Bool :=
  bif ((r_3.2.2.length : Int) != 1) then some false
  else ((law20_ClientAgain_l0 fuel gaps r_3.2.2 r_3.2.1 0 0 r_3.1)).bind fun r_4 =>
    alt r_4 (fun a_5 => some false) (fun b_6 =>
      bif (inR 0 r_3.2.2.length) then (((r_3.2.2[0]?)).bind fun y_7 =>
        ((ref13_PutTell fuel (TTell.mk 1 3 0 y_7.Seq 2 0 0 0 []))).bind fun r_8 =>
        ((client_Comes fuel b_6 r_8)).bind fun r_9 =>
        ((client_Run fuel (TClient.mk r_9.1.ID (wi64 (r_9.1.Now + 50)) r_9.1.Epoch r_9.1.Seq r_9.1.Files r_9.1.Names r_9.1.Out r_9.1.Bad r_9.1.Hits r_9.1.Asks))).bind fun r_10 =>
        bif ((wi64 ((r_9.2.length : Int) + (r_10.2.length : Int))) == 0) then some (!r_10.1.Out.Is)
        else some false)
      else none)

/-- What is told of the client behind the loop. -/
noncomputable def last (n : Nat) (c : TClient) (q : Int) : Option Bool :=
  (ref13_PutTell n (TTell.mk 1 3 0 q 2 0 0 0 [])).bind fun r_8 =>
  (client_Comes n c r_8).bind fun r_9 =>
  (client_Run n (TClient.mk r_9.1.ID (wi64 (r_9.1.Now + 50)) r_9.1.Epoch r_9.1.Seq r_9.1.Files r_9.1.Names r_9.1.Out r_9.1.Bad r_9.1.Hits r_9.1.Asks)).bind fun r_10 =>
  bif ((wi64 ((r_9.2.length : Int) + (r_10.2.length : Int))) == 0) then some (!r_10.1.Out.Is) else some false

theorem law_eq (f kind : UInt8) (gaps : List UInt8) : law20_ClientAgain fuel f kind gaps = (law20_begun fuel).bind fun r_1 =>
    bif (!r_1) then some false else bif (decide ((gaps.length : Int) > 15)) then some true
    else bif (inR (i8 (b8 ((i8 kind).tmod 4))) 4) then ((([4, 5, 3, 8][(i8 (b8 ((i8 kind).tmod 4))).toNat]?)).bind fun y_2 =>
      (client_Do fuel (client_New 3) (TStep.mk y_2 3 0 (wi64 (1 + (wi64 (i8 (b8 ((i8 f).tmod 6)))))) 0 0 0 [116] [])).bind (rest gaps)) else none := rfl

theorem rest_ok (gaps : List UInt8) (hg : gaps.length ≤ 15) (D : Option (TClient × TAns × List TAsk)) (c : TClient) (a0 : TAns) (hD : D = some (waits c 0 0, a0, [c.Out.Ask])) (h : calm c) (hi : c.Out.Is = true) (hf : c.Out.First = 0) (hw : c.Out.Ask.Writes.length < 1000)
    (hl : ∀ t l, last fuel (waits c t l) c.Out.Ask.Seq = some true) : D.bind (rest gaps) = some true := by
  subst hD
  obtain ⟨t, l, h1, h2, h3, h4⟩ := again_loop c h hi hf hw gaps hg a0
  show rest gaps (waits c 0 0, a0, [c.Out.Ask]) = some true
  unfold rest
  have d1 : ((([c.Out.Ask].length : Nat) : Int) != 1) = false := rfl
  have d3 : inR 0 [c.Out.Ask].length = true := rfl
  have d4 : [c.Out.Ask][0]? = some c.Out.Ask := rfl
  simp only [d1, d3, d4, cond_true, cond_false, h4, some_bind, alt_inr]
  exact hl t l

/-- The client behind its first step. -/
noncomputable def first (k j : Int) : TClient := ((client_Do 4294967296 (client_New 3) (TStep.mk k 3 0 j 0 0 0 [116] [])).getD (client_New 3, ⟨0, 0, []⟩, [])).1

theorem at_case (f kind : UInt8) (gaps : List UInt8) (k j : Int) (v : Int) (hk : (i8 kind).tmod 4 = k) (hj : (i8 f).tmod 6 = j) (c : TClient) (a0 : TAns)
    (e1 : inR (i8 (b8 k)) 4 = true) (e2 : [4, 5, 3, 8][(i8 (b8 k)).toNat]? = some v) (e3 : wi64 (1 + (wi64 (i8 (b8 j)))) = 1 + j)
    (hD : client_Do fuel (client_New 3) (TStep.mk v 3 0 (1 + j) 0 0 0 [116] []) = some (waits c 0 0, a0, [c.Out.Ask])) (h : calm c) (hi : c.Out.Is = true) (hf : c.Out.First = 0) (hw : c.Out.Ask.Writes.length < 1000)
    (hl : ∀ t l, last fuel (waits c t l) c.Out.Ask.Seq = some true) : law20_ClientAgain fuel f kind gaps = some true := by
  rw [law_eq, law20_begun_ok, some_bind]
  simp only [Bool.not_true, cond_false]
  by_cases hg : (gaps.length : Int) > 15
  · rw [decide_eq_true hg]; rfl
  · rw [decide_eq_false hg, hk, hj, e1, e2, e3]
    simp only [cond_false, cond_true, some_bind]
    exact rest_ok gaps (by omega) _ c a0 hD h hi hf hw hl
theorem calm_of {c : TClient} (h : c.Files.all (fun f => f.Mode == 0) = true) (h2 : decide (c.Files.length < 1000) = true) : calm c := by
  refine ⟨fun f hf => ?_, of_decide_eq_true h2⟩
  rw [List.all_eq_true] at h
  exact eq_of_beq (h f hf)
theorem case_0_0 (f kind : UInt8) (gaps : List UInt8) (hk : (i8 kind).tmod 4 = 0) (hj : (i8 f).tmod 6 = 0) : law20_ClientAgain fuel f kind gaps = some true :=
  at_case f kind gaps 0 0 4 hk hj (first 4 1) ⟨5, 0, []⟩ (by kernel_rfl) (by kernel_rfl) (by kernel_rfl) (by rw [fuel_eq]; kernel_rfl) (calm_of (by kernel_rfl) (by kernel_rfl)) (by kernel_rfl) (by kernel_rfl) (of_decide_eq_true (by kernel_rfl)) (fun t l => by rw [fuel_eq]; kernel_rfl)
theorem case_0_1 (f kind : UInt8) (gaps : List UInt8) (hk : (i8 kind).tmod 4 = 0) (hj : (i8 f).tmod 6 = 1) : law20_ClientAgain fuel f kind gaps = some true :=
  at_case f kind gaps 0 1 4 hk hj (first 4 2) ⟨5, 0, []⟩ (by kernel_rfl) (by kernel_rfl) (by kernel_rfl) (by rw [fuel_eq]; kernel_rfl) (calm_of (by kernel_rfl) (by kernel_rfl)) (by kernel_rfl) (by kernel_rfl) (of_decide_eq_true (by kernel_rfl)) (fun t l => by rw [fuel_eq]; kernel_rfl)
theorem case_0_2 (f kind : UInt8) (gaps : List UInt8) (hk : (i8 kind).tmod 4 = 0) (hj : (i8 f).tmod 6 = 2) : law20_ClientAgain fuel f kind gaps = some true :=
  at_case f kind gaps 0 2 4 hk hj (first 4 3) ⟨5, 0, []⟩ (by kernel_rfl) (by kernel_rfl) (by kernel_rfl) (by rw [fuel_eq]; kernel_rfl) (calm_of (by kernel_rfl) (by kernel_rfl)) (by kernel_rfl) (by kernel_rfl) (of_decide_eq_true (by kernel_rfl)) (fun t l => by rw [fuel_eq]; kernel_rfl)
theorem case_0_3 (f kind : UInt8) (gaps : List UInt8) (hk : (i8 kind).tmod 4 = 0) (hj : (i8 f).tmod 6 = 3) : law20_ClientAgain fuel f kind gaps = some true :=
  at_case f kind gaps 0 3 4 hk hj (first 4 4) ⟨5, 0, []⟩ (by kernel_rfl) (by kernel_rfl) (by kernel_rfl) (by rw [fuel_eq]; kernel_rfl) (calm_of (by kernel_rfl) (by kernel_rfl)) (by kernel_rfl) (by kernel_rfl) (of_decide_eq_true (by kernel_rfl)) (fun t l => by rw [fuel_eq]; kernel_rfl)
theorem case_0_4 (f kind : UInt8) (gaps : List UInt8) (hk : (i8 kind).tmod 4 = 0) (hj : (i8 f).tmod 6 = 4) : law20_ClientAgain fuel f kind gaps = some true :=
  at_case f kind gaps 0 4 4 hk hj (first 4 5) ⟨5, 0, []⟩ (by kernel_rfl) (by kernel_rfl) (by kernel_rfl) (by rw [fuel_eq]; kernel_rfl) (calm_of (by kernel_rfl) (by kernel_rfl)) (by kernel_rfl) (by kernel_rfl) (of_decide_eq_true (by kernel_rfl)) (fun t l => by rw [fuel_eq]; kernel_rfl)
theorem case_0_5 (f kind : UInt8) (gaps : List UInt8) (hk : (i8 kind).tmod 4 = 0) (hj : (i8 f).tmod 6 = 5) : law20_ClientAgain fuel f kind gaps = some true :=
  at_case f kind gaps 0 5 4 hk hj (first 4 6) ⟨5, 0, []⟩ (by kernel_rfl) (by kernel_rfl) (by kernel_rfl) (by rw [fuel_eq]; kernel_rfl) (calm_of (by kernel_rfl) (by kernel_rfl)) (by kernel_rfl) (by kernel_rfl) (of_decide_eq_true (by kernel_rfl)) (fun t l => by rw [fuel_eq]; kernel_rfl)
theorem case_1_0 (f kind : UInt8) (gaps : List UInt8) (hk : (i8 kind).tmod 4 = 1) (hj : (i8 f).tmod 6 = 0) : law20_ClientAgain fuel f kind gaps = some true :=
  at_case f kind gaps 1 0 5 hk hj (first 5 1) ⟨5, 0, []⟩ (by kernel_rfl) (by kernel_rfl) (by kernel_rfl) (by rw [fuel_eq]; kernel_rfl) (calm_of (by kernel_rfl) (by kernel_rfl)) (by kernel_rfl) (by kernel_rfl) (of_decide_eq_true (by kernel_rfl)) (fun t l => by rw [fuel_eq]; kernel_rfl)
theorem case_1_1 (f kind : UInt8) (gaps : List UInt8) (hk : (i8 kind).tmod 4 = 1) (hj : (i8 f).tmod 6 = 1) : law20_ClientAgain fuel f kind gaps = some true :=
  at_case f kind gaps 1 1 5 hk hj (first 5 2) ⟨5, 0, []⟩ (by kernel_rfl) (by kernel_rfl) (by kernel_rfl) (by rw [fuel_eq]; kernel_rfl) (calm_of (by kernel_rfl) (by kernel_rfl)) (by kernel_rfl) (by kernel_rfl) (of_decide_eq_true (by kernel_rfl)) (fun t l => by rw [fuel_eq]; kernel_rfl)
theorem case_1_2 (f kind : UInt8) (gaps : List UInt8) (hk : (i8 kind).tmod 4 = 1) (hj : (i8 f).tmod 6 = 2) : law20_ClientAgain fuel f kind gaps = some true :=
  at_case f kind gaps 1 2 5 hk hj (first 5 3) ⟨5, 0, []⟩ (by kernel_rfl) (by kernel_rfl) (by kernel_rfl) (by rw [fuel_eq]; kernel_rfl) (calm_of (by kernel_rfl) (by kernel_rfl)) (by kernel_rfl) (by kernel_rfl) (of_decide_eq_true (by kernel_rfl)) (fun t l => by rw [fuel_eq]; kernel_rfl)
theorem case_1_3 (f kind : UInt8) (gaps : List UInt8) (hk : (i8 kind).tmod 4 = 1) (hj : (i8 f).tmod 6 = 3) : law20_ClientAgain fuel f kind gaps = some true :=
  at_case f kind gaps 1 3 5 hk hj (first 5 4) ⟨5, 0, []⟩ (by kernel_rfl) (by kernel_rfl) (by kernel_rfl) (by rw [fuel_eq]; kernel_rfl) (calm_of (by kernel_rfl) (by kernel_rfl)) (by kernel_rfl) (by kernel_rfl) (of_decide_eq_true (by kernel_rfl)) (fun t l => by rw [fuel_eq]; kernel_rfl)
theorem case_1_4 (f kind : UInt8) (gaps : List UInt8) (hk : (i8 kind).tmod 4 = 1) (hj : (i8 f).tmod 6 = 4) : law20_ClientAgain fuel f kind gaps = some true :=
  at_case f kind gaps 1 4 5 hk hj (first 5 5) ⟨5, 0, []⟩ (by kernel_rfl) (by kernel_rfl) (by kernel_rfl) (by rw [fuel_eq]; kernel_rfl) (calm_of (by kernel_rfl) (by kernel_rfl)) (by kernel_rfl) (by kernel_rfl) (of_decide_eq_true (by kernel_rfl)) (fun t l => by rw [fuel_eq]; kernel_rfl)
theorem case_1_5 (f kind : UInt8) (gaps : List UInt8) (hk : (i8 kind).tmod 4 = 1) (hj : (i8 f).tmod 6 = 5) : law20_ClientAgain fuel f kind gaps = some true :=
  at_case f kind gaps 1 5 5 hk hj (first 5 6) ⟨5, 0, []⟩ (by kernel_rfl) (by kernel_rfl) (by kernel_rfl) (by rw [fuel_eq]; kernel_rfl) (calm_of (by kernel_rfl) (by kernel_rfl)) (by kernel_rfl) (by kernel_rfl) (of_decide_eq_true (by kernel_rfl)) (fun t l => by rw [fuel_eq]; kernel_rfl)
theorem case_2_0 (f kind : UInt8) (gaps : List UInt8) (hk : (i8 kind).tmod 4 = 2) (hj : (i8 f).tmod 6 = 0) : law20_ClientAgain fuel f kind gaps = some true :=
  at_case f kind gaps 2 0 3 hk hj (first 3 1) ⟨5, 0, []⟩ (by kernel_rfl) (by kernel_rfl) (by kernel_rfl) (by rw [fuel_eq]; kernel_rfl) (calm_of (by kernel_rfl) (by kernel_rfl)) (by kernel_rfl) (by kernel_rfl) (of_decide_eq_true (by kernel_rfl)) (fun t l => by rw [fuel_eq]; kernel_rfl)
theorem case_2_1 (f kind : UInt8) (gaps : List UInt8) (hk : (i8 kind).tmod 4 = 2) (hj : (i8 f).tmod 6 = 1) : law20_ClientAgain fuel f kind gaps = some true :=
  at_case f kind gaps 2 1 3 hk hj (first 3 2) ⟨5, 0, []⟩ (by kernel_rfl) (by kernel_rfl) (by kernel_rfl) (by rw [fuel_eq]; kernel_rfl) (calm_of (by kernel_rfl) (by kernel_rfl)) (by kernel_rfl) (by kernel_rfl) (of_decide_eq_true (by kernel_rfl)) (fun t l => by rw [fuel_eq]; kernel_rfl)
theorem case_2_2 (f kind : UInt8) (gaps : List UInt8) (hk : (i8 kind).tmod 4 = 2) (hj : (i8 f).tmod 6 = 2) : law20_ClientAgain fuel f kind gaps = some true :=
  at_case f kind gaps 2 2 3 hk hj (first 3 3) ⟨5, 0, []⟩ (by kernel_rfl) (by kernel_rfl) (by kernel_rfl) (by rw [fuel_eq]; kernel_rfl) (calm_of (by kernel_rfl) (by kernel_rfl)) (by kernel_rfl) (by kernel_rfl) (of_decide_eq_true (by kernel_rfl)) (fun t l => by rw [fuel_eq]; kernel_rfl)
theorem case_2_3 (f kind : UInt8) (gaps : List UInt8) (hk : (i8 kind).tmod 4 = 2) (hj : (i8 f).tmod 6 = 3) : law20_ClientAgain fuel f kind gaps = some true :=
  at_case f kind gaps 2 3 3 hk hj (first 3 4) ⟨5, 0, []⟩ (by kernel_rfl) (by kernel_rfl) (by kernel_rfl) (by rw [fuel_eq]; kernel_rfl) (calm_of (by kernel_rfl) (by kernel_rfl)) (by kernel_rfl) (by kernel_rfl) (of_decide_eq_true (by kernel_rfl)) (fun t l => by rw [fuel_eq]; kernel_rfl)
theorem case_2_4 (f kind : UInt8) (gaps : List UInt8) (hk : (i8 kind).tmod 4 = 2) (hj : (i8 f).tmod 6 = 4) : law20_ClientAgain fuel f kind gaps = some true :=
  at_case f kind gaps 2 4 3 hk hj (first 3 5) ⟨5, 0, []⟩ (by kernel_rfl) (by kernel_rfl) (by kernel_rfl) (by rw [fuel_eq]; kernel_rfl) (calm_of (by kernel_rfl) (by kernel_rfl)) (by kernel_rfl) (by kernel_rfl) (of_decide_eq_true (by kernel_rfl)) (fun t l => by rw [fuel_eq]; kernel_rfl)
theorem case_2_5 (f kind : UInt8) (gaps : List UInt8) (hk : (i8 kind).tmod 4 = 2) (hj : (i8 f).tmod 6 = 5) : law20_ClientAgain fuel f kind gaps = some true :=
  at_case f kind gaps 2 5 3 hk hj (first 3 6) ⟨5, 0, []⟩ (by kernel_rfl) (by kernel_rfl) (by kernel_rfl) (by rw [fuel_eq]; kernel_rfl) (calm_of (by kernel_rfl) (by kernel_rfl)) (by kernel_rfl) (by kernel_rfl) (of_decide_eq_true (by kernel_rfl)) (fun t l => by rw [fuel_eq]; kernel_rfl)
theorem case_3_0 (f kind : UInt8) (gaps : List UInt8) (hk : (i8 kind).tmod 4 = 3) (hj : (i8 f).tmod 6 = 0) : law20_ClientAgain fuel f kind gaps = some true :=
  at_case f kind gaps 3 0 8 hk hj (first 8 1) ⟨5, 0, []⟩ (by kernel_rfl) (by kernel_rfl) (by kernel_rfl) (by rw [fuel_eq]; kernel_rfl) (calm_of (by kernel_rfl) (by kernel_rfl)) (by kernel_rfl) (by kernel_rfl) (of_decide_eq_true (by kernel_rfl)) (fun t l => by rw [fuel_eq]; kernel_rfl)
theorem case_3_1 (f kind : UInt8) (gaps : List UInt8) (hk : (i8 kind).tmod 4 = 3) (hj : (i8 f).tmod 6 = 1) : law20_ClientAgain fuel f kind gaps = some true :=
  at_case f kind gaps 3 1 8 hk hj (first 8 2) ⟨5, 0, []⟩ (by kernel_rfl) (by kernel_rfl) (by kernel_rfl) (by rw [fuel_eq]; kernel_rfl) (calm_of (by kernel_rfl) (by kernel_rfl)) (by kernel_rfl) (by kernel_rfl) (of_decide_eq_true (by kernel_rfl)) (fun t l => by rw [fuel_eq]; kernel_rfl)
theorem case_3_2 (f kind : UInt8) (gaps : List UInt8) (hk : (i8 kind).tmod 4 = 3) (hj : (i8 f).tmod 6 = 2) : law20_ClientAgain fuel f kind gaps = some true :=
  at_case f kind gaps 3 2 8 hk hj (first 8 3) ⟨5, 0, []⟩ (by kernel_rfl) (by kernel_rfl) (by kernel_rfl) (by rw [fuel_eq]; kernel_rfl) (calm_of (by kernel_rfl) (by kernel_rfl)) (by kernel_rfl) (by kernel_rfl) (of_decide_eq_true (by kernel_rfl)) (fun t l => by rw [fuel_eq]; kernel_rfl)
theorem case_3_3 (f kind : UInt8) (gaps : List UInt8) (hk : (i8 kind).tmod 4 = 3) (hj : (i8 f).tmod 6 = 3) : law20_ClientAgain fuel f kind gaps = some true :=
  at_case f kind gaps 3 3 8 hk hj (first 8 4) ⟨5, 0, []⟩ (by kernel_rfl) (by kernel_rfl) (by kernel_rfl) (by rw [fuel_eq]; kernel_rfl) (calm_of (by kernel_rfl) (by kernel_rfl)) (by kernel_rfl) (by kernel_rfl) (of_decide_eq_true (by kernel_rfl)) (fun t l => by rw [fuel_eq]; kernel_rfl)
theorem case_3_4 (f kind : UInt8) (gaps : List UInt8) (hk : (i8 kind).tmod 4 = 3) (hj : (i8 f).tmod 6 = 4) : law20_ClientAgain fuel f kind gaps = some true :=
  at_case f kind gaps 3 4 8 hk hj (first 8 5) ⟨5, 0, []⟩ (by kernel_rfl) (by kernel_rfl) (by kernel_rfl) (by rw [fuel_eq]; kernel_rfl) (calm_of (by kernel_rfl) (by kernel_rfl)) (by kernel_rfl) (by kernel_rfl) (of_decide_eq_true (by kernel_rfl)) (fun t l => by rw [fuel_eq]; kernel_rfl)
theorem case_3_5 (f kind : UInt8) (gaps : List UInt8) (hk : (i8 kind).tmod 4 = 3) (hj : (i8 f).tmod 6 = 5) : law20_ClientAgain fuel f kind gaps = some true :=
  at_case f kind gaps 3 5 8 hk hj (first 8 6) ⟨5, 0, []⟩ (by kernel_rfl) (by kernel_rfl) (by kernel_rfl) (by rw [fuel_eq]; kernel_rfl) (calm_of (by kernel_rfl) (by kernel_rfl)) (by kernel_rfl) (by kernel_rfl) (of_decide_eq_true (by kernel_rfl)) (fun t l => by rw [fuel_eq]; kernel_rfl)
theorem law20_ClientAgain_ok (f kind : UInt8) (gaps : List UInt8) (hg : gaps.length ≤ 1048576) : law20_ClientAgain fuel f kind gaps = some true := by
  obtain ⟨a, b⟩ := tmod_range f 6 (by omega)
  obtain ⟨c, d⟩ := tmod_range kind 4 (by omega)
  have hj : (i8 f).tmod 6 = 0 ∨ (i8 f).tmod 6 = 1 ∨ (i8 f).tmod 6 = 2 ∨ (i8 f).tmod 6 = 3 ∨ (i8 f).tmod 6 = 4 ∨ (i8 f).tmod 6 = 5 := by omega
  have hk : (i8 kind).tmod 4 = 0 ∨ (i8 kind).tmod 4 = 1 ∨ (i8 kind).tmod 4 = 2 ∨ (i8 kind).tmod 4 = 3 := by omega
  rcases hk with hk | hk | hk | hk
  · rcases hj with hj | hj | hj | hj | hj | hj
    · exact case_0_0 f kind gaps hk hj
    · exact case_0_1 f kind gaps hk hj
    · exact case_0_2 f kind gaps hk hj
    · exact case_0_3 f kind gaps hk hj
    · exact case_0_4 f kind gaps hk hj
    · exact case_0_5 f kind gaps hk hj
  · rcases hj with hj | hj | hj | hj | hj | hj
    · exact case_1_0 f kind gaps hk hj
    · exact case_1_1 f kind gaps hk hj
    · exact case_1_2 f kind gaps hk hj
    · exact case_1_3 f kind gaps hk hj
    · exact case_1_4 f kind gaps hk hj
    · exact case_1_5 f kind gaps hk hj
  · rcases hj with hj | hj | hj | hj | hj | hj
    · exact case_2_0 f kind gaps hk hj
    · exact case_2_1 f kind gaps hk hj
    · exact case_2_2 f kind gaps hk hj
    · exact case_2_3 f kind gaps hk hj
    · exact case_2_4 f kind gaps hk hj
    · exact case_2_5 f kind gaps hk hj
  · rcases hj with hj | hj | hj | hj | hj | hj
    · exact case_3_0 f kind gaps hk hj
    · exact case_3_1 f kind gaps hk hj
    · exact case_3_2 f kind gaps hk hj
    · exact case_3_3 f kind gaps hk hj
    · exact case_3_4 f kind gaps hk hj
    · exact case_3_5 f kind gaps hk hj
end Go.Proofs.YthabbcjjecpbmaaGreat.N

set_option linter.unusedVariables false
set_option maxRecDepth 100000
namespace Go.Proofs.YthabbcjjecpbmaaGreat
open Go Go.ChangeShapes Go.WideShapes Go.ChangeAt Go.RowKit
namespace Q5
open Go.Proofs.YthabbcjjecpbmaaGreat.D Go.Proofs.YthabbcjjecpbmaaGreat.Z

theorem law (xs : List (DVal E.T)) (h : ArgsOk E 1048576 [(.int .u8), (.int .u8), (.slice (.int .u8))] xs) : (B5 xs []).get = some (.ret [.val .bool true], []) := by
  match xs, h with
  | [_, _, _], .cons _ _ x0 _ h0 (.cons _ _ x1 _ h1 (.cons _ _ x2 _ h2 .nil)) => exact (F5 x0 x1 x2).trans ((N.law20_ClientAgain_bind N.fuel _ x0 x1 x2).trans (by rw [N.law20_ClientAgain_ok x0 x1 x2 (h2 12).1]; rfl))

theorem contract (H : Type) (enc : TypeId × Value → H) (W : World) (base : Nat) (args : Array Value) (ds gs : List (DataW H)) (before : List MemPlace)
    (hval : ∀ (j : Nat) t v, Tryz.f5.params[j]? = some t → args[j]? = some v → Value.okWide Tryz.prog W .any base t v)
    (hW : DataW.Whole enc Tryz.prog Tryz.f5.params.toList Rows.clientAgainSpec.vars false W args.toList ds gs before) (hk : ∀ d ∈ ds, Rows.uptoBulk d ≤ 1048576) :
    Calls Tryz.prog 5 args W fun e W' => ∃ v, e = .returned v ∧ Rows.clientAgainSpec.post enc Tryz.prog Tryz.f5 false true false false W args v W' :=
  law_contract sound tl laid full meas bl (fn := Tryz.f5) (tb := 4) rfl Tryz.underlying4 (ps := [(.int .u8), (.int .u8), (.slice (.int .u8))]) rfl
    (by
      have h : (Tryz.f5.params.toList.all fun t => Tryz.prog.readableRec t && decide (t < Tryz.prog.types.size)) = true := by kernel_rfl
      intro t ht
      have := List.all_eq_true.1 h t ht
      simpa using this) rfl
    (fun ds hd => by
      match ds, hd with
      | [x0, x1, x2], _ => rfl)
    B5_ok law W base args ds gs before hval hW hk

theorem lifted (os : Os) (started : os.Started) (H : Type) (enc : TypeId × Value → H) (F : Stop.Interp) :
    ReturnsInHanded {} Tryz.checked os 5 .any ((Rows.OpenSpec.upto Rows.clientAgainSpec).pre6 enc Tryz.prog Tryz.f5 Rows.clientAgainUptoRow.domain false) (((Rows.OpenSpec.upto Rows.clientAgainSpec).at F).post enc Tryz.prog Tryz.f5 false true false false) := by
  refine returnsInHanded_of_cond (C := Tryz.checked) (s := Rows.OpenSpec.upto Rows.clientAgainSpec) (k := Rows.uptoSmall) rfl own started (by kernel_rfl) Tryz.func5
    (OpenSpec.witness (enc := enc) (C := Tryz.checked) (s := Rows.OpenSpec.upto Rows.clientAgainSpec) (k := Rows.uptoSmall) rfl false ⟨#[], #[.int .u8 0, .int .u8 0, .slice none 0 0], []⟩ 8 (by kernel_rfl) (by kernel_rfl) (by kernel_rfl)
      (x := ([.lit (.int .u8 0), .lit (.int .u8 0), .nil], [], [])) (by kernel_rfl) rfl (by kernel_rfl)) ?_
  intro W base args ds gs before hval hW _ hk _
  have hgs : gs = [] := by
    obtain ⟨p, q, hA, hV, _⟩ := hW
    cases gs with
    | nil => rfl
    | cons g gs => exact hV.elim
  subst hgs
  exact contract H enc W base args ds [] before hval hW (small hk)

theorem over : Rows.clientAgainUptoRow.holds Tryz.pinned (Rows.OpenSpec.upto Rows.clientAgainSpec) :=
  OpenClaim.holds_of_cond 5 Tryz.f5 rfl rfl rfl rfl rfl rfl rfl ⟨rfl, rfl, rfl, rfl, rfl⟩ rfl rfl rfl rfl rfl (by kernel_rfl) Tryz.func5 (by kernel_rfl)
    (of_decide_eq_true (by kernel_rfl)) (by unfold Func.isWrapper; first | (rw [if_pos (by decide +kernel)]; kernel_rfl) | (rw [if_neg (by decide +kernel)]; exact ⟨rfl, rfl⟩))
    (fun os started H enc _ F => lifted os started H enc F)
end Q5
theorem clientAgain_holds : Rows.ClientAgainUptoSaid := Q5.over
end Go.Proofs.YthabbcjjecpbmaaGreat

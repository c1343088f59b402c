/- Proved: ClientGives answers true at all arguments of bounded bulk. No condition beyond the statement's. (This text joins: The seat's functions, and the nice ones (5). Loops and whole numbers of the nice functions. Plain words for this seat (1). Plain words for this seat (2). The plain law of ClientGives.) -/
import Derived.Test.YthabbcjjecpbmaaGreatSeat6
import Derived.Test.YthabbcjjecpbmaaGreatBase5
import Derived.Laws.BitsLemmas
import Derived.Test.YthabbcjjecpbmaaGreatSeat2
import Derived.KernelRfl
import Derived.Test.YthabbcjjecpbmaaGreatSeat1
set_option linter.unusedVariables false
set_option maxRecDepth 100000
namespace Go.Proofs.YthabbcjjecpbmaaGreat.Z
open Go Go.Proofs.YthabbcjjecpbmaaGreat.D

/-! tenancy/tenancyref19.SameClient -/
noncomputable def S21 : List (Nat × D.Spec E) := [P15, P58, P59]
theorem S21_ok : AllS Tryz.prog E S21 := ⟨p15, p58, p59, trivial⟩
abbrev h21_s0 (a : N.TClient) (b : N.TClient) (i : Int) : Fr E.T := ofSlots E 123 [] [2, 3, 5] [.ptr 0 [], .ptr 1 [], .val (.int .i64) i]
abbrev t21_s0 (a : N.TClient) (b : N.TClient) (i : Int) : St E.T := [.box false (.val (.named 4) a), .box false (.val (.named 4) b)]
def x21_s0 (a : N.TClient) (b : N.TClient) (x_ : Unit ⊕ Unit) : Tree (CodeOut E) := altT x_ (fun u0_ => .ret (.ret, ofSlots E 123 [] [2, 3, 4] [.ptr 0 [], .ptr 1 [], .val .bool false], [.box false (.val (.named 4) a), .box false (.val (.named 4) b)])) (fun w0_ => .ret (.exit 0, ofSlots E 123 [] [2, 3, 4] [.ptr 0 [], .ptr 1 [], .undef], [.box false (.val (.named 4) a), .box false (.val (.named 4) b)]))
noncomputable def g21_s0 : Ins E (CodeOut E) := ⟨[.ptr 0 [], .ptr 1 [], .v (.int .i64)], [.box false (.v (.named 4)), .box false (.v (.named 4))], fun i a b => .opt (N.ref19_SameClient_l0 N.fuel a b i) (x21_s0 a b)⟩
noncomputable def L21 : Nat → LoopInfo E := clL E 123 [{ ks := [2, 3, 5], mvs := [], pro := [], d := [], g := some (insF [g21_s0]) }] []
theorem f21_s0 (a : N.TClient) (b : N.TClient) (i : Int) : ((stepOf E S21 L21 0 0 Tryz.f21 (h21_s0 a b i) (t21_s0 a b i)).bind (nx E [2, 3, 5] [] [2, 3, 4] 2)).get = N.ref19_SameClient_s0k N.fuel a b (fun v_ => some (.inl (h21_s0 a b v_, t21_s0 a b v_))) (fun x_ => some (.inr (.ret, ofSlots E 123 [] [2, 3, 4] [.ptr 0 [], .ptr 1 [], .val .bool false], [.box false (.val (.named 4) a), .box false (.val (.named 4) b)]))) (fun x_ => some (.inr (.exit 0, ofSlots E 123 [] [2, 3, 4] [.ptr 0 [], .ptr 1 [], .undef], [.box false (.val (.named 4) a), .box false (.val (.named 4) b)]))) i := by kernel_rfl
theorem q21_s0 : InsLp 123 [2, 3, 5] [] [] (stepOf E S21 L21 0 0 Tryz.f21) g21_s0 := by
  intro i a b out_ ho_
  obtain ⟨x_, h1_, h2_⟩ := Option.bind_eq_some_iff.1 ho_
  refine iter_loop (rs := [2, 3, 4]) (step := N.ref19_SameClient_s0 N.fuel a b) (hd := fun v_ => h21_s0 a b v_) (sv := fun v_ => t21_s0 a b v_) (ex := x21_s0 a b) (fun v_ => ?_) N.fuel i h1_ h2_
  refine (f21_s0 a b v_).trans ((N.ref19_SameClient_s0_bind N.fuel a b _ _ _ v_).trans ?_)
  refine congrArg _ (funext fun s_ => ?_)
  rcases s_ with v_ | a | a <;> rfl
noncomputable def B21 : List (DVal E.T) → St E.T → Tree (Res E.T × St E.T) := dbody E (lookS S21) (lookD []) L21 0 false Tryz.f21
theorem B21_ok : FnOk Tryz.prog E 21 B21 := bodyC_ok sound mix S21_ok (SD := []) trivial (L := L21) (N := 0) (keep := false) Tryz.func21 rfl (by
  intro k g hg fr st out ho
  match k, hg with
  | 0, hg => cases hg; exact lp_ok (allLp_cons q21_s0 (allLp_nil)) fr st out ho
  | _ + 1, hg => cases hg)
theorem F21 (a : N.TClient) (b : N.TClient) : (B21 [.val (.named 4) a, .val (.named 4) b] []).get = N.ref19_SameClient_k N.fuel (fun x_ => some (.ret [.val .bool x_], [])) a b := by kernel_rfl
noncomputable def i21 : Ins E (Res E.T × St E.T) := ⟨[.v (.named 4), .v (.named 4)], [], fun a b => .opt (N.ref19_SameClient N.fuel a b) fun x_ => .ret (.ret [.val .bool x_], [])⟩
theorem i21_ok : InsOk Tryz.prog 21 i21 := ⟨B21, B21_ok, by intro a b out_ h_; exact ((F21 a b).trans (N.ref19_SameClient_bind N.fuel _ a b)).trans h_⟩
noncomputable def P21 : Nat × D.Spec E := (21, .pure [(.named 4), (.named 4)] (pureF [i21]))
theorem p21 : SpecOk Tryz.prog E P21.1 P21.2 := pureI_ok Tryz.call21 ⟨i21_ok, trivial⟩

/-! tenancy/tenancylaw20.ClientGives -/
noncomputable def S7 : List (Nat × D.Spec E) := [P11, P13, P20, P21, P22, P8, P9]
theorem S7_ok : AllS Tryz.prog E S7 := ⟨p11, p13, p20, p21, p22, p8, p9, trivial⟩
abbrev h7_s0 (picks : List UInt8) (n : Int) (o1 : N.TAns) (i : Int) (c : N.TClient) (want : List N.TWrite) : Fr E.T := ofSlots E 191 [] [0, 5, 6, 9, 10] [.val (.slice (.int .u8)) picks, .val (.int .i64) n, .ptr 0 [], .own 2, .val (.int .i64) i]
abbrev t7_s0 (picks : List UInt8) (n : Int) (o1 : N.TAns) (i : Int) (c : N.TClient) (want : List N.TWrite) : St E.T := [.box false (.val (.named 4) c), .box false (.val (.named 6) o1), .arr .live (.named 0) want]
def x7_s0 (picks : List UInt8) (n : Int) (o1 : N.TAns) (x_ : (N.TClient × N.TWrite × N.TClient × N.TAns × List N.TWrite) ⊕ (N.TClient × List N.TWrite)) : Tree (CodeOut E) := altT x_ (fun u0_ => .ret (.ret, ofSlots E 191 [] [4, 5, 6, 9] [.val .bool false, .val (.int .i64) n, .ptr 0 [], .own 2], [.box false (.val (.named 4) u0_.1), .box false (.val (.named 6) o1), .arr .live (.named 0) u0_.2.2.2.2, .box false (.agg 0 [.val (.int .i64) u0_.2.1.Off, .val .str u0_.2.1.B]), .box false (.val (.named 4) u0_.2.2.1), .box false (.val (.named 6) u0_.2.2.2.1)])) (fun w0_ => .ret (.exit 0, ofSlots E 191 [] [4, 5, 6, 9] [.undef, .val (.int .i64) n, .ptr 0 [], .own 2], [.box false (.val (.named 4) w0_.1), .box false (.val (.named 6) o1), .arr .live (.named 0) w0_.2]))
noncomputable def g7_s0 : Ins E (CodeOut E) := ⟨[.v (.slice (.int .u8)), .v (.int .i64), .ptr 0 [], .own 2, .v (.int .i64)], [.box false (.v (.named 4)), .box false (.v (.named 6)), .arr .live (.named 0)], fun picks n i c o1 want => .opt (N.law20_ClientGives_l0 N.fuel picks n o1 i c want) (x7_s0 picks n o1)⟩
abbrev h7_s1 (n : Int) (m : List N.TAsk) (o0 : N.TClient) (o1 : N.TAns) (x : N.TClient) (want : List N.TWrite) (i : Int) : Fr E.T := ofSlots E 191 [] [5, 9, 15, 16, 17] [.val (.int .i64) n, .own 2, .ptr 3 [], .val (.slice (.named 2)) m, .val (.int .i64) i]
abbrev t7_s1 (n : Int) (m : List N.TAsk) (o0 : N.TClient) (o1 : N.TAns) (x : N.TClient) (want : List N.TWrite) (i : Int) : St E.T := [.box false (.val (.named 4) o0), .box false (.val (.named 6) o1), .arr .live (.named 0) want, .box false (.val (.named 4) x)]
def x7_s1 (n : Int) (m : List N.TAsk) (o0 : N.TClient) (o1 : N.TAns) (x : N.TClient) (want : List N.TWrite) (x_ : Unit ⊕ Unit) : Tree (CodeOut E) := altT x_ (fun u0_ => .ret (.ret, ofSlots E 191 [] [4, 5, 15] [.val .bool false, .val (.int .i64) n, .ptr 3 []], [.box false (.val (.named 4) o0), .box false (.val (.named 6) o1), .arr .live (.named 0) want, .box false (.val (.named 4) x)])) (fun w0_ => .ret (.exit 2, ofSlots E 191 [] [4, 5, 15] [.undef, .val (.int .i64) n, .ptr 3 []], [.box false (.val (.named 4) o0), .box false (.val (.named 6) o1), .arr .live (.named 0) want, .box false (.val (.named 4) x)]))
noncomputable def g7_s1 : Ins E (CodeOut E) := ⟨[.v (.int .i64), .own 2, .ptr 3 [], .v (.slice (.named 2)), .v (.int .i64)], [.box false (.v (.named 4)), .box false (.v (.named 6)), .arr .live (.named 0), .box false (.v (.named 4))], fun n m i o0 o1 want x => .opt (N.law20_ClientGives_l1 N.fuel n m o0 o1 x want i) (x7_s1 n m o0 o1 x want)⟩
noncomputable def L7 : Nat → LoopInfo E := clL E 191 [{ ks := [0, 5, 6, 9, 10], mvs := [], pro := [.pro (.slot 9) [] (.named 0)], d := [], g := some (insF [g7_s0]) }, { ks := [5, 9, 15, 16, 17], mvs := [], pro := [], d := [], g := some (insF [g7_s1]) }] []
theorem f7_s0 (picks : List UInt8) (n : Int) (o1 : N.TAns) (i : Int) (c : N.TClient) (want : List N.TWrite) : ((stepOf E S7 L7 0 0 Tryz.f7 (h7_s0 picks n o1 i c want) (t7_s0 picks n o1 i c want)).bind (nx E [0, 5, 6, 9, 10] [] [4, 5, 6, 9] 3)).get = N.law20_ClientGives_s0k N.fuel picks n o1 (fun v_ => some (.inl (h7_s0 picks n o1 v_.1 v_.2.1 v_.2.2, t7_s0 picks n o1 v_.1 v_.2.1 v_.2.2))) (fun x_ => some (.inr (.ret, ofSlots E 191 [] [4, 5, 6, 9] [.val .bool false, .val (.int .i64) n, .ptr 0 [], .own 2], [.box false (.val (.named 4) x_.1), .box false (.val (.named 6) o1), .arr .live (.named 0) x_.2.2.2.2, .box false (.agg 0 [.val (.int .i64) x_.2.1.Off, .val .str x_.2.1.B]), .box false (.val (.named 4) x_.2.2.1), .box false (.val (.named 6) x_.2.2.2.1)]))) (fun x_ => some (.inr (.exit 0, ofSlots E 191 [] [4, 5, 6, 9] [.undef, .val (.int .i64) n, .ptr 0 [], .own 2], [.box false (.val (.named 4) x_.1), .box false (.val (.named 6) o1), .arr .live (.named 0) x_.2]))) i c want := by kernel_rfl
theorem q7_s0 : InsLp 191 [0, 5, 6, 9, 10] [] [] (stepOf E S7 L7 0 0 Tryz.f7) g7_s0 := by
  intro picks n i c o1 want out_ ho_
  obtain ⟨x_, h1_, h2_⟩ := Option.bind_eq_some_iff.1 ho_
  refine iter_loop (rs := [4, 5, 6, 9]) (step := N.law20_ClientGives_s0 N.fuel picks n o1) (hd := fun v_ => h7_s0 picks n o1 v_.1 v_.2.1 v_.2.2) (sv := fun v_ => t7_s0 picks n o1 v_.1 v_.2.1 v_.2.2) (ex := x7_s0 picks n o1) (fun v_ => ?_) N.fuel (i, c, want) h1_ h2_
  refine (f7_s0 picks n o1 v_.1 v_.2.1 v_.2.2).trans ((N.law20_ClientGives_s0_bind N.fuel picks n o1 _ _ _ v_.1 v_.2.1 v_.2.2).trans ?_)
  refine congrArg _ (funext fun s_ => ?_)
  rcases s_ with v_ | a | a <;> rfl
theorem f7_s1 (n : Int) (m : List N.TAsk) (o0 : N.TClient) (o1 : N.TAns) (x : N.TClient) (want : List N.TWrite) (i : Int) : ((stepOf E S7 L7 0 1 Tryz.f7 (h7_s1 n m o0 o1 x want i) (t7_s1 n m o0 o1 x want i)).bind (nx E [5, 9, 15, 16, 17] [] [4, 5, 15] 4)).get = N.law20_ClientGives_s1k n m o0 o1 x want (fun v_ => some (.inl (h7_s1 n m o0 o1 x want v_, t7_s1 n m o0 o1 x want v_))) (fun x_ => some (.inr (.ret, ofSlots E 191 [] [4, 5, 15] [.val .bool false, .val (.int .i64) n, .ptr 3 []], [.box false (.val (.named 4) o0), .box false (.val (.named 6) o1), .arr .live (.named 0) want, .box false (.val (.named 4) x)]))) (fun x_ => some (.inr (.exit 2, ofSlots E 191 [] [4, 5, 15] [.undef, .val (.int .i64) n, .ptr 3 []], [.box false (.val (.named 4) o0), .box false (.val (.named 6) o1), .arr .live (.named 0) want, .box false (.val (.named 4) x)]))) i := by kernel_rfl
theorem q7_s1 : InsLp 191 [5, 9, 15, 16, 17] [] [] (stepOf E S7 L7 0 1 Tryz.f7) g7_s1 := by
  intro n m i o0 o1 want x out_ ho_
  obtain ⟨x_, h1_, h2_⟩ := Option.bind_eq_some_iff.1 ho_
  refine iter_loop (rs := [4, 5, 15]) (step := N.law20_ClientGives_s1 n m o0 o1 x want) (hd := fun v_ => h7_s1 n m o0 o1 x want v_) (sv := fun v_ => t7_s1 n m o0 o1 x want v_) (ex := x7_s1 n m o0 o1 x want) (fun v_ => ?_) N.fuel i h1_ h2_
  refine (f7_s1 n m o0 o1 x want v_).trans ((N.law20_ClientGives_s1_bind n m o0 o1 x want _ _ _ v_).trans ?_)
  refine congrArg _ (funext fun s_ => ?_)
  rcases s_ with v_ | a | a <;> rfl
noncomputable def B7 : List (DVal E.T) → St E.T → Tree (Res E.T × St E.T) := dbody E (lookS S7) (lookD []) L7 0 false Tryz.f7
theorem B7_ok : FnOk Tryz.prog E 7 B7 := bodyC_ok sound mix S7_ok (SD := []) trivial (L := L7) (N := 0) (keep := false) Tryz.func7 rfl (by
  intro k g hg fr st out ho
  match k, hg with
  | 0, hg => cases hg; exact lp_ok (allLp_cons q7_s0 (allLp_nil)) fr st out ho
  | 1, hg => cases hg; exact lp_ok (allLp_cons q7_s1 (allLp_nil)) fr st out ho
  | _ + 2, hg => cases hg)
theorem F7 (picks : List UInt8) (f : UInt8) : (B7 [.val (.slice (.int .u8)) picks, .val (.int .u8) f] []).get = N.law20_ClientGives_k N.fuel (fun x_ => some (.ret [.val .bool x_], [])) picks f := by kernel_rfl
noncomputable def i7 : Ins E (Res E.T × St E.T) := ⟨[.v (.slice (.int .u8)), .v (.int .u8)], [], fun picks f => .opt (N.law20_ClientGives N.fuel picks f) fun x_ => .ret (.ret [.val .bool x_], [])⟩
theorem i7_ok : InsOk Tryz.prog 7 i7 := ⟨B7, B7_ok, by intro picks f out_ h_; exact ((F7 picks f).trans (N.law20_ClientGives_bind N.fuel _ picks f)).trans h_⟩
noncomputable def P7 : Nat × D.Spec E := (7, .pure [(.slice (.int .u8)), (.int .u8)] (pureF [i7]))
theorem p7 : SpecOk Tryz.prog E P7.1 P7.2 := pureI_ok Tryz.call7 ⟨i7_ok, trivial⟩

end Go.Proofs.YthabbcjjecpbmaaGreat.Z

set_option linter.unusedVariables false
set_option linter.unusedSimpArgs false
namespace Go.Proofs.YthabbcjjecpbmaaGreat.N
open Go

theorem wi64_of {n : Int} (h1 : -9223372036854775808 ≤ n) (h2 : n ≤ 9223372036854775807) : wi64 n = n := by
  unfold wi64; rw [IntKind.wrap_i64]; omega

theorem some_bind {α β : Type} (a : α) (f : α → Option β) : (some a).bind f = f a := rfl

theorem i8_lo (x : UInt8) : 0 ≤ i8 x := Int.natCast_nonneg _
theorem i8_hi (x : UInt8) : i8 x < 256 := by have := x.toNat_lt; unfold i8; omega
theorem i8_inj {x y : UInt8} (h : i8 x = i8 y) : x = y := UInt8.toNat_inj.1 (by unfold i8 at h; omega)
theorem i8_b8 {n : Int} (h : 0 ≤ n) (h2 : n < 256) : i8 (b8 n) = n := by
  unfold i8 b8
  rw [UInt8.toNat_ofNat_of_lt' (by show n.toNat < 256; omega)]
  omega
theorem b8_i8 (x : UInt8) : b8 (i8 x) = x := by
  unfold b8 i8; simp

theorem inR_of {i : Int} {n : Nat} (h : 0 ≤ i) (h2 : i < n) : inR i n = true := by
  unfold inR; simp [h, h2]

theorem at_of {α : Type} {xs : List α} {i : Nat} {a : α} (h : xs[i]? = some a) : i < xs.length := (List.getElem?_eq_some_iff.1 h).1

/-! Loops over a list -/
/-- A walk along a list: go on, or leave. -/
def runL {A S X : Type} (g : A → S → Option (S ⊕ X)) (fin : S → X) : List A → S → Option X
  | [], s => some (fin s)
  | a :: r, s => (g a s).bind fun o => alt o (fun s' => runL g fin r s') (fun x => some x)

theorem iter_list {A S V X : Type} {step : V → Option (V ⊕ X)} {xs : List A} {mk : Nat → S → V} {g : A → S → Option (S ⊕ X)} {fin : S → X}
    (hc : ∀ i s a, xs[i]? = some a → step (mk i s) = (g a s).map (Sum.map (mk (i + 1)) id)) (he : ∀ s, step (mk xs.length s) = some (.inr (fin s))) :
    ∀ (r : List A) (i : Nat) (s : S) (n : Nat), xs.drop i = r → i ≤ xs.length → r.length < n → iter step n (mk i s) = runL g fin r s
  | _, _, _, 0, _, _, h => absurd h (Nat.not_lt_zero _)
  | [], i, s, n + 1, hd, hi, _ => by
    have : xs.length ≤ i := List.drop_eq_nil_iff.1 hd
    have : i = xs.length := Nat.le_antisymm hi this
    subst this
    rw [iter_succ, he]
    rfl
  | a :: r, i, s, n + 1, hd, hi, hn => by
    have hlt : i < xs.length := by
      rcases Nat.lt_or_ge i xs.length with h | h
      · exact h
      · rw [List.drop_eq_nil_iff.2 h] at hd; cases hd
    have ha : xs[i]? = some a := by
      have := List.getElem?_drop (xs := xs) (i := i) (j := 0)
      rw [hd] at this
      simpa using this.symm
    have hr : xs.drop (i + 1) = r := by
      have := List.drop_drop (l := xs) (i := 1) (j := i)
      rw [hd] at this
      simpa using this.symm
    rw [iter_succ, hc i s a ha, runL]
    cases hg : g a s with
    | none => rfl
    | some o =>
      simp only [Option.map_some, Option.bind_some]
      cases o with
      | inl s' => exact iter_list hc he r (i + 1) s' n hr hlt (by simp at hn; omega)
      | inr x => rfl

theorem iter_list0 {A S V X : Type} {step : V → Option (V ⊕ X)} {xs : List A} (mk : Nat → S → V) (g : A → S → Option (S ⊕ X)) (fin : S → X)
    (hc : ∀ i s a, xs[i]? = some a → step (mk i s) = (g a s).map (Sum.map (mk (i + 1)) id)) (he : ∀ s, step (mk xs.length s) = some (.inr (fin s))) (s : S) (hn : xs.length < fuel) :
    iter step fuel (mk 0 s) = runL g fin xs s := iter_list hc he xs 0 s fuel rfl (Nat.zero_le _) hn

theorem fuel_gt {n : Nat} (h : n < 4294967296) : n < fuel := by rw [fuel_eq]; exact h

/-- Counting down. -/
theorem iter_down {S V X : Type} {step : V → Option (V ⊕ X)} (mk : Nat → S → V) (g : S → Option (S ⊕ X)) (fin : S → X)
    (hc : ∀ i s, step (mk (i + 1) s) = (g s).map (Sum.map (mk i) id)) (he : ∀ s, step (mk 0 s) = some (.inr (fin s))) :
    ∀ (i : Nat) (s : S) (n : Nat), i < n → iter step n (mk i s) = runL (fun _ : Unit => g) fin (List.replicate i ()) s
  | _, _, 0, h => absurd h (Nat.not_lt_zero _)
  | 0, s, n + 1, _ => by rw [iter_succ, he]; rfl
  | i + 1, s, n + 1, h => by
    rw [iter_succ, hc, List.replicate_succ, runL]
    cases g s with
    | none => rfl
    | some o =>
      cases o with
      | inl s' => exact iter_down mk g fin hc he i s' n (by omega)
      | inr x => rfl

/-! All, any -/
theorem runL_all {A X : Type} (p : A → Bool) (x y : X) : ∀ l : List A, runL (S := Unit) (fun a _ => bif p a then some (.inl ()) else some (.inr x)) (fun _ => y) l () = some (bif l.all p then y else x)
  | [] => rfl
  | a :: r => by
    rw [runL, List.all_cons]
    cases p a with
    | true => exact runL_all p x y r
    | false => rfl

end Go.Proofs.YthabbcjjecpbmaaGreat.N

set_option linter.unusedVariables false
set_option linter.unusedSimpArgs false
namespace Go.Proofs.YthabbcjjecpbmaaGreat.N
open Go

theorem lt_dec {i n : Nat} (h : i < n) : decide ((i : Int) < (n : Int)) = true := decide_eq_true (by omega)
theorem ge_dec (n : Nat) : decide ((n : Int) < (n : Int)) = false := decide_eq_false (by omega)
theorem inR_nat {i n : Nat} (h : i < n) : inR (i : Int) n = true := inR_of (by omega) (by omega)
theorem wi64_succ {i : Nat} (h : i < 4294967296) : wi64 ((i : Int) + 1) = ((i + 1 : Nat) : Int) := by rw [wi64_of (by omega) (by omega)]; omega

/-! Names -/
def okc (a : UInt8) : Bool := !(decide (i8 a < 33)) && !(decide (i8 a > 126))
def mayName (s : List UInt8) : Bool := s.all okc && (decide ((s.length : Int) ≥ 1) && decide ((s.length : Int) ≤ 8))

theorem dir_May_ok (s : List UInt8) (h : s.length < 4294967296) : dir_May fuel s = some (mayName s) := by
  have hl : dir_May_l0 fuel s (s.length : Int) s 0 = some (bif s.all okc then .inr () else .inl ()) := by
    unfold dir_May_l0
    rw [← runL_all okc (Sum.inl ()) (Sum.inr ()) s]
    refine iter_list0 (xs := s) (fun i (_ : Unit) => (i : Int)) _ _ (fun i _ a ha => ?_) (fun _ => ?_) () (fuel_gt h)
    · have hi := at_of ha
      simp only [dir_May_s0, dir_May_s0k, lt_dec hi, inR_nat hi, Int.toNat_natCast, ha, cond_true, some_bind, wi64_succ (Nat.lt_trans hi h), okc]
      cases decide (i8 a < 33) <;> cases decide (i8 a > 126) <;> rfl
    · simp only [dir_May_s0, dir_May_s0k, ge_dec, cond_false]
  unfold dir_May dir_May_k
  rw [hl, some_bind]
  unfold mayName
  cases s.all okc <;> cases decide ((s.length : Int) ≥ 1) <;> rfl

/-! Writes -/
/-! Sameness -/
theorem write_eqb (x y : TWrite) : TWrite.eqb x y = true ↔ x = y := by
  cases x; cases y
  simp [TWrite.eqb]

def sameW : List TWrite → List TWrite → Bool
  | [], [] => true
  | x :: a, y :: b => TWrite.eqb x y && sameW a b
  | _, _ => false

theorem sameW_iff : ∀ a b : List TWrite, sameW a b = true ↔ a = b
  | [], [] => by simp [sameW]
  | [], _ :: _ => by simp [sameW]
  | _ :: _, [] => by simp [sameW]
  | x :: a, y :: b => by simp [sameW, write_eqb, sameW_iff a b]

theorem sameW_zip : ∀ a b : List TWrite, a.length = b.length → sameW a b = (a.zip b).all fun p => TWrite.eqb p.1 p.2
  | [], [], _ => rfl
  | [], _ :: _, h => by simp at h
  | _ :: _, [], h => by simp at h
  | x :: a, y :: b, h => by
    simp only [sameW, List.zip_cons_cons, List.all_cons]
    rw [sameW_zip a b (by simpa using h)]

theorem sameW_len {a b : List TWrite} (h : a.length ≠ b.length) : sameW a b = false := by
  cases hs : sameW a b with
  | false => rfl
  | true => exact absurd (by rw [(sameW_iff a b).1 hs]) h

theorem zip_at {α β : Type} {a : List α} {b : List β} {i : Nat} {p : α × β} (h : (a.zip b)[i]? = some p) : a[i]? = some p.1 ∧ b[i]? = some p.2 := by
  rw [List.getElem?_zip_eq_some] at h
  exact h

theorem equalW_ok (a b : List TWrite) (h : a.length < 4294967296) : slices_Equal_Write fuel a b = some (sameW a b) := by
  unfold slices_Equal_Write slices_Equal_Write_k
  by_cases hl : a.length = b.length
  · have hz : (a.zip b).length = a.length := by rw [List.length_zip]; omega
    have hl0 : slices_Equal_Write_l0 fuel a b (a.length : Int) 0 = some (bif (a.zip b).all (fun p => TWrite.eqb p.1 p.2) then .inr () else .inl ()) := by
      unfold slices_Equal_Write_l0
      rw [← runL_all (fun p : TWrite × TWrite => TWrite.eqb p.1 p.2) (Sum.inl ()) (Sum.inr ()) (a.zip b)]
      refine iter_list0 (xs := a.zip b) (fun i (_ : Unit) => (i : Int)) _ _ (fun i _ p hp => ?_) (fun _ => ?_) () (fuel_gt (by omega))
      · have hi := at_of hp
        obtain ⟨h1, h2⟩ := zip_at hp
        rw [hz] at hi
        simp only [slices_Equal_Write_s0, slices_Equal_Write_s0k, lt_dec hi, inR_nat hi, inR_nat (at_of h2), Int.toNat_natCast, h1, h2, cond_true, some_bind, wi64_succ (Nat.lt_trans hi h)]
        cases TWrite.eqb p.1 p.2 <;> rfl
      · simp only [slices_Equal_Write_s0, slices_Equal_Write_s0k, hz, ge_dec, cond_false]
    have : ((a.length : Int) != (b.length : Int)) = false := by simp [hl]
    rw [this, hl0, sameW_zip a b hl]
    cases (a.zip b).all (fun p => TWrite.eqb p.1 p.2) <;> rfl
  · have : ((a.length : Int) != (b.length : Int)) = true := by simp; omega
    rw [this, sameW_len hl]
    rfl

theorem ref7_SameWrites_ok (a b : List TWrite) (h : a.length < 4294967296) : ref7_SameWrites fuel a b = some (sameW a b) := by
  unfold ref7_SameWrites ref7_SameWrites_k
  by_cases hl : a.length = b.length
  · have hz : (a.zip b).length = a.length := by rw [List.length_zip]; omega
    have hl0 : ref7_SameWrites_l0 fuel a b 0 = some (bif (a.zip b).all (fun p => TWrite.eqb p.1 p.2) then .inr () else .inl ()) := by
      unfold ref7_SameWrites_l0
      rw [← runL_all (fun p : TWrite × TWrite => TWrite.eqb p.1 p.2) (Sum.inl ()) (Sum.inr ()) (a.zip b)]
      refine iter_list0 (xs := a.zip b) (fun i (_ : Unit) => (i : Int)) _ _ (fun i _ p hp => ?_) (fun _ => ?_) () (fuel_gt (by omega))
      · have hi := at_of hp
        obtain ⟨h1, h2⟩ := zip_at hp
        rw [hz] at hi
        simp only [ref7_SameWrites_s0, ref7_SameWrites_s0k, lt_dec hi, inR_nat hi, inR_nat (at_of h2), Int.toNat_natCast, h1, h2, cond_true, some_bind, wi64_succ (Nat.lt_trans hi h)]
        cases TWrite.eqb p.1 p.2 <;> rfl
      · simp only [ref7_SameWrites_s0, ref7_SameWrites_s0k, hz, ge_dec, cond_false]
    have : ((a.length : Int) != (b.length : Int)) = false := by simp [hl]
    rw [this, hl0, sameW_zip a b hl]
    cases (a.zip b).all (fun p => TWrite.eqb p.1 p.2) <;> rfl
  · have : ((a.length : Int) != (b.length : Int)) = true := by simp; omega
    rw [this, sameW_len hl]
    rfl

def sameAsk (a b : TAsk) : Bool := a.Kind == b.Kind && (a.From == b.From && (a.Epoch == b.Epoch && (a.Seq == b.Seq && (a.Name == b.Name && (a.File == b.File && (a.Mode == b.Mode && sameW a.Writes b.Writes))))))

theorem sameAsk_iff (a b : TAsk) : sameAsk a b = true ↔ a = b := by
  cases a; cases b
  simp [sameAsk, sameW_iff]

theorem sameAsk_refl (a : TAsk) : sameAsk a a = true := (sameAsk_iff a a).2 rfl

theorem and_cond (a b : Bool) : (a && b) = bif a then b else false := by cases a <;> rfl

theorem msg_SameAsk_ok (a b : TAsk) (h : a.Writes.length < 4294967296) : msg_SameAsk fuel a b = some (sameAsk a b) := by
  unfold msg_SameAsk msg_SameAsk_k sameAsk
  rw [equalW_ok _ _ h]
  simp only [and_cond, some_bind]
  cases a.Kind == b.Kind <;> cases a.From == b.From <;> cases a.Epoch == b.Epoch <;> cases a.Seq == b.Seq <;> cases a.Name == b.Name <;> cases a.File == b.File <;> cases a.Mode == b.Mode <;> rfl

theorem ref13_SameAsk_ok (a b : TAsk) (h : a.Writes.length < 4294967296) : ref13_SameAsk fuel a b = some (sameAsk a b) := by
  unfold ref13_SameAsk ref13_SameAsk_k sameAsk
  rw [ref7_SameWrites_ok _ _ h]
  simp only [and_cond, some_bind]
  cases a.Kind == b.Kind <;> cases a.From == b.From <;> cases a.Epoch == b.Epoch <;> cases a.Seq == b.Seq <;> cases a.Name == b.Name <;> cases a.File == b.File <;> cases a.Mode == b.Mode <;> rfl

end Go.Proofs.YthabbcjjecpbmaaGreat.N

set_option linter.unusedVariables false
set_option linter.unusedSimpArgs false
namespace Go.Proofs.YthabbcjjecpbmaaGreat.N
open Go

def rng (lo hi v : Int) : Bool := decide (lo ≤ v) && decide (v ≤ hi)
theorem rng_iff {lo hi v : Int} : rng lo hi v = true ↔ lo ≤ v ∧ v ≤ hi := by simp [rng]
theorem msg_from_eq (lo hi v : Int) : msg_from lo hi v = rng lo hi v := by
  unfold msg_from msg_from_k rng
  cases decide (lo ≤ v) <;> rfl
theorem ref13_num_eq (n least : Int) : ref13_num n least = rng least 1073741824 n := by
  unfold ref13_num ref13_num_k rng
  simp only [ge_iff_le]
  cases decide (least ≤ n) <;> rfl

def wantW (a : TAsk) : Bool := a.Kind == 3 || a.Kind == 4
def want (a : TAsk) : TAsk :=
  bif a.Kind == 1 then ⟨a.Kind, a.From, a.Epoch, a.Seq, a.Name, 0, 0, []⟩ else
  bif a.Kind == 2 then ⟨a.Kind, a.From, a.Epoch, a.Seq, [], a.File, a.Mode, []⟩ else
  bif wantW a then ⟨a.Kind, a.From, a.Epoch, a.Seq, [], a.File, 0, a.Writes⟩ else ⟨a.Kind, a.From, a.Epoch, a.Seq, [], a.File, 0, []⟩
def wantOk (a : TAsk) : Bool :=
  bif a.Kind == 1 then mayName a.Name else
  bif a.Kind == 2 then rng 1 6 a.File && rng 1 2 a.Mode else
  bif wantW a then decide ((a.Writes.length : Int) ≤ 5) && ((decide ((a.Writes.length : Int) > 0) || a.Kind == 4) && (rng 1 6 a.File && a.Writes.all file_May)) else rng 1 6 a.File
def mayAsk (a : TAsk) : Bool := rng 1 5 a.Kind && (rng 1 3 a.From && (rng 0 1073741824 a.Epoch && (rng 1 1073741824 a.Seq && (wantOk a && sameAsk a (want a)))))

theorem want_len (a : TAsk) : (want a).Writes.length ≤ a.Writes.length := by
  unfold want
  cases a.Kind == 1 <;> cases a.Kind == 2 <;> cases wantW a <;> simp

theorem sameAsk_comm (a b : TAsk) : sameAsk a b = sameAsk b a := by
  cases h : sameAsk b a with
  | true => exact (sameAsk_iff _ _).2 ((sameAsk_iff _ _).1 h).symm
  | false =>
    cases h2 : sameAsk a b with
    | false => rfl
    | true => rw [((sameAsk_iff _ _).1 h2).symm, sameAsk_refl] at h; cases h

/-! Tells -/
theorem tell_eqb (x y : TTell) : TTell.eqb x y = true ↔ x = y := by
  cases x; cases y
  simp [TTell.eqb]

theorem MayTell_eq (t : TTell) : msg_MayTell t = ref13_MayTell t := by
  unfold msg_MayTell msg_MayTell_k ref13_MayTell ref13_MayTell_k
  simp only [msg_from_eq, ref13_num_eq, id]
  by_cases k0 : 1 ≤ t.Kind ∧ t.Kind ≤ 3
  · obtain ⟨k1, k2⟩ := k0
    rw [decide_eq_false (show ¬ t.Kind < 1 by omega), decide_eq_false (show ¬ t.Kind > 3 by omega), rng_iff.2 ⟨k1, k2⟩]
    by_cases f0 : 1 ≤ t.To ∧ t.To ≤ 3
    · obtain ⟨f1, f2⟩ := f0
      rw [decide_eq_false (show ¬ t.To < 1 by omega), decide_eq_false (show ¬ t.To > 3 by omega), rng_iff.2 ⟨f1, f2⟩]
      have h1 : rng 1 6 t.File = (decide (t.File ≥ 1) && decide (t.File ≤ 6)) := rfl
      have h2 : rng 0 6 t.File = (decide (t.File ≥ 0) && decide (t.File ≤ 6)) := rfl
      have h3 : rng 0 2 t.Mode = (decide (t.Mode ≥ 0) && decide (t.Mode ≤ 2)) := rfl
      rw [h1, h2, h3]
      have hk : t.Kind = 1 ∨ t.Kind = 2 ∨ t.Kind = 3 := by omega
      rcases hk with hk | hk | hk <;> rw [hk] <;> simp only [Int.reduceBEq, cond_true, cond_false, Bool.not_true]
      · cases rng 0 1073741824 t.Epoch <;> cases rng 1 1073741824 t.Seq <;> cases decide (t.Err ≥ 0) <;> cases decide (t.Err ≤ 7) <;> cases decide (t.File ≥ 0) <;> cases decide (t.File ≤ 6) <;> cases decide (t.Mode ≥ 0) <;> cases decide (t.Mode ≤ 2) <;> rfl
      · cases rng 0 1073741824 t.Epoch <;> cases decide (t.File ≥ 1) <;> cases decide (t.File ≤ 6) <;> cases TTell.eqb t (TTell.mk 2 t.To t.Epoch 0 0 t.File 0 0 []) <;> rfl
    · have hf : rng 1 3 t.To = false := by
        cases h : rng 1 3 t.To with
        | false => rfl
        | true => exact absurd (rng_iff.1 h) f0
      rw [hf]
      by_cases f1 : t.To < 1
      · rw [decide_eq_true f1]; rfl
      · rw [decide_eq_false f1, decide_eq_true (show t.To > 3 by omega)]; rfl
  · have hk : rng 1 3 t.Kind = false := by
      cases h : rng 1 3 t.Kind with
      | false => rfl
      | true => exact absurd (rng_iff.1 h) k0
    rw [hk]
    by_cases k1 : t.Kind < 1
    · rw [decide_eq_true k1]; rfl
    · rw [decide_eq_false k1, decide_eq_true (show t.Kind > 3 by omega)]; rfl

end Go.Proofs.YthabbcjjecpbmaaGreat.N

set_option maxRecDepth 100000
set_option linter.unusedVariables false
namespace Go.Proofs.YthabbcjjecpbmaaGreat.N
open Go
theorem law20_begun_ok : law20_begun fuel = some true := by rw [fuel_eq]; kernel_rfl

theorem tmod_range (x : UInt8) (m : Int) (hm : 0 < m) : 0 ≤ (i8 x).tmod m ∧ (i8 x).tmod m < m := by
  have h : 0 ≤ i8 x := Int.natCast_nonneg _
  rw [Int.tmod_eq_emod_of_nonneg h]
  exact ⟨Int.emod_nonneg _ (by omega), Int.emod_lt_of_pos _ hm⟩

/-- The client that holds a file to write, with what was written near. -/
def fr0 : TCache := ⟨0, 0, 0, [], [], 0, false, false⟩
def held (ds : List TWrite) : TCache := ⟨2, 49, 1, [], ds, 0, false, false⟩
def gv (j : Nat) (ds : List TWrite) (h : Int) : TClient := ⟨2, 0, 0, 1, (List.replicate 6 fr0).set j (held ds), List.replicate 6 [], ⟨false, ⟨0, 0, 0, 0, [], 0, 0, []⟩, 0, 0⟩, 0, h, 1⟩
/-- What it asks when it is called back; how it stands then. -/
def give (n : Int) (ds : List TWrite) : TAsk := ⟨4, 2, 0, 2, [], n, 0, ds⟩
def gx (n : Int) (ds : List TWrite) (h : Int) : TClient := ⟨2, 0, 0, 2, List.replicate 6 fr0, List.replicate 6 [], ⟨true, give n ds, 0, 0⟩, 0, h, 2⟩
def stepOf (n o : Int) (b : UInt8) : TStep := TStep.mk 5 2 0 n o 0 0 [b] []

theorem do_0_0 (b : UInt8) (o : Int) (h0 : 0 ≤ o) (h1 : o < 20) : client_Do fuel (gv 0 [] 0) (stepOf 1 o b) = some (gv 0 [⟨o, [b]⟩] 1, ⟨0, 0, []⟩, []) := by
  have h : o = 0 ∨ o = 1 ∨ o = 2 ∨ o = 3 ∨ o = 4 ∨ o = 5 ∨ o = 6 ∨ o = 7 ∨ o = 8 ∨ o = 9 ∨ o = 10 ∨ o = 11 ∨ o = 12 ∨ o = 13 ∨ o = 14 ∨ o = 15 ∨ o = 16 ∨ o = 17 ∨ o = 18 ∨ o = 19 := by omega
  rw [fuel_eq]
  rcases h with h | h | h | h | h | h | h | h | h | h | h | h | h | h | h | h | h | h | h | h <;> (rw [h]; show _ = _; kernel_rfl)
theorem do_0_1 (w0 : TWrite) (b : UInt8) (o : Int) (h0 : 0 ≤ o) (h1 : o < 20) : client_Do fuel (gv 0 [w0] 1) (stepOf 1 o b) = some (gv 0 [w0, ⟨o, [b]⟩] 2, ⟨0, 0, []⟩, []) := by
  have h : o = 0 ∨ o = 1 ∨ o = 2 ∨ o = 3 ∨ o = 4 ∨ o = 5 ∨ o = 6 ∨ o = 7 ∨ o = 8 ∨ o = 9 ∨ o = 10 ∨ o = 11 ∨ o = 12 ∨ o = 13 ∨ o = 14 ∨ o = 15 ∨ o = 16 ∨ o = 17 ∨ o = 18 ∨ o = 19 := by omega
  rw [fuel_eq]
  rcases h with h | h | h | h | h | h | h | h | h | h | h | h | h | h | h | h | h | h | h | h <;> (rw [h]; show _ = _; kernel_rfl)
theorem do_0_2 (w0 w1 : TWrite) (b : UInt8) (o : Int) (h0 : 0 ≤ o) (h1 : o < 20) : client_Do fuel (gv 0 [w0, w1] 2) (stepOf 1 o b) = some (gv 0 [w0, w1, ⟨o, [b]⟩] 3, ⟨0, 0, []⟩, []) := by
  have h : o = 0 ∨ o = 1 ∨ o = 2 ∨ o = 3 ∨ o = 4 ∨ o = 5 ∨ o = 6 ∨ o = 7 ∨ o = 8 ∨ o = 9 ∨ o = 10 ∨ o = 11 ∨ o = 12 ∨ o = 13 ∨ o = 14 ∨ o = 15 ∨ o = 16 ∨ o = 17 ∨ o = 18 ∨ o = 19 := by omega
  rw [fuel_eq]
  rcases h with h | h | h | h | h | h | h | h | h | h | h | h | h | h | h | h | h | h | h | h <;> (rw [h]; show _ = _; kernel_rfl)
theorem do_0_3 (w0 w1 w2 : TWrite) (b : UInt8) (o : Int) (h0 : 0 ≤ o) (h1 : o < 20) : client_Do fuel (gv 0 [w0, w1, w2] 3) (stepOf 1 o b) = some (gv 0 [w0, w1, w2, ⟨o, [b]⟩] 4, ⟨0, 0, []⟩, []) := by
  have h : o = 0 ∨ o = 1 ∨ o = 2 ∨ o = 3 ∨ o = 4 ∨ o = 5 ∨ o = 6 ∨ o = 7 ∨ o = 8 ∨ o = 9 ∨ o = 10 ∨ o = 11 ∨ o = 12 ∨ o = 13 ∨ o = 14 ∨ o = 15 ∨ o = 16 ∨ o = 17 ∨ o = 18 ∨ o = 19 := by omega
  rw [fuel_eq]
  rcases h with h | h | h | h | h | h | h | h | h | h | h | h | h | h | h | h | h | h | h | h <;> (rw [h]; show _ = _; kernel_rfl)
theorem do_0_4 (w0 w1 w2 w3 : TWrite) (b : UInt8) (o : Int) (h0 : 0 ≤ o) (h1 : o < 20) : client_Do fuel (gv 0 [w0, w1, w2, w3] 4) (stepOf 1 o b) = some (gv 0 [w0, w1, w2, w3, ⟨o, [b]⟩] 5, ⟨0, 0, []⟩, []) := by
  have h : o = 0 ∨ o = 1 ∨ o = 2 ∨ o = 3 ∨ o = 4 ∨ o = 5 ∨ o = 6 ∨ o = 7 ∨ o = 8 ∨ o = 9 ∨ o = 10 ∨ o = 11 ∨ o = 12 ∨ o = 13 ∨ o = 14 ∨ o = 15 ∨ o = 16 ∨ o = 17 ∨ o = 18 ∨ o = 19 := by omega
  rw [fuel_eq]
  rcases h with h | h | h | h | h | h | h | h | h | h | h | h | h | h | h | h | h | h | h | h <;> (rw [h]; show _ = _; kernel_rfl)
theorem doall_0 (ds : List TWrite) (hd : ds.length < 5) (b : UInt8) (o : Int) (h0 : 0 ≤ o) (h1 : o < 20) : client_Do fuel (gv 0 ds (ds.length : Int)) (stepOf 1 o b) = some (gv 0 (ds ++ [(⟨o, [b]⟩ : TWrite)]) ((ds ++ [(⟨o, [b]⟩ : TWrite)]).length : Int), ⟨0, 0, []⟩, []) := by
  match ds, hd with
  | [], _ => exact do_0_0  b o h0 h1
  | [w0], _ => exact do_0_1 w0 b o h0 h1
  | [w0, w1], _ => exact do_0_2 w0 w1 b o h0 h1
  | [w0, w1, w2], _ => exact do_0_3 w0 w1 w2 b o h0 h1
  | [w0, w1, w2, w3], _ => exact do_0_4 w0 w1 w2 w3 b o h0 h1
  | _ :: _ :: _ :: _ :: _ :: _, hd => exact absurd hd (by simp only [List.length_cons]; omega)
theorem do_1_0 (b : UInt8) (o : Int) (h0 : 0 ≤ o) (h1 : o < 20) : client_Do fuel (gv 1 [] 0) (stepOf 2 o b) = some (gv 1 [⟨o, [b]⟩] 1, ⟨0, 0, []⟩, []) := by
  have h : o = 0 ∨ o = 1 ∨ o = 2 ∨ o = 3 ∨ o = 4 ∨ o = 5 ∨ o = 6 ∨ o = 7 ∨ o = 8 ∨ o = 9 ∨ o = 10 ∨ o = 11 ∨ o = 12 ∨ o = 13 ∨ o = 14 ∨ o = 15 ∨ o = 16 ∨ o = 17 ∨ o = 18 ∨ o = 19 := by omega
  rw [fuel_eq]
  rcases h with h | h | h | h | h | h | h | h | h | h | h | h | h | h | h | h | h | h | h | h <;> (rw [h]; show _ = _; kernel_rfl)
theorem do_1_1 (w0 : TWrite) (b : UInt8) (o : Int) (h0 : 0 ≤ o) (h1 : o < 20) : client_Do fuel (gv 1 [w0] 1) (stepOf 2 o b) = some (gv 1 [w0, ⟨o, [b]⟩] 2, ⟨0, 0, []⟩, []) := by
  have h : o = 0 ∨ o = 1 ∨ o = 2 ∨ o = 3 ∨ o = 4 ∨ o = 5 ∨ o = 6 ∨ o = 7 ∨ o = 8 ∨ o = 9 ∨ o = 10 ∨ o = 11 ∨ o = 12 ∨ o = 13 ∨ o = 14 ∨ o = 15 ∨ o = 16 ∨ o = 17 ∨ o = 18 ∨ o = 19 := by omega
  rw [fuel_eq]
  rcases h with h | h | h | h | h | h | h | h | h | h | h | h | h | h | h | h | h | h | h | h <;> (rw [h]; show _ = _; kernel_rfl)
theorem do_1_2 (w0 w1 : TWrite) (b : UInt8) (o : Int) (h0 : 0 ≤ o) (h1 : o < 20) : client_Do fuel (gv 1 [w0, w1] 2) (stepOf 2 o b) = some (gv 1 [w0, w1, ⟨o, [b]⟩] 3, ⟨0, 0, []⟩, []) := by
  have h : o = 0 ∨ o = 1 ∨ o = 2 ∨ o = 3 ∨ o = 4 ∨ o = 5 ∨ o = 6 ∨ o = 7 ∨ o = 8 ∨ o = 9 ∨ o = 10 ∨ o = 11 ∨ o = 12 ∨ o = 13 ∨ o = 14 ∨ o = 15 ∨ o = 16 ∨ o = 17 ∨ o = 18 ∨ o = 19 := by omega
  rw [fuel_eq]
  rcases h with h | h | h | h | h | h | h | h | h | h | h | h | h | h | h | h | h | h | h | h <;> (rw [h]; show _ = _; kernel_rfl)
theorem do_1_3 (w0 w1 w2 : TWrite) (b : UInt8) (o : Int) (h0 : 0 ≤ o) (h1 : o < 20) : client_Do fuel (gv 1 [w0, w1, w2] 3) (stepOf 2 o b) = some (gv 1 [w0, w1, w2, ⟨o, [b]⟩] 4, ⟨0, 0, []⟩, []) := by
  have h : o = 0 ∨ o = 1 ∨ o = 2 ∨ o = 3 ∨ o = 4 ∨ o = 5 ∨ o = 6 ∨ o = 7 ∨ o = 8 ∨ o = 9 ∨ o = 10 ∨ o = 11 ∨ o = 12 ∨ o = 13 ∨ o = 14 ∨ o = 15 ∨ o = 16 ∨ o = 17 ∨ o = 18 ∨ o = 19 := by omega
  rw [fuel_eq]
  rcases h with h | h | h | h | h | h | h | h | h | h | h | h | h | h | h | h | h | h | h | h <;> (rw [h]; show _ = _; kernel_rfl)
theorem do_1_4 (w0 w1 w2 w3 : TWrite) (b : UInt8) (o : Int) (h0 : 0 ≤ o) (h1 : o < 20) : client_Do fuel (gv 1 [w0, w1, w2, w3] 4) (stepOf 2 o b) = some (gv 1 [w0, w1, w2, w3, ⟨o, [b]⟩] 5, ⟨0, 0, []⟩, []) := by
  have h : o = 0 ∨ o = 1 ∨ o = 2 ∨ o = 3 ∨ o = 4 ∨ o = 5 ∨ o = 6 ∨ o = 7 ∨ o = 8 ∨ o = 9 ∨ o = 10 ∨ o = 11 ∨ o = 12 ∨ o = 13 ∨ o = 14 ∨ o = 15 ∨ o = 16 ∨ o = 17 ∨ o = 18 ∨ o = 19 := by omega
  rw [fuel_eq]
  rcases h with h | h | h | h | h | h | h | h | h | h | h | h | h | h | h | h | h | h | h | h <;> (rw [h]; show _ = _; kernel_rfl)
theorem doall_1 (ds : List TWrite) (hd : ds.length < 5) (b : UInt8) (o : Int) (h0 : 0 ≤ o) (h1 : o < 20) : client_Do fuel (gv 1 ds (ds.length : Int)) (stepOf 2 o b) = some (gv 1 (ds ++ [(⟨o, [b]⟩ : TWrite)]) ((ds ++ [(⟨o, [b]⟩ : TWrite)]).length : Int), ⟨0, 0, []⟩, []) := by
  match ds, hd with
  | [], _ => exact do_1_0  b o h0 h1
  | [w0], _ => exact do_1_1 w0 b o h0 h1
  | [w0, w1], _ => exact do_1_2 w0 w1 b o h0 h1
  | [w0, w1, w2], _ => exact do_1_3 w0 w1 w2 b o h0 h1
  | [w0, w1, w2, w3], _ => exact do_1_4 w0 w1 w2 w3 b o h0 h1
  | _ :: _ :: _ :: _ :: _ :: _, hd => exact absurd hd (by simp only [List.length_cons]; omega)
theorem do_2_0 (b : UInt8) (o : Int) (h0 : 0 ≤ o) (h1 : o < 20) : client_Do fuel (gv 2 [] 0) (stepOf 3 o b) = some (gv 2 [⟨o, [b]⟩] 1, ⟨0, 0, []⟩, []) := by
  have h : o = 0 ∨ o = 1 ∨ o = 2 ∨ o = 3 ∨ o = 4 ∨ o = 5 ∨ o = 6 ∨ o = 7 ∨ o = 8 ∨ o = 9 ∨ o = 10 ∨ o = 11 ∨ o = 12 ∨ o = 13 ∨ o = 14 ∨ o = 15 ∨ o = 16 ∨ o = 17 ∨ o = 18 ∨ o = 19 := by omega
  rw [fuel_eq]
  rcases h with h | h | h | h | h | h | h | h | h | h | h | h | h | h | h | h | h | h | h | h <;> (rw [h]; show _ = _; kernel_rfl)
theorem do_2_1 (w0 : TWrite) (b : UInt8) (o : Int) (h0 : 0 ≤ o) (h1 : o < 20) : client_Do fuel (gv 2 [w0] 1) (stepOf 3 o b) = some (gv 2 [w0, ⟨o, [b]⟩] 2, ⟨0, 0, []⟩, []) := by
  have h : o = 0 ∨ o = 1 ∨ o = 2 ∨ o = 3 ∨ o = 4 ∨ o = 5 ∨ o = 6 ∨ o = 7 ∨ o = 8 ∨ o = 9 ∨ o = 10 ∨ o = 11 ∨ o = 12 ∨ o = 13 ∨ o = 14 ∨ o = 15 ∨ o = 16 ∨ o = 17 ∨ o = 18 ∨ o = 19 := by omega
  rw [fuel_eq]
  rcases h with h | h | h | h | h | h | h | h | h | h | h | h | h | h | h | h | h | h | h | h <;> (rw [h]; show _ = _; kernel_rfl)
theorem do_2_2 (w0 w1 : TWrite) (b : UInt8) (o : Int) (h0 : 0 ≤ o) (h1 : o < 20) : client_Do fuel (gv 2 [w0, w1] 2) (stepOf 3 o b) = some (gv 2 [w0, w1, ⟨o, [b]⟩] 3, ⟨0, 0, []⟩, []) := by
  have h : o = 0 ∨ o = 1 ∨ o = 2 ∨ o = 3 ∨ o = 4 ∨ o = 5 ∨ o = 6 ∨ o = 7 ∨ o = 8 ∨ o = 9 ∨ o = 10 ∨ o = 11 ∨ o = 12 ∨ o = 13 ∨ o = 14 ∨ o = 15 ∨ o = 16 ∨ o = 17 ∨ o = 18 ∨ o = 19 := by omega
  rw [fuel_eq]
  rcases h with h | h | h | h | h | h | h | h | h | h | h | h | h | h | h | h | h | h | h | h <;> (rw [h]; show _ = _; kernel_rfl)
theorem do_2_3 (w0 w1 w2 : TWrite) (b : UInt8) (o : Int) (h0 : 0 ≤ o) (h1 : o < 20) : client_Do fuel (gv 2 [w0, w1, w2] 3) (stepOf 3 o b) = some (gv 2 [w0, w1, w2, ⟨o, [b]⟩] 4, ⟨0, 0, []⟩, []) := by
  have h : o = 0 ∨ o = 1 ∨ o = 2 ∨ o = 3 ∨ o = 4 ∨ o = 5 ∨ o = 6 ∨ o = 7 ∨ o = 8 ∨ o = 9 ∨ o = 10 ∨ o = 11 ∨ o = 12 ∨ o = 13 ∨ o = 14 ∨ o = 15 ∨ o = 16 ∨ o = 17 ∨ o = 18 ∨ o = 19 := by omega
  rw [fuel_eq]
  rcases h with h | h | h | h | h | h | h | h | h | h | h | h | h | h | h | h | h | h | h | h <;> (rw [h]; show _ = _; kernel_rfl)
theorem do_2_4 (w0 w1 w2 w3 : TWrite) (b : UInt8) (o : Int) (h0 : 0 ≤ o) (h1 : o < 20) : client_Do fuel (gv 2 [w0, w1, w2, w3] 4) (stepOf 3 o b) = some (gv 2 [w0, w1, w2, w3, ⟨o, [b]⟩] 5, ⟨0, 0, []⟩, []) := by
  have h : o = 0 ∨ o = 1 ∨ o = 2 ∨ o = 3 ∨ o = 4 ∨ o = 5 ∨ o = 6 ∨ o = 7 ∨ o = 8 ∨ o = 9 ∨ o = 10 ∨ o = 11 ∨ o = 12 ∨ o = 13 ∨ o = 14 ∨ o = 15 ∨ o = 16 ∨ o = 17 ∨ o = 18 ∨ o = 19 := by omega
  rw [fuel_eq]
  rcases h with h | h | h | h | h | h | h | h | h | h | h | h | h | h | h | h | h | h | h | h <;> (rw [h]; show _ = _; kernel_rfl)
theorem doall_2 (ds : List TWrite) (hd : ds.length < 5) (b : UInt8) (o : Int) (h0 : 0 ≤ o) (h1 : o < 20) : client_Do fuel (gv 2 ds (ds.length : Int)) (stepOf 3 o b) = some (gv 2 (ds ++ [(⟨o, [b]⟩ : TWrite)]) ((ds ++ [(⟨o, [b]⟩ : TWrite)]).length : Int), ⟨0, 0, []⟩, []) := by
  match ds, hd with
  | [], _ => exact do_2_0  b o h0 h1
  | [w0], _ => exact do_2_1 w0 b o h0 h1
  | [w0, w1], _ => exact do_2_2 w0 w1 b o h0 h1
  | [w0, w1, w2], _ => exact do_2_3 w0 w1 w2 b o h0 h1
  | [w0, w1, w2, w3], _ => exact do_2_4 w0 w1 w2 w3 b o h0 h1
  | _ :: _ :: _ :: _ :: _ :: _, hd => exact absurd hd (by simp only [List.length_cons]; omega)
theorem do_3_0 (b : UInt8) (o : Int) (h0 : 0 ≤ o) (h1 : o < 20) : client_Do fuel (gv 3 [] 0) (stepOf 4 o b) = some (gv 3 [⟨o, [b]⟩] 1, ⟨0, 0, []⟩, []) := by
  have h : o = 0 ∨ o = 1 ∨ o = 2 ∨ o = 3 ∨ o = 4 ∨ o = 5 ∨ o = 6 ∨ o = 7 ∨ o = 8 ∨ o = 9 ∨ o = 10 ∨ o = 11 ∨ o = 12 ∨ o = 13 ∨ o = 14 ∨ o = 15 ∨ o = 16 ∨ o = 17 ∨ o = 18 ∨ o = 19 := by omega
  rw [fuel_eq]
  rcases h with h | h | h | h | h | h | h | h | h | h | h | h | h | h | h | h | h | h | h | h <;> (rw [h]; show _ = _; kernel_rfl)
theorem do_3_1 (w0 : TWrite) (b : UInt8) (o : Int) (h0 : 0 ≤ o) (h1 : o < 20) : client_Do fuel (gv 3 [w0] 1) (stepOf 4 o b) = some (gv 3 [w0, ⟨o, [b]⟩] 2, ⟨0, 0, []⟩, []) := by
  have h : o = 0 ∨ o = 1 ∨ o = 2 ∨ o = 3 ∨ o = 4 ∨ o = 5 ∨ o = 6 ∨ o = 7 ∨ o = 8 ∨ o = 9 ∨ o = 10 ∨ o = 11 ∨ o = 12 ∨ o = 13 ∨ o = 14 ∨ o = 15 ∨ o = 16 ∨ o = 17 ∨ o = 18 ∨ o = 19 := by omega
  rw [fuel_eq]
  rcases h with h | h | h | h | h | h | h | h | h | h | h | h | h | h | h | h | h | h | h | h <;> (rw [h]; show _ = _; kernel_rfl)
theorem do_3_2 (w0 w1 : TWrite) (b : UInt8) (o : Int) (h0 : 0 ≤ o) (h1 : o < 20) : client_Do fuel (gv 3 [w0, w1] 2) (stepOf 4 o b) = some (gv 3 [w0, w1, ⟨o, [b]⟩] 3, ⟨0, 0, []⟩, []) := by
  have h : o = 0 ∨ o = 1 ∨ o = 2 ∨ o = 3 ∨ o = 4 ∨ o = 5 ∨ o = 6 ∨ o = 7 ∨ o = 8 ∨ o = 9 ∨ o = 10 ∨ o = 11 ∨ o = 12 ∨ o = 13 ∨ o = 14 ∨ o = 15 ∨ o = 16 ∨ o = 17 ∨ o = 18 ∨ o = 19 := by omega
  rw [fuel_eq]
  rcases h with h | h | h | h | h | h | h | h | h | h | h | h | h | h | h | h | h | h | h | h <;> (rw [h]; show _ = _; kernel_rfl)
theorem do_3_3 (w0 w1 w2 : TWrite) (b : UInt8) (o : Int) (h0 : 0 ≤ o) (h1 : o < 20) : client_Do fuel (gv 3 [w0, w1, w2] 3) (stepOf 4 o b) = some (gv 3 [w0, w1, w2, ⟨o, [b]⟩] 4, ⟨0, 0, []⟩, []) := by
  have h : o = 0 ∨ o = 1 ∨ o = 2 ∨ o = 3 ∨ o = 4 ∨ o = 5 ∨ o = 6 ∨ o = 7 ∨ o = 8 ∨ o = 9 ∨ o = 10 ∨ o = 11 ∨ o = 12 ∨ o = 13 ∨ o = 14 ∨ o = 15 ∨ o = 16 ∨ o = 17 ∨ o = 18 ∨ o = 19 := by omega
  rw [fuel_eq]
  rcases h with h | h | h | h | h | h | h | h | h | h | h | h | h | h | h | h | h | h | h | h <;> (rw [h]; show _ = _; kernel_rfl)
theorem do_3_4 (w0 w1 w2 w3 : TWrite) (b : UInt8) (o : Int) (h0 : 0 ≤ o) (h1 : o < 20) : client_Do fuel (gv 3 [w0, w1, w2, w3] 4) (stepOf 4 o b) = some (gv 3 [w0, w1, w2, w3, ⟨o, [b]⟩] 5, ⟨0, 0, []⟩, []) := by
  have h : o = 0 ∨ o = 1 ∨ o = 2 ∨ o = 3 ∨ o = 4 ∨ o = 5 ∨ o = 6 ∨ o = 7 ∨ o = 8 ∨ o = 9 ∨ o = 10 ∨ o = 11 ∨ o = 12 ∨ o = 13 ∨ o = 14 ∨ o = 15 ∨ o = 16 ∨ o = 17 ∨ o = 18 ∨ o = 19 := by omega
  rw [fuel_eq]
  rcases h with h | h | h | h | h | h | h | h | h | h | h | h | h | h | h | h | h | h | h | h <;> (rw [h]; show _ = _; kernel_rfl)
theorem doall_3 (ds : List TWrite) (hd : ds.length < 5) (b : UInt8) (o : Int) (h0 : 0 ≤ o) (h1 : o < 20) : client_Do fuel (gv 3 ds (ds.length : Int)) (stepOf 4 o b) = some (gv 3 (ds ++ [(⟨o, [b]⟩ : TWrite)]) ((ds ++ [(⟨o, [b]⟩ : TWrite)]).length : Int), ⟨0, 0, []⟩, []) := by
  match ds, hd with
  | [], _ => exact do_3_0  b o h0 h1
  | [w0], _ => exact do_3_1 w0 b o h0 h1
  | [w0, w1], _ => exact do_3_2 w0 w1 b o h0 h1
  | [w0, w1, w2], _ => exact do_3_3 w0 w1 w2 b o h0 h1
  | [w0, w1, w2, w3], _ => exact do_3_4 w0 w1 w2 w3 b o h0 h1
  | _ :: _ :: _ :: _ :: _ :: _, hd => exact absurd hd (by simp only [List.length_cons]; omega)
theorem do_4_0 (b : UInt8) (o : Int) (h0 : 0 ≤ o) (h1 : o < 20) : client_Do fuel (gv 4 [] 0) (stepOf 5 o b) = some (gv 4 [⟨o, [b]⟩] 1, ⟨0, 0, []⟩, []) := by
  have h : o = 0 ∨ o = 1 ∨ o = 2 ∨ o = 3 ∨ o = 4 ∨ o = 5 ∨ o = 6 ∨ o = 7 ∨ o = 8 ∨ o = 9 ∨ o = 10 ∨ o = 11 ∨ o = 12 ∨ o = 13 ∨ o = 14 ∨ o = 15 ∨ o = 16 ∨ o = 17 ∨ o = 18 ∨ o = 19 := by omega
  rw [fuel_eq]
  rcases h with h | h | h | h | h | h | h | h | h | h | h | h | h | h | h | h | h | h | h | h <;> (rw [h]; show _ = _; kernel_rfl)
theorem do_4_1 (w0 : TWrite) (b : UInt8) (o : Int) (h0 : 0 ≤ o) (h1 : o < 20) : client_Do fuel (gv 4 [w0] 1) (stepOf 5 o b) = some (gv 4 [w0, ⟨o, [b]⟩] 2, ⟨0, 0, []⟩, []) := by
  have h : o = 0 ∨ o = 1 ∨ o = 2 ∨ o = 3 ∨ o = 4 ∨ o = 5 ∨ o = 6 ∨ o = 7 ∨ o = 8 ∨ o = 9 ∨ o = 10 ∨ o = 11 ∨ o = 12 ∨ o = 13 ∨ o = 14 ∨ o = 15 ∨ o = 16 ∨ o = 17 ∨ o = 18 ∨ o = 19 := by omega
  rw [fuel_eq]
  rcases h with h | h | h | h | h | h | h | h | h | h | h | h | h | h | h | h | h | h | h | h <;> (rw [h]; show _ = _; kernel_rfl)
theorem do_4_2 (w0 w1 : TWrite) (b : UInt8) (o : Int) (h0 : 0 ≤ o) (h1 : o < 20) : client_Do fuel (gv 4 [w0, w1] 2) (stepOf 5 o b) = some (gv 4 [w0, w1, ⟨o, [b]⟩] 3, ⟨0, 0, []⟩, []) := by
  have h : o = 0 ∨ o = 1 ∨ o = 2 ∨ o = 3 ∨ o = 4 ∨ o = 5 ∨ o = 6 ∨ o = 7 ∨ o = 8 ∨ o = 9 ∨ o = 10 ∨ o = 11 ∨ o = 12 ∨ o = 13 ∨ o = 14 ∨ o = 15 ∨ o = 16 ∨ o = 17 ∨ o = 18 ∨ o = 19 := by omega
  rw [fuel_eq]
  rcases h with h | h | h | h | h | h | h | h | h | h | h | h | h | h | h | h | h | h | h | h <;> (rw [h]; show _ = _; kernel_rfl)
theorem do_4_3 (w0 w1 w2 : TWrite) (b : UInt8) (o : Int) (h0 : 0 ≤ o) (h1 : o < 20) : client_Do fuel (gv 4 [w0, w1, w2] 3) (stepOf 5 o b) = some (gv 4 [w0, w1, w2, ⟨o, [b]⟩] 4, ⟨0, 0, []⟩, []) := by
  have h : o = 0 ∨ o = 1 ∨ o = 2 ∨ o = 3 ∨ o = 4 ∨ o = 5 ∨ o = 6 ∨ o = 7 ∨ o = 8 ∨ o = 9 ∨ o = 10 ∨ o = 11 ∨ o = 12 ∨ o = 13 ∨ o = 14 ∨ o = 15 ∨ o = 16 ∨ o = 17 ∨ o = 18 ∨ o = 19 := by omega
  rw [fuel_eq]
  rcases h with h | h | h | h | h | h | h | h | h | h | h | h | h | h | h | h | h | h | h | h <;> (rw [h]; show _ = _; kernel_rfl)
theorem do_4_4 (w0 w1 w2 w3 : TWrite) (b : UInt8) (o : Int) (h0 : 0 ≤ o) (h1 : o < 20) : client_Do fuel (gv 4 [w0, w1, w2, w3] 4) (stepOf 5 o b) = some (gv 4 [w0, w1, w2, w3, ⟨o, [b]⟩] 5, ⟨0, 0, []⟩, []) := by
  have h : o = 0 ∨ o = 1 ∨ o = 2 ∨ o = 3 ∨ o = 4 ∨ o = 5 ∨ o = 6 ∨ o = 7 ∨ o = 8 ∨ o = 9 ∨ o = 10 ∨ o = 11 ∨ o = 12 ∨ o = 13 ∨ o = 14 ∨ o = 15 ∨ o = 16 ∨ o = 17 ∨ o = 18 ∨ o = 19 := by omega
  rw [fuel_eq]
  rcases h with h | h | h | h | h | h | h | h | h | h | h | h | h | h | h | h | h | h | h | h <;> (rw [h]; show _ = _; kernel_rfl)
theorem doall_4 (ds : List TWrite) (hd : ds.length < 5) (b : UInt8) (o : Int) (h0 : 0 ≤ o) (h1 : o < 20) : client_Do fuel (gv 4 ds (ds.length : Int)) (stepOf 5 o b) = some (gv 4 (ds ++ [(⟨o, [b]⟩ : TWrite)]) ((ds ++ [(⟨o, [b]⟩ : TWrite)]).length : Int), ⟨0, 0, []⟩, []) := by
  match ds, hd with
  | [], _ => exact do_4_0  b o h0 h1
  | [w0], _ => exact do_4_1 w0 b o h0 h1
  | [w0, w1], _ => exact do_4_2 w0 w1 b o h0 h1
  | [w0, w1, w2], _ => exact do_4_3 w0 w1 w2 b o h0 h1
  | [w0, w1, w2, w3], _ => exact do_4_4 w0 w1 w2 w3 b o h0 h1
  | _ :: _ :: _ :: _ :: _ :: _, hd => exact absurd hd (by simp only [List.length_cons]; omega)
theorem do_5_0 (b : UInt8) (o : Int) (h0 : 0 ≤ o) (h1 : o < 20) : client_Do fuel (gv 5 [] 0) (stepOf 6 o b) = some (gv 5 [⟨o, [b]⟩] 1, ⟨0, 0, []⟩, []) := by
  have h : o = 0 ∨ o = 1 ∨ o = 2 ∨ o = 3 ∨ o = 4 ∨ o = 5 ∨ o = 6 ∨ o = 7 ∨ o = 8 ∨ o = 9 ∨ o = 10 ∨ o = 11 ∨ o = 12 ∨ o = 13 ∨ o = 14 ∨ o = 15 ∨ o = 16 ∨ o = 17 ∨ o = 18 ∨ o = 19 := by omega
  rw [fuel_eq]
  rcases h with h | h | h | h | h | h | h | h | h | h | h | h | h | h | h | h | h | h | h | h <;> (rw [h]; show _ = _; kernel_rfl)
theorem do_5_1 (w0 : TWrite) (b : UInt8) (o : Int) (h0 : 0 ≤ o) (h1 : o < 20) : client_Do fuel (gv 5 [w0] 1) (stepOf 6 o b) = some (gv 5 [w0, ⟨o, [b]⟩] 2, ⟨0, 0, []⟩, []) := by
  have h : o = 0 ∨ o = 1 ∨ o = 2 ∨ o = 3 ∨ o = 4 ∨ o = 5 ∨ o = 6 ∨ o = 7 ∨ o = 8 ∨ o = 9 ∨ o = 10 ∨ o = 11 ∨ o = 12 ∨ o = 13 ∨ o = 14 ∨ o = 15 ∨ o = 16 ∨ o = 17 ∨ o = 18 ∨ o = 19 := by omega
  rw [fuel_eq]
  rcases h with h | h | h | h | h | h | h | h | h | h | h | h | h | h | h | h | h | h | h | h <;> (rw [h]; show _ = _; kernel_rfl)
theorem do_5_2 (w0 w1 : TWrite) (b : UInt8) (o : Int) (h0 : 0 ≤ o) (h1 : o < 20) : client_Do fuel (gv 5 [w0, w1] 2) (stepOf 6 o b) = some (gv 5 [w0, w1, ⟨o, [b]⟩] 3, ⟨0, 0, []⟩, []) := by
  have h : o = 0 ∨ o = 1 ∨ o = 2 ∨ o = 3 ∨ o = 4 ∨ o = 5 ∨ o = 6 ∨ o = 7 ∨ o = 8 ∨ o = 9 ∨ o = 10 ∨ o = 11 ∨ o = 12 ∨ o = 13 ∨ o = 14 ∨ o = 15 ∨ o = 16 ∨ o = 17 ∨ o = 18 ∨ o = 19 := by omega
  rw [fuel_eq]
  rcases h with h | h | h | h | h | h | h | h | h | h | h | h | h | h | h | h | h | h | h | h <;> (rw [h]; show _ = _; kernel_rfl)
theorem do_5_3 (w0 w1 w2 : TWrite) (b : UInt8) (o : Int) (h0 : 0 ≤ o) (h1 : o < 20) : client_Do fuel (gv 5 [w0, w1, w2] 3) (stepOf 6 o b) = some (gv 5 [w0, w1, w2, ⟨o, [b]⟩] 4, ⟨0, 0, []⟩, []) := by
  have h : o = 0 ∨ o = 1 ∨ o = 2 ∨ o = 3 ∨ o = 4 ∨ o = 5 ∨ o = 6 ∨ o = 7 ∨ o = 8 ∨ o = 9 ∨ o = 10 ∨ o = 11 ∨ o = 12 ∨ o = 13 ∨ o = 14 ∨ o = 15 ∨ o = 16 ∨ o = 17 ∨ o = 18 ∨ o = 19 := by omega
  rw [fuel_eq]
  rcases h with h | h | h | h | h | h | h | h | h | h | h | h | h | h | h | h | h | h | h | h <;> (rw [h]; show _ = _; kernel_rfl)
theorem do_5_4 (w0 w1 w2 w3 : TWrite) (b : UInt8) (o : Int) (h0 : 0 ≤ o) (h1 : o < 20) : client_Do fuel (gv 5 [w0, w1, w2, w3] 4) (stepOf 6 o b) = some (gv 5 [w0, w1, w2, w3, ⟨o, [b]⟩] 5, ⟨0, 0, []⟩, []) := by
  have h : o = 0 ∨ o = 1 ∨ o = 2 ∨ o = 3 ∨ o = 4 ∨ o = 5 ∨ o = 6 ∨ o = 7 ∨ o = 8 ∨ o = 9 ∨ o = 10 ∨ o = 11 ∨ o = 12 ∨ o = 13 ∨ o = 14 ∨ o = 15 ∨ o = 16 ∨ o = 17 ∨ o = 18 ∨ o = 19 := by omega
  rw [fuel_eq]
  rcases h with h | h | h | h | h | h | h | h | h | h | h | h | h | h | h | h | h | h | h | h <;> (rw [h]; show _ = _; kernel_rfl)
theorem doall_5 (ds : List TWrite) (hd : ds.length < 5) (b : UInt8) (o : Int) (h0 : 0 ≤ o) (h1 : o < 20) : client_Do fuel (gv 5 ds (ds.length : Int)) (stepOf 6 o b) = some (gv 5 (ds ++ [(⟨o, [b]⟩ : TWrite)]) ((ds ++ [(⟨o, [b]⟩ : TWrite)]).length : Int), ⟨0, 0, []⟩, []) := by
  match ds, hd with
  | [], _ => exact do_5_0  b o h0 h1
  | [w0], _ => exact do_5_1 w0 b o h0 h1
  | [w0, w1], _ => exact do_5_2 w0 w1 b o h0 h1
  | [w0, w1, w2], _ => exact do_5_3 w0 w1 w2 b o h0 h1
  | [w0, w1, w2, w3], _ => exact do_5_4 w0 w1 w2 w3 b o h0 h1
  | _ :: _ :: _ :: _ :: _ :: _, hd => exact absurd hd (by simp only [List.length_cons]; omega)
theorem call_0_0 : (ref13_PutTell fuel (TTell.mk 2 2 0 0 0 1 0 0 [])).bind (client_Comes fuel (gv 0 [] 0)) = some (gx 1 [] 0, [give 1 []]) := by rw [fuel_eq]; kernel_rfl
theorem again_0_0 : (ref13_PutTell fuel (TTell.mk 2 2 0 0 0 1 0 0 [])).bind (client_Comes fuel (gx 1 [] 0)) = some (gx 1 [] 0, []) := by rw [fuel_eq]; kernel_rfl
theorem same_0_0 : ref19_SameClient fuel (gx 1 [] 0) (gx 1 [] 0) = (ref13_SameAsk fuel (give 1 []) (give 1 [])).bind fun r => some r := by rw [fuel_eq]; kernel_rfl
theorem call_0_1 (w0 : TWrite) : (ref13_PutTell fuel (TTell.mk 2 2 0 0 0 1 0 0 [])).bind (client_Comes fuel (gv 0 [w0] 1)) = some (gx 1 [w0] 1, [give 1 [w0]]) := by rw [fuel_eq]; kernel_rfl
theorem again_0_1 (w0 : TWrite) : (ref13_PutTell fuel (TTell.mk 2 2 0 0 0 1 0 0 [])).bind (client_Comes fuel (gx 1 [w0] 1)) = some (gx 1 [w0] 1, []) := by rw [fuel_eq]; kernel_rfl
theorem same_0_1 (w0 : TWrite) : ref19_SameClient fuel (gx 1 [w0] 1) (gx 1 [w0] 1) = (ref13_SameAsk fuel (give 1 [w0]) (give 1 [w0])).bind fun r => some r := by rw [fuel_eq]; kernel_rfl
theorem call_0_2 (w0 w1 : TWrite) : (ref13_PutTell fuel (TTell.mk 2 2 0 0 0 1 0 0 [])).bind (client_Comes fuel (gv 0 [w0, w1] 2)) = some (gx 1 [w0, w1] 2, [give 1 [w0, w1]]) := by rw [fuel_eq]; kernel_rfl
theorem again_0_2 (w0 w1 : TWrite) : (ref13_PutTell fuel (TTell.mk 2 2 0 0 0 1 0 0 [])).bind (client_Comes fuel (gx 1 [w0, w1] 2)) = some (gx 1 [w0, w1] 2, []) := by rw [fuel_eq]; kernel_rfl
theorem same_0_2 (w0 w1 : TWrite) : ref19_SameClient fuel (gx 1 [w0, w1] 2) (gx 1 [w0, w1] 2) = (ref13_SameAsk fuel (give 1 [w0, w1]) (give 1 [w0, w1])).bind fun r => some r := by rw [fuel_eq]; kernel_rfl
theorem call_0_3 (w0 w1 w2 : TWrite) : (ref13_PutTell fuel (TTell.mk 2 2 0 0 0 1 0 0 [])).bind (client_Comes fuel (gv 0 [w0, w1, w2] 3)) = some (gx 1 [w0, w1, w2] 3, [give 1 [w0, w1, w2]]) := by rw [fuel_eq]; kernel_rfl
theorem again_0_3 (w0 w1 w2 : TWrite) : (ref13_PutTell fuel (TTell.mk 2 2 0 0 0 1 0 0 [])).bind (client_Comes fuel (gx 1 [w0, w1, w2] 3)) = some (gx 1 [w0, w1, w2] 3, []) := by rw [fuel_eq]; kernel_rfl
theorem same_0_3 (w0 w1 w2 : TWrite) : ref19_SameClient fuel (gx 1 [w0, w1, w2] 3) (gx 1 [w0, w1, w2] 3) = (ref13_SameAsk fuel (give 1 [w0, w1, w2]) (give 1 [w0, w1, w2])).bind fun r => some r := by rw [fuel_eq]; kernel_rfl
theorem call_0_4 (w0 w1 w2 w3 : TWrite) : (ref13_PutTell fuel (TTell.mk 2 2 0 0 0 1 0 0 [])).bind (client_Comes fuel (gv 0 [w0, w1, w2, w3] 4)) = some (gx 1 [w0, w1, w2, w3] 4, [give 1 [w0, w1, w2, w3]]) := by rw [fuel_eq]; kernel_rfl
theorem again_0_4 (w0 w1 w2 w3 : TWrite) : (ref13_PutTell fuel (TTell.mk 2 2 0 0 0 1 0 0 [])).bind (client_Comes fuel (gx 1 [w0, w1, w2, w3] 4)) = some (gx 1 [w0, w1, w2, w3] 4, []) := by rw [fuel_eq]; kernel_rfl
theorem same_0_4 (w0 w1 w2 w3 : TWrite) : ref19_SameClient fuel (gx 1 [w0, w1, w2, w3] 4) (gx 1 [w0, w1, w2, w3] 4) = (ref13_SameAsk fuel (give 1 [w0, w1, w2, w3]) (give 1 [w0, w1, w2, w3])).bind fun r => some r := by rw [fuel_eq]; kernel_rfl
theorem call_0_5 (w0 w1 w2 w3 w4 : TWrite) : (ref13_PutTell fuel (TTell.mk 2 2 0 0 0 1 0 0 [])).bind (client_Comes fuel (gv 0 [w0, w1, w2, w3, w4] 5)) = some (gx 1 [w0, w1, w2, w3, w4] 5, [give 1 [w0, w1, w2, w3, w4]]) := by rw [fuel_eq]; kernel_rfl
theorem again_0_5 (w0 w1 w2 w3 w4 : TWrite) : (ref13_PutTell fuel (TTell.mk 2 2 0 0 0 1 0 0 [])).bind (client_Comes fuel (gx 1 [w0, w1, w2, w3, w4] 5)) = some (gx 1 [w0, w1, w2, w3, w4] 5, []) := by rw [fuel_eq]; kernel_rfl
theorem same_0_5 (w0 w1 w2 w3 w4 : TWrite) : ref19_SameClient fuel (gx 1 [w0, w1, w2, w3, w4] 5) (gx 1 [w0, w1, w2, w3, w4] 5) = (ref13_SameAsk fuel (give 1 [w0, w1, w2, w3, w4]) (give 1 [w0, w1, w2, w3, w4])).bind fun r => some r := by rw [fuel_eq]; kernel_rfl
theorem callall_0 (ds : List TWrite) (hd : ds.length ≤ 5) : (ref13_PutTell fuel (TTell.mk 2 2 0 0 0 1 0 0 [])).bind (client_Comes fuel (gv 0 ds (ds.length : Int))) = some (gx 1 ds (ds.length : Int), [give 1 ds]) := by
  match ds, hd with
  | [], _ => exact call_0_0
  | [w0], _ => exact call_0_1 w0
  | [w0, w1], _ => exact call_0_2 w0 w1
  | [w0, w1, w2], _ => exact call_0_3 w0 w1 w2
  | [w0, w1, w2, w3], _ => exact call_0_4 w0 w1 w2 w3
  | [w0, w1, w2, w3, w4], _ => exact call_0_5 w0 w1 w2 w3 w4
  | _ :: _ :: _ :: _ :: _ :: _ :: _, hd => exact absurd hd (by simp only [List.length_cons]; omega)
theorem againall_0 (ds : List TWrite) (hd : ds.length ≤ 5) : (ref13_PutTell fuel (TTell.mk 2 2 0 0 0 1 0 0 [])).bind (client_Comes fuel (gx 1 ds (ds.length : Int))) = some (gx 1 ds (ds.length : Int), []) := by
  match ds, hd with
  | [], _ => exact again_0_0
  | [w0], _ => exact again_0_1 w0
  | [w0, w1], _ => exact again_0_2 w0 w1
  | [w0, w1, w2], _ => exact again_0_3 w0 w1 w2
  | [w0, w1, w2, w3], _ => exact again_0_4 w0 w1 w2 w3
  | [w0, w1, w2, w3, w4], _ => exact again_0_5 w0 w1 w2 w3 w4
  | _ :: _ :: _ :: _ :: _ :: _ :: _, hd => exact absurd hd (by simp only [List.length_cons]; omega)
theorem sameall_0 (ds : List TWrite) (hd : ds.length ≤ 5) : ref19_SameClient fuel (gx 1 ds (ds.length : Int)) (gx 1 ds (ds.length : Int)) = (ref13_SameAsk fuel (give 1 ds) (give 1 ds)).bind fun r => some r := by
  match ds, hd with
  | [], _ => exact same_0_0
  | [w0], _ => exact same_0_1 w0
  | [w0, w1], _ => exact same_0_2 w0 w1
  | [w0, w1, w2], _ => exact same_0_3 w0 w1 w2
  | [w0, w1, w2, w3], _ => exact same_0_4 w0 w1 w2 w3
  | [w0, w1, w2, w3, w4], _ => exact same_0_5 w0 w1 w2 w3 w4
  | _ :: _ :: _ :: _ :: _ :: _ :: _, hd => exact absurd hd (by simp only [List.length_cons]; omega)
theorem call_1_0 : (ref13_PutTell fuel (TTell.mk 2 2 0 0 0 2 0 0 [])).bind (client_Comes fuel (gv 1 [] 0)) = some (gx 2 [] 0, [give 2 []]) := by rw [fuel_eq]; kernel_rfl
theorem again_1_0 : (ref13_PutTell fuel (TTell.mk 2 2 0 0 0 2 0 0 [])).bind (client_Comes fuel (gx 2 [] 0)) = some (gx 2 [] 0, []) := by rw [fuel_eq]; kernel_rfl
theorem same_1_0 : ref19_SameClient fuel (gx 2 [] 0) (gx 2 [] 0) = (ref13_SameAsk fuel (give 2 []) (give 2 [])).bind fun r => some r := by rw [fuel_eq]; kernel_rfl
theorem call_1_1 (w0 : TWrite) : (ref13_PutTell fuel (TTell.mk 2 2 0 0 0 2 0 0 [])).bind (client_Comes fuel (gv 1 [w0] 1)) = some (gx 2 [w0] 1, [give 2 [w0]]) := by rw [fuel_eq]; kernel_rfl
theorem again_1_1 (w0 : TWrite) : (ref13_PutTell fuel (TTell.mk 2 2 0 0 0 2 0 0 [])).bind (client_Comes fuel (gx 2 [w0] 1)) = some (gx 2 [w0] 1, []) := by rw [fuel_eq]; kernel_rfl
theorem same_1_1 (w0 : TWrite) : ref19_SameClient fuel (gx 2 [w0] 1) (gx 2 [w0] 1) = (ref13_SameAsk fuel (give 2 [w0]) (give 2 [w0])).bind fun r => some r := by rw [fuel_eq]; kernel_rfl
theorem call_1_2 (w0 w1 : TWrite) : (ref13_PutTell fuel (TTell.mk 2 2 0 0 0 2 0 0 [])).bind (client_Comes fuel (gv 1 [w0, w1] 2)) = some (gx 2 [w0, w1] 2, [give 2 [w0, w1]]) := by rw [fuel_eq]; kernel_rfl
theorem again_1_2 (w0 w1 : TWrite) : (ref13_PutTell fuel (TTell.mk 2 2 0 0 0 2 0 0 [])).bind (client_Comes fuel (gx 2 [w0, w1] 2)) = some (gx 2 [w0, w1] 2, []) := by rw [fuel_eq]; kernel_rfl
theorem same_1_2 (w0 w1 : TWrite) : ref19_SameClient fuel (gx 2 [w0, w1] 2) (gx 2 [w0, w1] 2) = (ref13_SameAsk fuel (give 2 [w0, w1]) (give 2 [w0, w1])).bind fun r => some r := by rw [fuel_eq]; kernel_rfl
theorem call_1_3 (w0 w1 w2 : TWrite) : (ref13_PutTell fuel (TTell.mk 2 2 0 0 0 2 0 0 [])).bind (client_Comes fuel (gv 1 [w0, w1, w2] 3)) = some (gx 2 [w0, w1, w2] 3, [give 2 [w0, w1, w2]]) := by rw [fuel_eq]; kernel_rfl
theorem again_1_3 (w0 w1 w2 : TWrite) : (ref13_PutTell fuel (TTell.mk 2 2 0 0 0 2 0 0 [])).bind (client_Comes fuel (gx 2 [w0, w1, w2] 3)) = some (gx 2 [w0, w1, w2] 3, []) := by rw [fuel_eq]; kernel_rfl
theorem same_1_3 (w0 w1 w2 : TWrite) : ref19_SameClient fuel (gx 2 [w0, w1, w2] 3) (gx 2 [w0, w1, w2] 3) = (ref13_SameAsk fuel (give 2 [w0, w1, w2]) (give 2 [w0, w1, w2])).bind fun r => some r := by rw [fuel_eq]; kernel_rfl
theorem call_1_4 (w0 w1 w2 w3 : TWrite) : (ref13_PutTell fuel (TTell.mk 2 2 0 0 0 2 0 0 [])).bind (client_Comes fuel (gv 1 [w0, w1, w2, w3] 4)) = some (gx 2 [w0, w1, w2, w3] 4, [give 2 [w0, w1, w2, w3]]) := by rw [fuel_eq]; kernel_rfl
theorem again_1_4 (w0 w1 w2 w3 : TWrite) : (ref13_PutTell fuel (TTell.mk 2 2 0 0 0 2 0 0 [])).bind (client_Comes fuel (gx 2 [w0, w1, w2, w3] 4)) = some (gx 2 [w0, w1, w2, w3] 4, []) := by rw [fuel_eq]; kernel_rfl
theorem same_1_4 (w0 w1 w2 w3 : TWrite) : ref19_SameClient fuel (gx 2 [w0, w1, w2, w3] 4) (gx 2 [w0, w1, w2, w3] 4) = (ref13_SameAsk fuel (give 2 [w0, w1, w2, w3]) (give 2 [w0, w1, w2, w3])).bind fun r => some r := by rw [fuel_eq]; kernel_rfl
theorem call_1_5 (w0 w1 w2 w3 w4 : TWrite) : (ref13_PutTell fuel (TTell.mk 2 2 0 0 0 2 0 0 [])).bind (client_Comes fuel (gv 1 [w0, w1, w2, w3, w4] 5)) = some (gx 2 [w0, w1, w2, w3, w4] 5, [give 2 [w0, w1, w2, w3, w4]]) := by rw [fuel_eq]; kernel_rfl
theorem again_1_5 (w0 w1 w2 w3 w4 : TWrite) : (ref13_PutTell fuel (TTell.mk 2 2 0 0 0 2 0 0 [])).bind (client_Comes fuel (gx 2 [w0, w1, w2, w3, w4] 5)) = some (gx 2 [w0, w1, w2, w3, w4] 5, []) := by rw [fuel_eq]; kernel_rfl
theorem same_1_5 (w0 w1 w2 w3 w4 : TWrite) : ref19_SameClient fuel (gx 2 [w0, w1, w2, w3, w4] 5) (gx 2 [w0, w1, w2, w3, w4] 5) = (ref13_SameAsk fuel (give 2 [w0, w1, w2, w3, w4]) (give 2 [w0, w1, w2, w3, w4])).bind fun r => some r := by rw [fuel_eq]; kernel_rfl
theorem callall_1 (ds : List TWrite) (hd : ds.length ≤ 5) : (ref13_PutTell fuel (TTell.mk 2 2 0 0 0 2 0 0 [])).bind (client_Comes fuel (gv 1 ds (ds.length : Int))) = some (gx 2 ds (ds.length : Int), [give 2 ds]) := by
  match ds, hd with
  | [], _ => exact call_1_0
  | [w0], _ => exact call_1_1 w0
  | [w0, w1], _ => exact call_1_2 w0 w1
  | [w0, w1, w2], _ => exact call_1_3 w0 w1 w2
  | [w0, w1, w2, w3], _ => exact call_1_4 w0 w1 w2 w3
  | [w0, w1, w2, w3, w4], _ => exact call_1_5 w0 w1 w2 w3 w4
  | _ :: _ :: _ :: _ :: _ :: _ :: _, hd => exact absurd hd (by simp only [List.length_cons]; omega)
theorem againall_1 (ds : List TWrite) (hd : ds.length ≤ 5) : (ref13_PutTell fuel (TTell.mk 2 2 0 0 0 2 0 0 [])).bind (client_Comes fuel (gx 2 ds (ds.length : Int))) = some (gx 2 ds (ds.length : Int), []) := by
  match ds, hd with
  | [], _ => exact again_1_0
  | [w0], _ => exact again_1_1 w0
  | [w0, w1], _ => exact again_1_2 w0 w1
  | [w0, w1, w2], _ => exact again_1_3 w0 w1 w2
  | [w0, w1, w2, w3], _ => exact again_1_4 w0 w1 w2 w3
  | [w0, w1, w2, w3, w4], _ => exact again_1_5 w0 w1 w2 w3 w4
  | _ :: _ :: _ :: _ :: _ :: _ :: _, hd => exact absurd hd (by simp only [List.length_cons]; omega)
theorem sameall_1 (ds : List TWrite) (hd : ds.length ≤ 5) : ref19_SameClient fuel (gx 2 ds (ds.length : Int)) (gx 2 ds (ds.length : Int)) = (ref13_SameAsk fuel (give 2 ds) (give 2 ds)).bind fun r => some r := by
  match ds, hd with
  | [], _ => exact same_1_0
  | [w0], _ => exact same_1_1 w0
  | [w0, w1], _ => exact same_1_2 w0 w1
  | [w0, w1, w2], _ => exact same_1_3 w0 w1 w2
  | [w0, w1, w2, w3], _ => exact same_1_4 w0 w1 w2 w3
  | [w0, w1, w2, w3, w4], _ => exact same_1_5 w0 w1 w2 w3 w4
  | _ :: _ :: _ :: _ :: _ :: _ :: _, hd => exact absurd hd (by simp only [List.length_cons]; omega)
theorem call_2_0 : (ref13_PutTell fuel (TTell.mk 2 2 0 0 0 3 0 0 [])).bind (client_Comes fuel (gv 2 [] 0)) = some (gx 3 [] 0, [give 3 []]) := by rw [fuel_eq]; kernel_rfl
theorem again_2_0 : (ref13_PutTell fuel (TTell.mk 2 2 0 0 0 3 0 0 [])).bind (client_Comes fuel (gx 3 [] 0)) = some (gx 3 [] 0, []) := by rw [fuel_eq]; kernel_rfl
theorem same_2_0 : ref19_SameClient fuel (gx 3 [] 0) (gx 3 [] 0) = (ref13_SameAsk fuel (give 3 []) (give 3 [])).bind fun r => some r := by rw [fuel_eq]; kernel_rfl
theorem call_2_1 (w0 : TWrite) : (ref13_PutTell fuel (TTell.mk 2 2 0 0 0 3 0 0 [])).bind (client_Comes fuel (gv 2 [w0] 1)) = some (gx 3 [w0] 1, [give 3 [w0]]) := by rw [fuel_eq]; kernel_rfl
theorem again_2_1 (w0 : TWrite) : (ref13_PutTell fuel (TTell.mk 2 2 0 0 0 3 0 0 [])).bind (client_Comes fuel (gx 3 [w0] 1)) = some (gx 3 [w0] 1, []) := by rw [fuel_eq]; kernel_rfl
theorem same_2_1 (w0 : TWrite) : ref19_SameClient fuel (gx 3 [w0] 1) (gx 3 [w0] 1) = (ref13_SameAsk fuel (give 3 [w0]) (give 3 [w0])).bind fun r => some r := by rw [fuel_eq]; kernel_rfl
theorem call_2_2 (w0 w1 : TWrite) : (ref13_PutTell fuel (TTell.mk 2 2 0 0 0 3 0 0 [])).bind (client_Comes fuel (gv 2 [w0, w1] 2)) = some (gx 3 [w0, w1] 2, [give 3 [w0, w1]]) := by rw [fuel_eq]; kernel_rfl
theorem again_2_2 (w0 w1 : TWrite) : (ref13_PutTell fuel (TTell.mk 2 2 0 0 0 3 0 0 [])).bind (client_Comes fuel (gx 3 [w0, w1] 2)) = some (gx 3 [w0, w1] 2, []) := by rw [fuel_eq]; kernel_rfl
theorem same_2_2 (w0 w1 : TWrite) : ref19_SameClient fuel (gx 3 [w0, w1] 2) (gx 3 [w0, w1] 2) = (ref13_SameAsk fuel (give 3 [w0, w1]) (give 3 [w0, w1])).bind fun r => some r := by rw [fuel_eq]; kernel_rfl
theorem call_2_3 (w0 w1 w2 : TWrite) : (ref13_PutTell fuel (TTell.mk 2 2 0 0 0 3 0 0 [])).bind (client_Comes fuel (gv 2 [w0, w1, w2] 3)) = some (gx 3 [w0, w1, w2] 3, [give 3 [w0, w1, w2]]) := by rw [fuel_eq]; kernel_rfl
theorem again_2_3 (w0 w1 w2 : TWrite) : (ref13_PutTell fuel (TTell.mk 2 2 0 0 0 3 0 0 [])).bind (client_Comes fuel (gx 3 [w0, w1, w2] 3)) = some (gx 3 [w0, w1, w2] 3, []) := by rw [fuel_eq]; kernel_rfl
theorem same_2_3 (w0 w1 w2 : TWrite) : ref19_SameClient fuel (gx 3 [w0, w1, w2] 3) (gx 3 [w0, w1, w2] 3) = (ref13_SameAsk fuel (give 3 [w0, w1, w2]) (give 3 [w0, w1, w2])).bind fun r => some r := by rw [fuel_eq]; kernel_rfl
theorem call_2_4 (w0 w1 w2 w3 : TWrite) : (ref13_PutTell fuel (TTell.mk 2 2 0 0 0 3 0 0 [])).bind (client_Comes fuel (gv 2 [w0, w1, w2, w3] 4)) = some (gx 3 [w0, w1, w2, w3] 4, [give 3 [w0, w1, w2, w3]]) := by rw [fuel_eq]; kernel_rfl
theorem again_2_4 (w0 w1 w2 w3 : TWrite) : (ref13_PutTell fuel (TTell.mk 2 2 0 0 0 3 0 0 [])).bind (client_Comes fuel (gx 3 [w0, w1, w2, w3] 4)) = some (gx 3 [w0, w1, w2, w3] 4, []) := by rw [fuel_eq]; kernel_rfl
theorem same_2_4 (w0 w1 w2 w3 : TWrite) : ref19_SameClient fuel (gx 3 [w0, w1, w2, w3] 4) (gx 3 [w0, w1, w2, w3] 4) = (ref13_SameAsk fuel (give 3 [w0, w1, w2, w3]) (give 3 [w0, w1, w2, w3])).bind fun r => some r := by rw [fuel_eq]; kernel_rfl
theorem call_2_5 (w0 w1 w2 w3 w4 : TWrite) : (ref13_PutTell fuel (TTell.mk 2 2 0 0 0 3 0 0 [])).bind (client_Comes fuel (gv 2 [w0, w1, w2, w3, w4] 5)) = some (gx 3 [w0, w1, w2, w3, w4] 5, [give 3 [w0, w1, w2, w3, w4]]) := by rw [fuel_eq]; kernel_rfl
theorem again_2_5 (w0 w1 w2 w3 w4 : TWrite) : (ref13_PutTell fuel (TTell.mk 2 2 0 0 0 3 0 0 [])).bind (client_Comes fuel (gx 3 [w0, w1, w2, w3, w4] 5)) = some (gx 3 [w0, w1, w2, w3, w4] 5, []) := by rw [fuel_eq]; kernel_rfl
theorem same_2_5 (w0 w1 w2 w3 w4 : TWrite) : ref19_SameClient fuel (gx 3 [w0, w1, w2, w3, w4] 5) (gx 3 [w0, w1, w2, w3, w4] 5) = (ref13_SameAsk fuel (give 3 [w0, w1, w2, w3, w4]) (give 3 [w0, w1, w2, w3, w4])).bind fun r => some r := by rw [fuel_eq]; kernel_rfl
theorem callall_2 (ds : List TWrite) (hd : ds.length ≤ 5) : (ref13_PutTell fuel (TTell.mk 2 2 0 0 0 3 0 0 [])).bind (client_Comes fuel (gv 2 ds (ds.length : Int))) = some (gx 3 ds (ds.length : Int), [give 3 ds]) := by
  match ds, hd with
  | [], _ => exact call_2_0
  | [w0], _ => exact call_2_1 w0
  | [w0, w1], _ => exact call_2_2 w0 w1
  | [w0, w1, w2], _ => exact call_2_3 w0 w1 w2
  | [w0, w1, w2, w3], _ => exact call_2_4 w0 w1 w2 w3
  | [w0, w1, w2, w3, w4], _ => exact call_2_5 w0 w1 w2 w3 w4
  | _ :: _ :: _ :: _ :: _ :: _ :: _, hd => exact absurd hd (by simp only [List.length_cons]; omega)
theorem againall_2 (ds : List TWrite) (hd : ds.length ≤ 5) : (ref13_PutTell fuel (TTell.mk 2 2 0 0 0 3 0 0 [])).bind (client_Comes fuel (gx 3 ds (ds.length : Int))) = some (gx 3 ds (ds.length : Int), []) := by
  match ds, hd with
  | [], _ => exact again_2_0
  | [w0], _ => exact again_2_1 w0
  | [w0, w1], _ => exact again_2_2 w0 w1
  | [w0, w1, w2], _ => exact again_2_3 w0 w1 w2
  | [w0, w1, w2, w3], _ => exact again_2_4 w0 w1 w2 w3
  | [w0, w1, w2, w3, w4], _ => exact again_2_5 w0 w1 w2 w3 w4
  | _ :: _ :: _ :: _ :: _ :: _ :: _, hd => exact absurd hd (by simp only [List.length_cons]; omega)
theorem sameall_2 (ds : List TWrite) (hd : ds.length ≤ 5) : ref19_SameClient fuel (gx 3 ds (ds.length : Int)) (gx 3 ds (ds.length : Int)) = (ref13_SameAsk fuel (give 3 ds) (give 3 ds)).bind fun r => some r := by
  match ds, hd with
  | [], _ => exact same_2_0
  | [w0], _ => exact same_2_1 w0
  | [w0, w1], _ => exact same_2_2 w0 w1
  | [w0, w1, w2], _ => exact same_2_3 w0 w1 w2
  | [w0, w1, w2, w3], _ => exact same_2_4 w0 w1 w2 w3
  | [w0, w1, w2, w3, w4], _ => exact same_2_5 w0 w1 w2 w3 w4
  | _ :: _ :: _ :: _ :: _ :: _ :: _, hd => exact absurd hd (by simp only [List.length_cons]; omega)
theorem call_3_0 : (ref13_PutTell fuel (TTell.mk 2 2 0 0 0 4 0 0 [])).bind (client_Comes fuel (gv 3 [] 0)) = some (gx 4 [] 0, [give 4 []]) := by rw [fuel_eq]; kernel_rfl
theorem again_3_0 : (ref13_PutTell fuel (TTell.mk 2 2 0 0 0 4 0 0 [])).bind (client_Comes fuel (gx 4 [] 0)) = some (gx 4 [] 0, []) := by rw [fuel_eq]; kernel_rfl
theorem same_3_0 : ref19_SameClient fuel (gx 4 [] 0) (gx 4 [] 0) = (ref13_SameAsk fuel (give 4 []) (give 4 [])).bind fun r => some r := by rw [fuel_eq]; kernel_rfl
theorem call_3_1 (w0 : TWrite) : (ref13_PutTell fuel (TTell.mk 2 2 0 0 0 4 0 0 [])).bind (client_Comes fuel (gv 3 [w0] 1)) = some (gx 4 [w0] 1, [give 4 [w0]]) := by rw [fuel_eq]; kernel_rfl
theorem again_3_1 (w0 : TWrite) : (ref13_PutTell fuel (TTell.mk 2 2 0 0 0 4 0 0 [])).bind (client_Comes fuel (gx 4 [w0] 1)) = some (gx 4 [w0] 1, []) := by rw [fuel_eq]; kernel_rfl
theorem same_3_1 (w0 : TWrite) : ref19_SameClient fuel (gx 4 [w0] 1) (gx 4 [w0] 1) = (ref13_SameAsk fuel (give 4 [w0]) (give 4 [w0])).bind fun r => some r := by rw [fuel_eq]; kernel_rfl
theorem call_3_2 (w0 w1 : TWrite) : (ref13_PutTell fuel (TTell.mk 2 2 0 0 0 4 0 0 [])).bind (client_Comes fuel (gv 3 [w0, w1] 2)) = some (gx 4 [w0, w1] 2, [give 4 [w0, w1]]) := by rw [fuel_eq]; kernel_rfl
theorem again_3_2 (w0 w1 : TWrite) : (ref13_PutTell fuel (TTell.mk 2 2 0 0 0 4 0 0 [])).bind (client_Comes fuel (gx 4 [w0, w1] 2)) = some (gx 4 [w0, w1] 2, []) := by rw [fuel_eq]; kernel_rfl
theorem same_3_2 (w0 w1 : TWrite) : ref19_SameClient fuel (gx 4 [w0, w1] 2) (gx 4 [w0, w1] 2) = (ref13_SameAsk fuel (give 4 [w0, w1]) (give 4 [w0, w1])).bind fun r => some r := by rw [fuel_eq]; kernel_rfl
theorem call_3_3 (w0 w1 w2 : TWrite) : (ref13_PutTell fuel (TTell.mk 2 2 0 0 0 4 0 0 [])).bind (client_Comes fuel (gv 3 [w0, w1, w2] 3)) = some (gx 4 [w0, w1, w2] 3, [give 4 [w0, w1, w2]]) := by rw [fuel_eq]; kernel_rfl
theorem again_3_3 (w0 w1 w2 : TWrite) : (ref13_PutTell fuel (TTell.mk 2 2 0 0 0 4 0 0 [])).bind (client_Comes fuel (gx 4 [w0, w1, w2] 3)) = some (gx 4 [w0, w1, w2] 3, []) := by rw [fuel_eq]; kernel_rfl
theorem same_3_3 (w0 w1 w2 : TWrite) : ref19_SameClient fuel (gx 4 [w0, w1, w2] 3) (gx 4 [w0, w1, w2] 3) = (ref13_SameAsk fuel (give 4 [w0, w1, w2]) (give 4 [w0, w1, w2])).bind fun r => some r := by rw [fuel_eq]; kernel_rfl
theorem call_3_4 (w0 w1 w2 w3 : TWrite) : (ref13_PutTell fuel (TTell.mk 2 2 0 0 0 4 0 0 [])).bind (client_Comes fuel (gv 3 [w0, w1, w2, w3] 4)) = some (gx 4 [w0, w1, w2, w3] 4, [give 4 [w0, w1, w2, w3]]) := by rw [fuel_eq]; kernel_rfl
theorem again_3_4 (w0 w1 w2 w3 : TWrite) : (ref13_PutTell fuel (TTell.mk 2 2 0 0 0 4 0 0 [])).bind (client_Comes fuel (gx 4 [w0, w1, w2, w3] 4)) = some (gx 4 [w0, w1, w2, w3] 4, []) := by rw [fuel_eq]; kernel_rfl
theorem same_3_4 (w0 w1 w2 w3 : TWrite) : ref19_SameClient fuel (gx 4 [w0, w1, w2, w3] 4) (gx 4 [w0, w1, w2, w3] 4) = (ref13_SameAsk fuel (give 4 [w0, w1, w2, w3]) (give 4 [w0, w1, w2, w3])).bind fun r => some r := by rw [fuel_eq]; kernel_rfl
theorem call_3_5 (w0 w1 w2 w3 w4 : TWrite) : (ref13_PutTell fuel (TTell.mk 2 2 0 0 0 4 0 0 [])).bind (client_Comes fuel (gv 3 [w0, w1, w2, w3, w4] 5)) = some (gx 4 [w0, w1, w2, w3, w4] 5, [give 4 [w0, w1, w2, w3, w4]]) := by rw [fuel_eq]; kernel_rfl
theorem again_3_5 (w0 w1 w2 w3 w4 : TWrite) : (ref13_PutTell fuel (TTell.mk 2 2 0 0 0 4 0 0 [])).bind (client_Comes fuel (gx 4 [w0, w1, w2, w3, w4] 5)) = some (gx 4 [w0, w1, w2, w3, w4] 5, []) := by rw [fuel_eq]; kernel_rfl
theorem same_3_5 (w0 w1 w2 w3 w4 : TWrite) : ref19_SameClient fuel (gx 4 [w0, w1, w2, w3, w4] 5) (gx 4 [w0, w1, w2, w3, w4] 5) = (ref13_SameAsk fuel (give 4 [w0, w1, w2, w3, w4]) (give 4 [w0, w1, w2, w3, w4])).bind fun r => some r := by rw [fuel_eq]; kernel_rfl
theorem callall_3 (ds : List TWrite) (hd : ds.length ≤ 5) : (ref13_PutTell fuel (TTell.mk 2 2 0 0 0 4 0 0 [])).bind (client_Comes fuel (gv 3 ds (ds.length : Int))) = some (gx 4 ds (ds.length : Int), [give 4 ds]) := by
  match ds, hd with
  | [], _ => exact call_3_0
  | [w0], _ => exact call_3_1 w0
  | [w0, w1], _ => exact call_3_2 w0 w1
  | [w0, w1, w2], _ => exact call_3_3 w0 w1 w2
  | [w0, w1, w2, w3], _ => exact call_3_4 w0 w1 w2 w3
  | [w0, w1, w2, w3, w4], _ => exact call_3_5 w0 w1 w2 w3 w4
  | _ :: _ :: _ :: _ :: _ :: _ :: _, hd => exact absurd hd (by simp only [List.length_cons]; omega)
theorem againall_3 (ds : List TWrite) (hd : ds.length ≤ 5) : (ref13_PutTell fuel (TTell.mk 2 2 0 0 0 4 0 0 [])).bind (client_Comes fuel (gx 4 ds (ds.length : Int))) = some (gx 4 ds (ds.length : Int), []) := by
  match ds, hd with
  | [], _ => exact again_3_0
  | [w0], _ => exact again_3_1 w0
  | [w0, w1], _ => exact again_3_2 w0 w1
  | [w0, w1, w2], _ => exact again_3_3 w0 w1 w2
  | [w0, w1, w2, w3], _ => exact again_3_4 w0 w1 w2 w3
  | [w0, w1, w2, w3, w4], _ => exact again_3_5 w0 w1 w2 w3 w4
  | _ :: _ :: _ :: _ :: _ :: _ :: _, hd => exact absurd hd (by simp only [List.length_cons]; omega)
theorem sameall_3 (ds : List TWrite) (hd : ds.length ≤ 5) : ref19_SameClient fuel (gx 4 ds (ds.length : Int)) (gx 4 ds (ds.length : Int)) = (ref13_SameAsk fuel (give 4 ds) (give 4 ds)).bind fun r => some r := by
  match ds, hd with
  | [], _ => exact same_3_0
  | [w0], _ => exact same_3_1 w0
  | [w0, w1], _ => exact same_3_2 w0 w1
  | [w0, w1, w2], _ => exact same_3_3 w0 w1 w2
  | [w0, w1, w2, w3], _ => exact same_3_4 w0 w1 w2 w3
  | [w0, w1, w2, w3, w4], _ => exact same_3_5 w0 w1 w2 w3 w4
  | _ :: _ :: _ :: _ :: _ :: _ :: _, hd => exact absurd hd (by simp only [List.length_cons]; omega)
theorem call_4_0 : (ref13_PutTell fuel (TTell.mk 2 2 0 0 0 5 0 0 [])).bind (client_Comes fuel (gv 4 [] 0)) = some (gx 5 [] 0, [give 5 []]) := by rw [fuel_eq]; kernel_rfl
theorem again_4_0 : (ref13_PutTell fuel (TTell.mk 2 2 0 0 0 5 0 0 [])).bind (client_Comes fuel (gx 5 [] 0)) = some (gx 5 [] 0, []) := by rw [fuel_eq]; kernel_rfl
theorem same_4_0 : ref19_SameClient fuel (gx 5 [] 0) (gx 5 [] 0) = (ref13_SameAsk fuel (give 5 []) (give 5 [])).bind fun r => some r := by rw [fuel_eq]; kernel_rfl
theorem call_4_1 (w0 : TWrite) : (ref13_PutTell fuel (TTell.mk 2 2 0 0 0 5 0 0 [])).bind (client_Comes fuel (gv 4 [w0] 1)) = some (gx 5 [w0] 1, [give 5 [w0]]) := by rw [fuel_eq]; kernel_rfl
theorem again_4_1 (w0 : TWrite) : (ref13_PutTell fuel (TTell.mk 2 2 0 0 0 5 0 0 [])).bind (client_Comes fuel (gx 5 [w0] 1)) = some (gx 5 [w0] 1, []) := by rw [fuel_eq]; kernel_rfl
theorem same_4_1 (w0 : TWrite) : ref19_SameClient fuel (gx 5 [w0] 1) (gx 5 [w0] 1) = (ref13_SameAsk fuel (give 5 [w0]) (give 5 [w0])).bind fun r => some r := by rw [fuel_eq]; kernel_rfl
theorem call_4_2 (w0 w1 : TWrite) : (ref13_PutTell fuel (TTell.mk 2 2 0 0 0 5 0 0 [])).bind (client_Comes fuel (gv 4 [w0, w1] 2)) = some (gx 5 [w0, w1] 2, [give 5 [w0, w1]]) := by rw [fuel_eq]; kernel_rfl
theorem again_4_2 (w0 w1 : TWrite) : (ref13_PutTell fuel (TTell.mk 2 2 0 0 0 5 0 0 [])).bind (client_Comes fuel (gx 5 [w0, w1] 2)) = some (gx 5 [w0, w1] 2, []) := by rw [fuel_eq]; kernel_rfl
theorem same_4_2 (w0 w1 : TWrite) : ref19_SameClient fuel (gx 5 [w0, w1] 2) (gx 5 [w0, w1] 2) = (ref13_SameAsk fuel (give 5 [w0, w1]) (give 5 [w0, w1])).bind fun r => some r := by rw [fuel_eq]; kernel_rfl
theorem call_4_3 (w0 w1 w2 : TWrite) : (ref13_PutTell fuel (TTell.mk 2 2 0 0 0 5 0 0 [])).bind (client_Comes fuel (gv 4 [w0, w1, w2] 3)) = some (gx 5 [w0, w1, w2] 3, [give 5 [w0, w1, w2]]) := by rw [fuel_eq]; kernel_rfl
theorem again_4_3 (w0 w1 w2 : TWrite) : (ref13_PutTell fuel (TTell.mk 2 2 0 0 0 5 0 0 [])).bind (client_Comes fuel (gx 5 [w0, w1, w2] 3)) = some (gx 5 [w0, w1, w2] 3, []) := by rw [fuel_eq]; kernel_rfl
theorem same_4_3 (w0 w1 w2 : TWrite) : ref19_SameClient fuel (gx 5 [w0, w1, w2] 3) (gx 5 [w0, w1, w2] 3) = (ref13_SameAsk fuel (give 5 [w0, w1, w2]) (give 5 [w0, w1, w2])).bind fun r => some r := by rw [fuel_eq]; kernel_rfl
theorem call_4_4 (w0 w1 w2 w3 : TWrite) : (ref13_PutTell fuel (TTell.mk 2 2 0 0 0 5 0 0 [])).bind (client_Comes fuel (gv 4 [w0, w1, w2, w3] 4)) = some (gx 5 [w0, w1, w2, w3] 4, [give 5 [w0, w1, w2, w3]]) := by rw [fuel_eq]; kernel_rfl
theorem again_4_4 (w0 w1 w2 w3 : TWrite) : (ref13_PutTell fuel (TTell.mk 2 2 0 0 0 5 0 0 [])).bind (client_Comes fuel (gx 5 [w0, w1, w2, w3] 4)) = some (gx 5 [w0, w1, w2, w3] 4, []) := by rw [fuel_eq]; kernel_rfl
theorem same_4_4 (w0 w1 w2 w3 : TWrite) : ref19_SameClient fuel (gx 5 [w0, w1, w2, w3] 4) (gx 5 [w0, w1, w2, w3] 4) = (ref13_SameAsk fuel (give 5 [w0, w1, w2, w3]) (give 5 [w0, w1, w2, w3])).bind fun r => some r := by rw [fuel_eq]; kernel_rfl
theorem call_4_5 (w0 w1 w2 w3 w4 : TWrite) : (ref13_PutTell fuel (TTell.mk 2 2 0 0 0 5 0 0 [])).bind (client_Comes fuel (gv 4 [w0, w1, w2, w3, w4] 5)) = some (gx 5 [w0, w1, w2, w3, w4] 5, [give 5 [w0, w1, w2, w3, w4]]) := by rw [fuel_eq]; kernel_rfl
theorem again_4_5 (w0 w1 w2 w3 w4 : TWrite) : (ref13_PutTell fuel (TTell.mk 2 2 0 0 0 5 0 0 [])).bind (client_Comes fuel (gx 5 [w0, w1, w2, w3, w4] 5)) = some (gx 5 [w0, w1, w2, w3, w4] 5, []) := by rw [fuel_eq]; kernel_rfl
theorem same_4_5 (w0 w1 w2 w3 w4 : TWrite) : ref19_SameClient fuel (gx 5 [w0, w1, w2, w3, w4] 5) (gx 5 [w0, w1, w2, w3, w4] 5) = (ref13_SameAsk fuel (give 5 [w0, w1, w2, w3, w4]) (give 5 [w0, w1, w2, w3, w4])).bind fun r => some r := by rw [fuel_eq]; kernel_rfl
theorem callall_4 (ds : List TWrite) (hd : ds.length ≤ 5) : (ref13_PutTell fuel (TTell.mk 2 2 0 0 0 5 0 0 [])).bind (client_Comes fuel (gv 4 ds (ds.length : Int))) = some (gx 5 ds (ds.length : Int), [give 5 ds]) := by
  match ds, hd with
  | [], _ => exact call_4_0
  | [w0], _ => exact call_4_1 w0
  | [w0, w1], _ => exact call_4_2 w0 w1
  | [w0, w1, w2], _ => exact call_4_3 w0 w1 w2
  | [w0, w1, w2, w3], _ => exact call_4_4 w0 w1 w2 w3
  | [w0, w1, w2, w3, w4], _ => exact call_4_5 w0 w1 w2 w3 w4
  | _ :: _ :: _ :: _ :: _ :: _ :: _, hd => exact absurd hd (by simp only [List.length_cons]; omega)
theorem againall_4 (ds : List TWrite) (hd : ds.length ≤ 5) : (ref13_PutTell fuel (TTell.mk 2 2 0 0 0 5 0 0 [])).bind (client_Comes fuel (gx 5 ds (ds.length : Int))) = some (gx 5 ds (ds.length : Int), []) := by
  match ds, hd with
  | [], _ => exact again_4_0
  | [w0], _ => exact again_4_1 w0
  | [w0, w1], _ => exact again_4_2 w0 w1
  | [w0, w1, w2], _ => exact again_4_3 w0 w1 w2
  | [w0, w1, w2, w3], _ => exact again_4_4 w0 w1 w2 w3
  | [w0, w1, w2, w3, w4], _ => exact again_4_5 w0 w1 w2 w3 w4
  | _ :: _ :: _ :: _ :: _ :: _ :: _, hd => exact absurd hd (by simp only [List.length_cons]; omega)
theorem sameall_4 (ds : List TWrite) (hd : ds.length ≤ 5) : ref19_SameClient fuel (gx 5 ds (ds.length : Int)) (gx 5 ds (ds.length : Int)) = (ref13_SameAsk fuel (give 5 ds) (give 5 ds)).bind fun r => some r := by
  match ds, hd with
  | [], _ => exact same_4_0
  | [w0], _ => exact same_4_1 w0
  | [w0, w1], _ => exact same_4_2 w0 w1
  | [w0, w1, w2], _ => exact same_4_3 w0 w1 w2
  | [w0, w1, w2, w3], _ => exact same_4_4 w0 w1 w2 w3
  | [w0, w1, w2, w3, w4], _ => exact same_4_5 w0 w1 w2 w3 w4
  | _ :: _ :: _ :: _ :: _ :: _ :: _, hd => exact absurd hd (by simp only [List.length_cons]; omega)
theorem call_5_0 : (ref13_PutTell fuel (TTell.mk 2 2 0 0 0 6 0 0 [])).bind (client_Comes fuel (gv 5 [] 0)) = some (gx 6 [] 0, [give 6 []]) := by rw [fuel_eq]; kernel_rfl
theorem again_5_0 : (ref13_PutTell fuel (TTell.mk 2 2 0 0 0 6 0 0 [])).bind (client_Comes fuel (gx 6 [] 0)) = some (gx 6 [] 0, []) := by rw [fuel_eq]; kernel_rfl
theorem same_5_0 : ref19_SameClient fuel (gx 6 [] 0) (gx 6 [] 0) = (ref13_SameAsk fuel (give 6 []) (give 6 [])).bind fun r => some r := by rw [fuel_eq]; kernel_rfl
theorem call_5_1 (w0 : TWrite) : (ref13_PutTell fuel (TTell.mk 2 2 0 0 0 6 0 0 [])).bind (client_Comes fuel (gv 5 [w0] 1)) = some (gx 6 [w0] 1, [give 6 [w0]]) := by rw [fuel_eq]; kernel_rfl
theorem again_5_1 (w0 : TWrite) : (ref13_PutTell fuel (TTell.mk 2 2 0 0 0 6 0 0 [])).bind (client_Comes fuel (gx 6 [w0] 1)) = some (gx 6 [w0] 1, []) := by rw [fuel_eq]; kernel_rfl
theorem same_5_1 (w0 : TWrite) : ref19_SameClient fuel (gx 6 [w0] 1) (gx 6 [w0] 1) = (ref13_SameAsk fuel (give 6 [w0]) (give 6 [w0])).bind fun r => some r := by rw [fuel_eq]; kernel_rfl
theorem call_5_2 (w0 w1 : TWrite) : (ref13_PutTell fuel (TTell.mk 2 2 0 0 0 6 0 0 [])).bind (client_Comes fuel (gv 5 [w0, w1] 2)) = some (gx 6 [w0, w1] 2, [give 6 [w0, w1]]) := by rw [fuel_eq]; kernel_rfl
theorem again_5_2 (w0 w1 : TWrite) : (ref13_PutTell fuel (TTell.mk 2 2 0 0 0 6 0 0 [])).bind (client_Comes fuel (gx 6 [w0, w1] 2)) = some (gx 6 [w0, w1] 2, []) := by rw [fuel_eq]; kernel_rfl
theorem same_5_2 (w0 w1 : TWrite) : ref19_SameClient fuel (gx 6 [w0, w1] 2) (gx 6 [w0, w1] 2) = (ref13_SameAsk fuel (give 6 [w0, w1]) (give 6 [w0, w1])).bind fun r => some r := by rw [fuel_eq]; kernel_rfl
theorem call_5_3 (w0 w1 w2 : TWrite) : (ref13_PutTell fuel (TTell.mk 2 2 0 0 0 6 0 0 [])).bind (client_Comes fuel (gv 5 [w0, w1, w2] 3)) = some (gx 6 [w0, w1, w2] 3, [give 6 [w0, w1, w2]]) := by rw [fuel_eq]; kernel_rfl
theorem again_5_3 (w0 w1 w2 : TWrite) : (ref13_PutTell fuel (TTell.mk 2 2 0 0 0 6 0 0 [])).bind (client_Comes fuel (gx 6 [w0, w1, w2] 3)) = some (gx 6 [w0, w1, w2] 3, []) := by rw [fuel_eq]; kernel_rfl
theorem same_5_3 (w0 w1 w2 : TWrite) : ref19_SameClient fuel (gx 6 [w0, w1, w2] 3) (gx 6 [w0, w1, w2] 3) = (ref13_SameAsk fuel (give 6 [w0, w1, w2]) (give 6 [w0, w1, w2])).bind fun r => some r := by rw [fuel_eq]; kernel_rfl
theorem call_5_4 (w0 w1 w2 w3 : TWrite) : (ref13_PutTell fuel (TTell.mk 2 2 0 0 0 6 0 0 [])).bind (client_Comes fuel (gv 5 [w0, w1, w2, w3] 4)) = some (gx 6 [w0, w1, w2, w3] 4, [give 6 [w0, w1, w2, w3]]) := by rw [fuel_eq]; kernel_rfl
theorem again_5_4 (w0 w1 w2 w3 : TWrite) : (ref13_PutTell fuel (TTell.mk 2 2 0 0 0 6 0 0 [])).bind (client_Comes fuel (gx 6 [w0, w1, w2, w3] 4)) = some (gx 6 [w0, w1, w2, w3] 4, []) := by rw [fuel_eq]; kernel_rfl
theorem same_5_4 (w0 w1 w2 w3 : TWrite) : ref19_SameClient fuel (gx 6 [w0, w1, w2, w3] 4) (gx 6 [w0, w1, w2, w3] 4) = (ref13_SameAsk fuel (give 6 [w0, w1, w2, w3]) (give 6 [w0, w1, w2, w3])).bind fun r => some r := by rw [fuel_eq]; kernel_rfl
theorem call_5_5 (w0 w1 w2 w3 w4 : TWrite) : (ref13_PutTell fuel (TTell.mk 2 2 0 0 0 6 0 0 [])).bind (client_Comes fuel (gv 5 [w0, w1, w2, w3, w4] 5)) = some (gx 6 [w0, w1, w2, w3, w4] 5, [give 6 [w0, w1, w2, w3, w4]]) := by rw [fuel_eq]; kernel_rfl
theorem again_5_5 (w0 w1 w2 w3 w4 : TWrite) : (ref13_PutTell fuel (TTell.mk 2 2 0 0 0 6 0 0 [])).bind (client_Comes fuel (gx 6 [w0, w1, w2, w3, w4] 5)) = some (gx 6 [w0, w1, w2, w3, w4] 5, []) := by rw [fuel_eq]; kernel_rfl
theorem same_5_5 (w0 w1 w2 w3 w4 : TWrite) : ref19_SameClient fuel (gx 6 [w0, w1, w2, w3, w4] 5) (gx 6 [w0, w1, w2, w3, w4] 5) = (ref13_SameAsk fuel (give 6 [w0, w1, w2, w3, w4]) (give 6 [w0, w1, w2, w3, w4])).bind fun r => some r := by rw [fuel_eq]; kernel_rfl
theorem callall_5 (ds : List TWrite) (hd : ds.length ≤ 5) : (ref13_PutTell fuel (TTell.mk 2 2 0 0 0 6 0 0 [])).bind (client_Comes fuel (gv 5 ds (ds.length : Int))) = some (gx 6 ds (ds.length : Int), [give 6 ds]) := by
  match ds, hd with
  | [], _ => exact call_5_0
  | [w0], _ => exact call_5_1 w0
  | [w0, w1], _ => exact call_5_2 w0 w1
  | [w0, w1, w2], _ => exact call_5_3 w0 w1 w2
  | [w0, w1, w2, w3], _ => exact call_5_4 w0 w1 w2 w3
  | [w0, w1, w2, w3, w4], _ => exact call_5_5 w0 w1 w2 w3 w4
  | _ :: _ :: _ :: _ :: _ :: _ :: _, hd => exact absurd hd (by simp only [List.length_cons]; omega)
theorem againall_5 (ds : List TWrite) (hd : ds.length ≤ 5) : (ref13_PutTell fuel (TTell.mk 2 2 0 0 0 6 0 0 [])).bind (client_Comes fuel (gx 6 ds (ds.length : Int))) = some (gx 6 ds (ds.length : Int), []) := by
  match ds, hd with
  | [], _ => exact again_5_0
  | [w0], _ => exact again_5_1 w0
  | [w0, w1], _ => exact again_5_2 w0 w1
  | [w0, w1, w2], _ => exact again_5_3 w0 w1 w2
  | [w0, w1, w2, w3], _ => exact again_5_4 w0 w1 w2 w3
  | [w0, w1, w2, w3, w4], _ => exact again_5_5 w0 w1 w2 w3 w4
  | _ :: _ :: _ :: _ :: _ :: _ :: _, hd => exact absurd hd (by simp only [List.length_cons]; omega)
theorem sameall_5 (ds : List TWrite) (hd : ds.length ≤ 5) : ref19_SameClient fuel (gx 6 ds (ds.length : Int)) (gx 6 ds (ds.length : Int)) = (ref13_SameAsk fuel (give 6 ds) (give 6 ds)).bind fun r => some r := by
  match ds, hd with
  | [], _ => exact same_5_0
  | [w0], _ => exact same_5_1 w0
  | [w0, w1], _ => exact same_5_2 w0 w1
  | [w0, w1, w2], _ => exact same_5_3 w0 w1 w2
  | [w0, w1, w2, w3], _ => exact same_5_4 w0 w1 w2 w3
  | [w0, w1, w2, w3, w4], _ => exact same_5_5 w0 w1 w2 w3 w4
  | _ :: _ :: _ :: _ :: _ :: _ :: _, hd => exact absurd hd (by simp only [List.length_cons]; omega)

theorem gives_loop (j : Nat) (n : Int) (o1 : TAns) (picks : List UInt8) (hp : picks.length ≤ 12)
    (hdo : ∀ (ds : List TWrite), ds.length < 5 → ∀ (b : UInt8) (o : Int), 0 ≤ o → o < 20 → client_Do fuel (gv j ds (ds.length : Int)) (stepOf n o b) = some (gv j (ds ++ [(⟨o, [b]⟩ : TWrite)]) ((ds ++ [(⟨o, [b]⟩ : TWrite)]).length : Int), ⟨0, 0, []⟩, [])) :
    ∃ ds : List TWrite, ds.length ≤ 5 ∧ law20_ClientGives_l0 fuel picks n o1 0 (gv j [] 0) [] = some (.inr (gv j ds (ds.length : Int), ds)) := by
  have key : ∀ (r : List UInt8) (i : Nat) (k : Nat) (ds : List TWrite), picks.drop i = r → i ≤ picks.length → r.length < k → ds.length ≤ 5 → ∃ ds' : List TWrite, ds'.length ≤ 5 ∧ iter (law20_ClientGives_s0 fuel picks n o1) k ((i : Int), gv j ds (ds.length : Int), ds) = some (.inr (gv j ds' (ds'.length : Int), ds')) := by
    intro r
    induction r with
    | nil =>
      intro i k ds hd hil hn hl
      have : i = picks.length := Nat.le_antisymm hil (List.drop_eq_nil_iff.1 hd)
      subst this
      cases k with
      | zero => exact absurd hn (Nat.not_lt_zero _)
      | succ k =>
        refine ⟨ds, hl, ?_⟩
        rw [iter_succ]
        simp only [law20_ClientGives_s0, law20_ClientGives_s0k, ge_dec, cond_false, some_bind, alt_inr]
    | cons y r ih =>
      intro i k ds hd hil hn hl
      have hlt : i < picks.length := by
        rcases Nat.lt_or_ge i picks.length with h | h
        · exact h
        · rw [List.drop_eq_nil_iff.2 h] at hd; cases hd
      have ha : picks[i]? = some y := by
        have := List.getElem?_drop (xs := picks) (i := i) (j := 0)
        rw [hd] at this
        simpa using this.symm
      have hr : picks.drop (i + 1) = r := by
        have := List.drop_drop (l := picks) (i := 1) (j := i)
        rw [hd] at this
        simpa using this.symm
      cases k with
      | zero => exact absurd hn (Nat.not_lt_zero _)
      | succ k =>
        rw [iter_succ]
        simp only [law20_ClientGives_s0, law20_ClientGives_s0k, lt_dec hlt, cond_true]
        by_cases h5 : ds.length < 5
        · obtain ⟨g1, g2⟩ := tmod_range y 20 (by omega)
          obtain ⟨g, hgg⟩ : ∃ g, (i8 y).tmod 20 = g := ⟨_, rfl⟩
          rw [hgg] at g1 g2
          have e8 : wi64 (i8 (b8 g)) = g := by rw [i8_b8 g1 (by omega), wi64_of (by omega) (by omega)]
          rw [decide_eq_true (show (ds.length : Int) < 5 by omega), inR_nat hlt, Int.toNat_natCast, ha]
          simp only [cond_true, some_bind, hgg, e8]
          have hd0 := hdo ds h5 (b8 (wu8 (97 + (i8 (b8 ((i8 y).tmod 26)))))) g g1 g2
          unfold stepOf at hd0
          rw [hd0, some_bind, decide_eq_true (show ds.length + 1 ≤ lim by rw [show lim = 2147483648 from rfl]; omega), wi64_succ (by omega)]
          have d0 : (((⟨0, 0, []⟩ : TAns)).Err != 0) = false := rfl
          simp only [d0, cond_false, cond_true, some_bind, alt_inl]
          exact ih (i + 1) k _ hr hlt (by simp at hn; omega) (by simp; omega)
        · refine ⟨ds, hl, ?_⟩
          rw [decide_eq_false (show ¬ (ds.length : Int) < 5 by omega)]
          simp only [cond_false, some_bind, alt_inr]
  exact key picks 0 fuel [] rfl (Nat.zero_le _) (fuel_gt (by omega)) (by simp)

theorem want_loop (n : Int) (o0 : TClient) (o1 : TAns) (x : TClient) (k : Int) (ds : List TWrite) (hd : ds.length ≤ 5) : law20_ClientGives_l1 fuel n [give k ds] o0 o1 x ds 0 = some (.inr ()) := by
  have h := iter_list0 (xs := ds) (step := law20_ClientGives_s1 n [give k ds] o0 o1 x ds) (fun i (_ : Unit) => (i : Int)) (fun _ _ => some (.inl ())) (fun _ => .inr ()) (fun i _ w hw => ?_) (fun _ => ?_) () (fuel_gt (by omega))
  · have : runL (S := Unit) (X := Unit ⊕ Unit) (fun (_ : TWrite) _ => some (.inl ())) (fun _ => .inr ()) ds () = some (.inr ()) := by
      clear h hd
      induction ds with
      | nil => rfl
      | cons a r ih => exact ih
    rw [← this]
    exact h
  · have hi := at_of hw
    have d3 : inR 0 [give k ds].length = true := rfl
    have d4 : [give k ds][0]? = some (give k ds) := rfl
    have d5 : (give k ds).Writes = ds := rfl
    simp only [law20_ClientGives_s1, law20_ClientGives_s1k, lt_dec hi, inR_nat hi, Int.toNat_natCast, hw, cond_true, some_bind, d3, d4, d5, (write_eqb w w).2 rfl, Bool.not_true, cond_false, wi64_succ (Nat.lt_of_lt_of_le hi (by omega))]
    rfl
  · simp only [law20_ClientGives_s1, law20_ClientGives_s1k, ge_dec, cond_false]

/-- Behind the loop. -/
noncomputable def tail (n : Int) (o1 : TAns) (b_7 : TClient × List TWrite) : Option Bool :=
  ((ref13_PutTell fuel (TTell.mk 2 2 0 0 0 n 0 0 []))).bind fun r_8 =>
  ((client_Comes fuel b_7.1 r_8)).bind fun r_9 =>
  bif ((r_9.2.length : Int) != 1) then some false
  else bif (inR 0 r_9.2.length) then (((r_9.2[0]?)).bind fun y_10 =>
      bif (y_10.Kind != 4) then some false
      else bif (inR 0 r_9.2.length) then (((r_9.2[0]?)).bind fun y_11 =>
          bif (y_11.File != n) then some false
          else bif (inR 0 r_9.2.length) then (((r_9.2[0]?)).bind fun y_12 =>
              bif ((y_12.Writes.length : Int) != (b_7.2.length : Int)) then some false
              else bif ((r_9.1.Files.length : Int) != 6) then some false
                else bif (inR (wi64 (n - 1)) r_9.1.Files.length) then (((r_9.1.Files[(wi64 (n - 1)).toNat]?)).bind fun y_13 =>
                    bif ((ref19_Valid y_13 0) != 0) then some false
                    else bif (inR (wi64 (n - 1)) r_9.1.Files.length) then (((r_9.1.Files[(wi64 (n - 1)).toNat]?)).bind fun y_14 =>
                        bif ((y_14.Dirty.length : Int) != 0) then some false
                        else ((law20_ClientGives_l1 fuel n r_9.2 b_7.1 o1 r_9.1 b_7.2 0)).bind fun r_15 =>
                          alt r_15 (fun a_16 => some false) (fun b_17 =>
                            ((ref13_PutTell fuel (TTell.mk 2 2 0 0 0 n 0 0 []))).bind fun r_18 =>
                            ((client_Comes fuel r_9.1 r_18)).bind fun r_19 =>
                            bif ((r_19.2.length : Int) == 0) then (((ref19_SameClient fuel r_19.1 r_9.1)).bind fun r_20 => some r_20)
                            else some false))
                      else none)
                  else none)
            else none)
        else none)
    else none

theorem law_eq (picks : List UInt8) (f : UInt8) : law20_ClientGives fuel picks f = (law20_begun fuel).bind fun r_1 =>
    bif (!r_1) then some false else bif (decide ((picks.length : Int) > 12)) then some true
    else (client_Do fuel (client_New 2) (TStep.mk 5 2 0 (wi64 (1 + (wi64 (i8 (b8 ((i8 f).tmod 6)))))) 0 0 0 [120] [])).bind fun r_2 =>
      bif ((r_2.2.2.length : Int) != 1) then some false
      else ((ref13_PutTell fuel (TTell.mk 1 2 0 1 0 (wi64 (1 + (wi64 (i8 (b8 ((i8 f).tmod 6)))))) 2 1 []))).bind fun r_3 =>
        ((client_Comes fuel r_2.1 r_3)).bind fun r_4 =>
        ((law20_ClientGives_l0 fuel picks (wi64 (1 + (wi64 (i8 (b8 ((i8 f).tmod 6)))))) r_2.2.1 0 r_4.1 [])).bind fun r_5 =>
        alt r_5 (fun a_6 => some false) (tail (wi64 (1 + (wi64 (i8 (b8 ((i8 f).tmod 6)))))) r_2.2.1) := rfl

theorem tail_ok (j : Nat) (n : Int) (o1 : TAns) (ds : List TWrite) (hd : ds.length ≤ 5) (B : List UInt8) (e0 : ref13_PutTell fuel (TTell.mk 2 2 0 0 0 n 0 0 []) = some B)
    (e1 : (ref13_PutTell fuel (TTell.mk 2 2 0 0 0 n 0 0 [])).bind (client_Comes fuel (gv j ds (ds.length : Int))) = some (gx n ds (ds.length : Int), [give n ds]))
    (e2 : (ref13_PutTell fuel (TTell.mk 2 2 0 0 0 n 0 0 [])).bind (client_Comes fuel (gx n ds (ds.length : Int))) = some (gx n ds (ds.length : Int), []))
    (e3 : ref19_SameClient fuel (gx n ds (ds.length : Int)) (gx n ds (ds.length : Int)) = (ref13_SameAsk fuel (give n ds) (give n ds)).bind fun r => some r)
    (hn : inR (wi64 (n - 1)) 6 = true) (hf : (List.replicate 6 fr0)[(wi64 (n - 1)).toNat]? = some fr0) : tail n o1 (gv j ds (ds.length : Int), ds) = some true := by
  rw [e0, some_bind] at e1 e2
  unfold tail
  rw [e0, some_bind, e1, some_bind]
  have d1 : ((([give n ds].length : Nat) : Int) != 1) = false := rfl
  have d2 : inR 0 [give n ds].length = true := rfl
  have d3 : [give n ds][0]? = some (give n ds) := rfl
  have d4 : ((give n ds).Kind != 4) = false := rfl
  have d5 : ((give n ds).File != n) = false := by show (n != n) = false; rw [bne_self_eq_false]
  have d6 : (((give n ds).Writes.length : Int) != (ds.length : Int)) = false := by show ((ds.length : Int) != (ds.length : Int)) = false; rw [bne_self_eq_false]
  have d7 : (gx n ds (ds.length : Int)).Files = List.replicate 6 fr0 := rfl
  have d8 : (((6 : Nat) : Int) != 6) = false := rfl
  have d9 : (List.replicate 6 fr0).length = 6 := rfl
  have d10 : ((ref19_Valid fr0 0) != 0) = false := rfl
  have d11 : ((fr0.Dirty.length : Int) != 0) = false := rfl
  have d12 : ((([] : List TAsk).length : Int) == 0) = true := rfl
  simp only [d1, d2, d3, d4, d5, d6, d7, d8, d9, d10, d11, hn, hf, cond_true, cond_false, some_bind]
  rw [want_loop _ _ _ _ _ _ hd, some_bind, alt_inr, e2, some_bind, d12, e3]
  simp only [cond_true]
  rw [ref13_SameAsk_ok _ _ (by show ds.length < _; omega), sameAsk_refl]
  rfl

theorem at_case (picks : List UInt8) (f : UInt8) (j : Nat) (n : Int) (hj : (i8 f).tmod 6 = (j : Int)) (en : wi64 (1 + (wi64 (i8 (b8 (j : Int))))) = n) (c1 : TClient) (a1 : TAns) (l1 : List TAsk) (P : List UInt8)
    (q1 : client_Do fuel (client_New 2) (TStep.mk 5 2 0 n 0 0 0 [120] []) = some (c1, a1, l1)) (q2 : ((l1.length : Int) != 1) = false) (q3 : ref13_PutTell fuel (TTell.mk 1 2 0 1 0 n 2 1 []) = some P) (q4 : client_Comes fuel c1 P = some (gv j [] 0, []))
    (hdo : ∀ (ds : List TWrite), ds.length < 5 → ∀ (b : UInt8) (o : Int), 0 ≤ o → o < 20 → client_Do fuel (gv j ds (ds.length : Int)) (stepOf n o b) = some (gv j (ds ++ [(⟨o, [b]⟩ : TWrite)]) ((ds ++ [(⟨o, [b]⟩ : TWrite)]).length : Int), ⟨0, 0, []⟩, []))
    (ht : ∀ (ds : List TWrite), ds.length ≤ 5 → tail n a1 (gv j ds (ds.length : Int), ds) = some true) : law20_ClientGives fuel picks f = some true := by
  rw [law_eq, law20_begun_ok, some_bind]
  simp only [Bool.not_true, cond_false]
  by_cases hg : (picks.length : Int) > 12
  · rw [decide_eq_true hg]; rfl
  · rw [decide_eq_false hg, hj, en, q1]
    simp only [cond_false, some_bind]
    rw [q2, q3]
    simp only [cond_false, some_bind]
    rw [q4, some_bind]
    obtain ⟨ds, h1, h2⟩ := gives_loop j n a1 picks (by omega) hdo
    show ((law20_ClientGives_l0 fuel picks n a1 0 (gv j [] 0) []).bind _) = _
    rw [h2, some_bind, alt_inr]
    exact ht ds h1

noncomputable def one (n : Int) : TClient × TAns × List TAsk := (client_Do 4294967296 (client_New 2) (TStep.mk 5 2 0 n 0 0 0 [120] [])).getD (client_New 2, ⟨0, 0, []⟩, [])
noncomputable def lent (n : Int) : List UInt8 := (ref13_PutTell 4294967296 (TTell.mk 1 2 0 1 0 n 2 1 [])).getD []
noncomputable def back (n : Int) : List UInt8 := (ref13_PutTell 4294967296 (TTell.mk 2 2 0 0 0 n 0 0 [])).getD []
theorem case_0 (picks : List UInt8) (f : UInt8) (hj : (i8 f).tmod 6 = 0) : law20_ClientGives fuel picks f = some true :=
  at_case picks f 0 1 hj (by kernel_rfl) (one 1).1 (one 1).2.1 (one 1).2.2 (lent 1) (by rw [fuel_eq]; kernel_rfl) (by kernel_rfl) (by rw [fuel_eq]; kernel_rfl) (by rw [fuel_eq]; kernel_rfl) doall_0
    (fun ds hd => tail_ok 0 1 _ ds hd (back 1) (by rw [fuel_eq]; kernel_rfl) (callall_0 ds hd) (againall_0 ds hd) (sameall_0 ds hd) (by kernel_rfl) (by kernel_rfl))
theorem case_1 (picks : List UInt8) (f : UInt8) (hj : (i8 f).tmod 6 = 1) : law20_ClientGives fuel picks f = some true :=
  at_case picks f 1 2 hj (by kernel_rfl) (one 2).1 (one 2).2.1 (one 2).2.2 (lent 2) (by rw [fuel_eq]; kernel_rfl) (by kernel_rfl) (by rw [fuel_eq]; kernel_rfl) (by rw [fuel_eq]; kernel_rfl) doall_1
    (fun ds hd => tail_ok 1 2 _ ds hd (back 2) (by rw [fuel_eq]; kernel_rfl) (callall_1 ds hd) (againall_1 ds hd) (sameall_1 ds hd) (by kernel_rfl) (by kernel_rfl))
theorem case_2 (picks : List UInt8) (f : UInt8) (hj : (i8 f).tmod 6 = 2) : law20_ClientGives fuel picks f = some true :=
  at_case picks f 2 3 hj (by kernel_rfl) (one 3).1 (one 3).2.1 (one 3).2.2 (lent 3) (by rw [fuel_eq]; kernel_rfl) (by kernel_rfl) (by rw [fuel_eq]; kernel_rfl) (by rw [fuel_eq]; kernel_rfl) doall_2
    (fun ds hd => tail_ok 2 3 _ ds hd (back 3) (by rw [fuel_eq]; kernel_rfl) (callall_2 ds hd) (againall_2 ds hd) (sameall_2 ds hd) (by kernel_rfl) (by kernel_rfl))
theorem case_3 (picks : List UInt8) (f : UInt8) (hj : (i8 f).tmod 6 = 3) : law20_ClientGives fuel picks f = some true :=
  at_case picks f 3 4 hj (by kernel_rfl) (one 4).1 (one 4).2.1 (one 4).2.2 (lent 4) (by rw [fuel_eq]; kernel_rfl) (by kernel_rfl) (by rw [fuel_eq]; kernel_rfl) (by rw [fuel_eq]; kernel_rfl) doall_3
    (fun ds hd => tail_ok 3 4 _ ds hd (back 4) (by rw [fuel_eq]; kernel_rfl) (callall_3 ds hd) (againall_3 ds hd) (sameall_3 ds hd) (by kernel_rfl) (by kernel_rfl))
theorem case_4 (picks : List UInt8) (f : UInt8) (hj : (i8 f).tmod 6 = 4) : law20_ClientGives fuel picks f = some true :=
  at_case picks f 4 5 hj (by kernel_rfl) (one 5).1 (one 5).2.1 (one 5).2.2 (lent 5) (by rw [fuel_eq]; kernel_rfl) (by kernel_rfl) (by rw [fuel_eq]; kernel_rfl) (by rw [fuel_eq]; kernel_rfl) doall_4
    (fun ds hd => tail_ok 4 5 _ ds hd (back 5) (by rw [fuel_eq]; kernel_rfl) (callall_4 ds hd) (againall_4 ds hd) (sameall_4 ds hd) (by kernel_rfl) (by kernel_rfl))
theorem case_5 (picks : List UInt8) (f : UInt8) (hj : (i8 f).tmod 6 = 5) : law20_ClientGives fuel picks f = some true :=
  at_case picks f 5 6 hj (by kernel_rfl) (one 6).1 (one 6).2.1 (one 6).2.2 (lent 6) (by rw [fuel_eq]; kernel_rfl) (by kernel_rfl) (by rw [fuel_eq]; kernel_rfl) (by rw [fuel_eq]; kernel_rfl) doall_5
    (fun ds hd => tail_ok 5 6 _ ds hd (back 6) (by rw [fuel_eq]; kernel_rfl) (callall_5 ds hd) (againall_5 ds hd) (sameall_5 ds hd) (by kernel_rfl) (by kernel_rfl))

theorem law20_ClientGives_ok (picks : List UInt8) (f : UInt8) (hp : picks.length ≤ 1048576) : law20_ClientGives fuel picks f = some true := by
  obtain ⟨a, b⟩ := tmod_range f 6 (by omega)
  have hj : (i8 f).tmod 6 = 0 ∨ (i8 f).tmod 6 = 1 ∨ (i8 f).tmod 6 = 2 ∨ (i8 f).tmod 6 = 3 ∨ (i8 f).tmod 6 = 4 ∨ (i8 f).tmod 6 = 5 := by omega
  rcases hj with hj | hj | hj | hj | hj | hj
  · exact case_0 picks f hj
  · exact case_1 picks f hj
  · exact case_2 picks f hj
  · exact case_3 picks f hj
  · exact case_4 picks f hj
  · exact case_5 picks f hj
end Go.Proofs.YthabbcjjecpbmaaGreat.N

set_option linter.unusedVariables false
set_option maxRecDepth 100000
namespace Go.Proofs.YthabbcjjecpbmaaGreat
open Go Go.ChangeShapes Go.WideShapes Go.ChangeAt Go.RowKit
namespace Q7
open Go.Proofs.YthabbcjjecpbmaaGreat.D Go.Proofs.YthabbcjjecpbmaaGreat.Z

theorem law (xs : List (DVal E.T)) (h : ArgsOk E 1048576 [(.slice (.int .u8)), (.int .u8)] xs) : (B7 xs []).get = some (.ret [.val .bool true], []) := by
  match xs, h with
  | [_, _], .cons _ _ x0 _ h0 (.cons _ _ x1 _ h1 .nil) => exact (F7 x0 x1).trans ((N.law20_ClientGives_bind N.fuel _ x0 x1).trans (by rw [N.law20_ClientGives_ok x0 x1 (h0 12).1]; rfl))

theorem contract (H : Type) (enc : TypeId × Value → H) (W : World) (base : Nat) (args : Array Value) (ds gs : List (DataW H)) (before : List MemPlace)
    (hval : ∀ (j : Nat) t v, Tryz.f7.params[j]? = some t → args[j]? = some v → Value.okWide Tryz.prog W .any base t v)
    (hW : DataW.Whole enc Tryz.prog Tryz.f7.params.toList Rows.clientGivesSpec.vars false W args.toList ds gs before) (hk : ∀ d ∈ ds, Rows.uptoBulk d ≤ 1048576) :
    Calls Tryz.prog 7 args W fun e W' => ∃ v, e = .returned v ∧ Rows.clientGivesSpec.post enc Tryz.prog Tryz.f7 false true false false W args v W' :=
  law_contract sound tl laid full meas bl (fn := Tryz.f7) (tb := 4) rfl Tryz.underlying4 (ps := [(.slice (.int .u8)), (.int .u8)]) rfl
    (by
      have h : (Tryz.f7.params.toList.all fun t => Tryz.prog.readableRec t && decide (t < Tryz.prog.types.size)) = true := by kernel_rfl
      intro t ht
      have := List.all_eq_true.1 h t ht
      simpa using this) rfl
    (fun ds hd => by
      match ds, hd with
      | [x0, x1], _ => rfl)
    B7_ok law W base args ds gs before hval hW hk

theorem lifted (os : Os) (started : os.Started) (H : Type) (enc : TypeId × Value → H) (F : Stop.Interp) :
    ReturnsInHanded {} Tryz.checked os 7 .any ((Rows.OpenSpec.upto Rows.clientGivesSpec).pre6 enc Tryz.prog Tryz.f7 Rows.clientGivesUptoRow.domain false) (((Rows.OpenSpec.upto Rows.clientGivesSpec).at F).post enc Tryz.prog Tryz.f7 false true false false) := by
  refine returnsInHanded_of_cond (C := Tryz.checked) (s := Rows.OpenSpec.upto Rows.clientGivesSpec) (k := Rows.uptoSmall) rfl own started (by kernel_rfl) Tryz.func7
    (OpenSpec.witness (enc := enc) (C := Tryz.checked) (s := Rows.OpenSpec.upto Rows.clientGivesSpec) (k := Rows.uptoSmall) rfl false ⟨#[], #[.slice none 0 0, .int .u8 0], []⟩ 8 (by kernel_rfl) (by kernel_rfl) (by kernel_rfl)
      (x := ([.nil, .lit (.int .u8 0)], [], [])) (by kernel_rfl) rfl (by kernel_rfl)) ?_
  intro W base args ds gs before hval hW _ hk _
  have hgs : gs = [] := by
    obtain ⟨p, q, hA, hV, _⟩ := hW
    cases gs with
    | nil => rfl
    | cons g gs => exact hV.elim
  subst hgs
  exact contract H enc W base args ds [] before hval hW (small hk)

theorem over : Rows.clientGivesUptoRow.holds Tryz.pinned (Rows.OpenSpec.upto Rows.clientGivesSpec) :=
  OpenClaim.holds_of_cond 7 Tryz.f7 rfl rfl rfl rfl rfl rfl rfl ⟨rfl, rfl, rfl, rfl, rfl⟩ rfl rfl rfl rfl rfl (by kernel_rfl) Tryz.func7 (by kernel_rfl)
    (of_decide_eq_true (by kernel_rfl)) (by unfold Func.isWrapper; first | (rw [if_pos (by decide +kernel)]; kernel_rfl) | (rw [if_neg (by decide +kernel)]; exact ⟨rfl, rfl⟩))
    (fun os started H enc _ F => lifted os started H enc F)
end Q7
theorem clientGives_holds : Rows.ClientGivesUptoSaid := Q7.over
end Go.Proofs.YthabbcjjecpbmaaGreat

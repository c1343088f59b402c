/- The seat's functions, and the nice ones (2). Loops and whole numbers of the nice functions. -/
import Derived.Test.YthefogjlenmgfaaSeat3
import Derived.Test.YthefogjlenmgfaaBase5
import Derived.Laws.BitsLemmas
set_option linter.unusedVariables false
set_option maxRecDepth 100000
namespace Go.Proofs.Ythefogjlenmgfaa.I
open Go Go.Proofs.Ythefogjlenmgfaa.D

/-! (*tenancy/tenancymade.Picks).Writes -/
noncomputable def S25 : List (Nat × D.Spec E) := [P23, P49]
theorem S25_ok : AllS Try.prog E S25 := ⟨p23, p49, trivial⟩
abbrev h25_s0 (i : Int) (p : N.Ttenancymade_Picks) (l : List N.TWrite) : Fr E.T := ofSlots E 21 [] [0, 5, 6] [.ptr 0 [], .own 1, .val (.int .i64) i]
abbrev t25_s0 (i : Int) (p : N.Ttenancymade_Picks) (l : List N.TWrite) : St E.T := [.box false (.val (.named 5) p), .arr .live (.named 4) l]
def x25_s0 (x_ : N.Ttenancymade_Picks × List N.TWrite) : Tree (CodeOut E) := .ret (.exit 0, ofSlots E 21 [] [4, 5] [.undef, .own 1], [.box false (.val (.named 5) x_.1), .arr .live (.named 4) x_.2])
noncomputable def g25_s0 : Ins E (CodeOut E) := ⟨[.ptr 0 [], .own 1, .v (.int .i64)], [.box false (.v (.named 5)), .arr .live (.named 4)], fun i p l => .opt (N.made_Picks_Writes_l0 N.fuel i p l) (x25_s0)⟩
noncomputable def L25 : Nat → LoopInfo E := clL E 21 [{ ks := [0, 5, 6], mvs := [], pro := [.pro (.slot 5) [] (.named 4)], d := [], g := some (insF [g25_s0]) }] []
theorem f25_s0 (i : Int) (p : N.Ttenancymade_Picks) (l : List N.TWrite) : ((stepOf E S25 L25 0 0 Try.f25 (h25_s0 i p l) (t25_s0 i p l)).bind (nx E [0, 5, 6] [] [4, 5] 2)).get = N.made_Picks_Writes_s0k (fun v_ => some (.inl (h25_s0 v_.1 v_.2.1 v_.2.2, t25_s0 v_.1 v_.2.1 v_.2.2))) (fun x_ => some (.inr (.exit 0, ofSlots E 21 [] [4, 5] [.undef, .own 1], [.box false (.val (.named 5) x_.1), .arr .live (.named 4) x_.2]))) i p l := by kernel_rfl
theorem q25_s0 : InsLp 21 [0, 5, 6] [] [] (stepOf E S25 L25 0 0 Try.f25) g25_s0 := by
  intro i p l out_ ho_
  obtain ⟨x_, h1_, h2_⟩ := Option.bind_eq_some_iff.1 ho_
  refine iter_loop (rs := [4, 5]) (step := N.made_Picks_Writes_s0) (hd := fun v_ => h25_s0 v_.1 v_.2.1 v_.2.2) (sv := fun v_ => t25_s0 v_.1 v_.2.1 v_.2.2) (ex := x25_s0) (fun v_ => ?_) N.fuel (i, p, l) h1_ h2_
  refine (f25_s0 v_.1 v_.2.1 v_.2.2).trans ((N.made_Picks_Writes_s0_bind _ _ v_.1 v_.2.1 v_.2.2).trans ?_)
  refine congrArg _ (funext fun s_ => ?_)
  rcases s_ with v_ | a <;> rfl
noncomputable def B25 : List (DVal E.T) → St E.T → Tree (Res E.T × St E.T) := tidyF (dbody E (lookS S25) (lookD []) L25 0 true Try.f25)
theorem B25_ok : FnOk Try.prog E 25 B25 := tidy_fn ok (bodyC_ok sound mix S25_ok (SD := []) trivial (L := L25) (N := 0) (keep := true) Try.func25 rfl (by
  intro k g hg fr st out ho
  match k, hg with
  | 0, hg => cases hg; exact lp_ok (allLp_cons q25_s0 (allLp_nil)) fr st out ho
  | _ + 1, hg => cases hg))
theorem F25 (most : Int) (p : N.Ttenancymade_Picks) : (B25 [.ptr 0 [], .val (.int .i64) most] [.box false (.val (.named 5) p)]).get = N.made_Picks_Writes_k N.fuel (fun x_ => some (.ret [.own 1], [.box false (.val (.named 5) x_.1), .arr .live (.named 4) x_.2])) most p := by kernel_rfl
noncomputable def i25 : Ins E (Res E.T × St E.T) := ⟨[.ptr 0 [], .v (.int .i64)], [.box false (.v (.named 5))], fun most p => .opt (N.made_Picks_Writes N.fuel most p) fun x_ => .ret (.ret [.own 1], [.box false (.val (.named 5) x_.1), .arr .live (.named 4) x_.2])⟩
theorem i25_ok : InsOk Try.prog 25 i25 := ⟨B25, B25_ok, by intro most p out_ h_; exact ((F25 most p).trans (N.made_Picks_Writes_bind N.fuel _ most p)).trans h_⟩
noncomputable def P25 : Nat × D.Spec E := (25, .full [.ptr, .data (.int .i64)] false (fullF [i25]))
theorem p25 : SpecOk Try.prog E P25.1 P25.2 := fullI_ok ok Try.call25 ⟨i25_ok, trivial⟩

/-! tenancy/tenancyref7.Is -/
noncomputable def S46 : List (Nat × D.Spec E) := []
theorem S46_ok : AllS Try.prog E S46 := trivial
noncomputable def L46 : Nat → LoopInfo E := clL E 24 [] []
noncomputable def B46 : List (DVal E.T) → St E.T → Tree (Res E.T × St E.T) := dbody E (lookS S46) (lookD []) L46 0 false Try.f46
theorem B46_ok : FnOk Try.prog E 46 B46 := bodyC_ok sound mix S46_ok (SD := []) trivial (L := L46) (N := 0) (keep := false) Try.func46 rfl (by
  intro k g hg fr st out ho
  match k, hg with
  | _, hg => cases hg)
theorem F46 (s : N.TState) (file : Int) : (B46 [.val (.named 2) s, .val (.int .i64) file] []).get = N.ref7_Is_k (fun x_ => some (.ret [.val .bool x_], [])) s file := by kernel_rfl
noncomputable def i46 : Ins E (Res E.T × St E.T) := ⟨[.v (.named 2), .v (.int .i64)], [], fun s file => .opt (N.ref7_Is s file) fun x_ => .ret (.ret [.val .bool x_], [])⟩
theorem i46_ok : InsOk Try.prog 46 i46 := ⟨B46, B46_ok, by intro s file out_ h_; exact ((F46 s file).trans (N.ref7_Is_bind _ s file)).trans h_⟩
noncomputable def P46 : Nat × D.Spec E := (46, .pure [(.named 2), (.int .i64)] (pureF [i46]))
theorem p46 : SpecOk Try.prog E P46.1 P46.2 := pureI_ok Try.call46 ⟨i46_ok, trivial⟩

/-! tenancy/tenancyref7.MayWrite -/
noncomputable def S47 : List (Nat × D.Spec E) := []
theorem S47_ok : AllS Try.prog E S47 := trivial
noncomputable def L47 : Nat → LoopInfo E := clL E 26 [] []
noncomputable def B47 : List (DVal E.T) → St E.T → Tree (Res E.T × St E.T) := dbody E (lookS S47) (lookD []) L47 0 false Try.f47
theorem B47_ok : FnOk Try.prog E 47 B47 := bodyC_ok sound mix S47_ok (SD := []) trivial (L := L47) (N := 0) (keep := false) Try.func47 rfl (by
  intro k g hg fr st out ho
  match k, hg with
  | _, hg => cases hg)
theorem F47 (w : N.TWrite) : (B47 [.val (.named 4) w] []).get = N.ref7_MayWrite_k (fun x_ => some (.ret [.val .bool x_], [])) w := by kernel_rfl
noncomputable def i47 : Ins E (Res E.T × St E.T) := ⟨[.v (.named 4)], [], fun w => .ret (.ret [.val .bool (N.ref7_MayWrite w)], [])⟩
theorem i47_ok : InsOk Try.prog 47 i47 := ⟨B47, B47_ok, by intro w out_ h_; exact ((F47 w).trans (N.ref7_MayWrite_bind _ w)).trans h_⟩
noncomputable def P47 : Nat × D.Spec E := (47, .pure [(.named 4)] (pureF [i47]))
theorem p47 : SpecOk Try.prog E P47.1 P47.2 := pureI_ok Try.call47 ⟨i47_ok, trivial⟩

/-! tenancy/tenancyref7.PutWrite -/
noncomputable def S67 : List (Nat × D.Spec E) := [P47]
theorem S67_ok : AllS Try.prog E S67 := ⟨p47, trivial⟩
abbrev h67_s0 (i : Int) (w : N.TWrite) (b : List UInt8) : Fr E.T := ofSlots E 42 [] [3, 5, 6] [.ptr 0 [], .own 1, .val (.int .i64) i]
abbrev t67_s0 (i : Int) (w : N.TWrite) (b : List UInt8) : St E.T := [.box false (.val (.named 4) w), .arr .live (.int .u8) b]
def x67_s0 (i : Int) (w : N.TWrite) (x_ : List UInt8) : Tree (CodeOut E) := .ret (.exit 2, ofSlots E 42 [] [3, 4, 5, 6] [.ptr 0 [], .undef, .own 1, .val (.int .i64) i], [.box false (.val (.named 4) w), .arr .live (.int .u8) x_])
noncomputable def g67_s0 : Ins E (CodeOut E) := ⟨[.ptr 0 [], .own 1, .v (.int .i64)], [.box false (.v (.named 4)), .arr .live (.int .u8)], fun i w b => .opt (N.ref7_PutWrite_l0 N.fuel i w b) (x67_s0 i w)⟩
abbrev h67_s1 (w : N.TWrite) (i : Int) (b : List UInt8) : Fr E.T := ofSlots E 42 [] [3, 5, 6] [.ptr 0 [], .own 1, .val (.int .i64) i]
abbrev t67_s1 (w : N.TWrite) (i : Int) (b : List UInt8) : St E.T := [.box false (.val (.named 4) w), .arr .live (.int .u8) b]
def x67_s1 (w : N.TWrite) (x_ : List UInt8) : Tree (CodeOut E) := .ret (.exit 0, ofSlots E 42 [] [4, 5] [.undef, .own 1], [.box false (.val (.named 4) w), .arr .live (.int .u8) x_])
noncomputable def g67_s1 : Ins E (CodeOut E) := ⟨[.ptr 0 [], .own 1, .v (.int .i64)], [.box false (.v (.named 4)), .arr .live (.int .u8)], fun i w b => .opt (N.ref7_PutWrite_l1 N.fuel w i b) (x67_s1 w)⟩
noncomputable def L67 : Nat → LoopInfo E := clL E 42 [{ ks := [3, 5, 6], mvs := [], pro := [], d := [], g := some (insF [g67_s1]) }, { ks := [3, 5, 6], mvs := [], pro := [], d := [], g := some (insF [g67_s0]) }] []
theorem f67_s0 (i : Int) (w : N.TWrite) (b : List UInt8) : ((stepOf E S67 L67 0 1 Try.f67 (h67_s0 i w b) (t67_s0 i w b)).bind (nx E [3, 5, 6] [] [3, 4, 5, 6] 2)).get = N.ref7_PutWrite_s0k i w (fun v_ => some (.inl (h67_s0 i w v_, t67_s0 i w v_))) (fun x_ => some (.inr (.exit 2, ofSlots E 42 [] [3, 4, 5, 6] [.ptr 0 [], .undef, .own 1, .val (.int .i64) i], [.box false (.val (.named 4) w), .arr .live (.int .u8) x_]))) b := by kernel_rfl
theorem q67_s0 : InsLp 42 [3, 5, 6] [] [] (stepOf E S67 L67 0 1 Try.f67) g67_s0 := by
  intro i w b out_ ho_
  obtain ⟨x_, h1_, h2_⟩ := Option.bind_eq_some_iff.1 ho_
  refine iter_loop (rs := [3, 4, 5, 6]) (step := N.ref7_PutWrite_s0 i w) (hd := fun v_ => h67_s0 i w v_) (sv := fun v_ => t67_s0 i w v_) (ex := x67_s0 i w) (fun v_ => ?_) N.fuel b h1_ h2_
  refine (f67_s0 i w v_).trans ((N.ref7_PutWrite_s0_bind i w _ _ v_).trans ?_)
  refine congrArg _ (funext fun s_ => ?_)
  rcases s_ with v_ | a <;> rfl
theorem f67_s1 (w : N.TWrite) (i : Int) (b : List UInt8) : ((stepOf E S67 L67 0 0 Try.f67 (h67_s1 w i b) (t67_s1 w i b)).bind (nx E [3, 5, 6] [] [4, 5] 2)).get = N.ref7_PutWrite_s1k N.fuel w (fun v_ => some (.inl (h67_s1 w v_.1 v_.2, t67_s1 w v_.1 v_.2))) (fun x_ => some (.inr (.exit 0, ofSlots E 42 [] [4, 5] [.undef, .own 1], [.box false (.val (.named 4) w), .arr .live (.int .u8) x_]))) i b := by kernel_rfl
theorem q67_s1 : InsLp 42 [3, 5, 6] [] [] (stepOf E S67 L67 0 0 Try.f67) g67_s1 := by
  intro i w b out_ ho_
  obtain ⟨x_, h1_, h2_⟩ := Option.bind_eq_some_iff.1 ho_
  refine iter_loop (rs := [4, 5]) (step := N.ref7_PutWrite_s1 N.fuel w) (hd := fun v_ => h67_s1 w v_.1 v_.2) (sv := fun v_ => t67_s1 w v_.1 v_.2) (ex := x67_s1 w) (fun v_ => ?_) N.fuel (i, b) h1_ h2_
  refine (f67_s1 w v_.1 v_.2).trans ((N.ref7_PutWrite_s1_bind N.fuel w _ _ v_.1 v_.2).trans ?_)
  refine congrArg _ (funext fun s_ => ?_)
  rcases s_ with v_ | a <;> rfl
noncomputable def B67 : List (DVal E.T) → St E.T → Tree (Res E.T × St E.T) := dbody E (lookS S67) (lookD []) L67 0 false Try.f67
theorem B67_ok : FnOk Try.prog E 67 B67 := bodyC_ok sound mix S67_ok (SD := []) trivial (L := L67) (N := 0) (keep := false) Try.func67 rfl (by
  intro k g hg fr st out ho
  match k, hg with
  | 0, hg => cases hg; exact lp_ok (allLp_cons q67_s1 (allLp_nil)) fr st out ho
  | 1, hg => cases hg; exact lp_ok (allLp_cons q67_s0 (allLp_nil)) fr st out ho
  | _ + 2, hg => cases hg)
theorem F67 (body : List UInt8) (w : N.TWrite) : (B67 [.val .str body, .val (.named 4) w] []).get = N.ref7_PutWrite_k N.fuel (fun x_ => some (.ret [.val .str x_], [])) body w := by kernel_rfl
noncomputable def i67 : Ins E (Res E.T × St E.T) := ⟨[.v .str, .v (.named 4)], [], fun body w => .opt (N.ref7_PutWrite N.fuel body w) fun x_ => .ret (.ret [.val .str x_], [])⟩
theorem i67_ok : InsOk Try.prog 67 i67 := ⟨B67, B67_ok, by intro body w out_ h_; exact ((F67 body w).trans (N.ref7_PutWrite_bind N.fuel _ body w)).trans h_⟩
noncomputable def P67 : Nat × D.Spec E := (67, .pure [.str, (.named 4)] (pureF [i67]))
theorem p67 : SpecOk Try.prog E P67.1 P67.2 := pureI_ok Try.call67 ⟨i67_ok, trivial⟩

/-! tenancy/tenancyref7.All -/
noncomputable def S48 : List (Nat × D.Spec E) := [P67]
theorem S48_ok : AllS Try.prog E S48 := ⟨p67, trivial⟩
abbrev h48_s0 (l : List N.TWrite) (body : List UInt8) (i : Int) : Fr E.T := ofSlots E 19 [] [0, 1, 5] [.val .str body, .val (.slice (.named 4)) l, .val (.int .i64) i]
abbrev t48_s0 (l : List N.TWrite) (body : List UInt8) (i : Int) : St E.T := []
def x48_s0 (l : List N.TWrite) (x_ : List UInt8) : Tree (CodeOut E) := .ret (.exit 0, ofSlots E 19 [] [0, 4] [.val .str x_, .undef], [])
noncomputable def g48_s0 : Ins E (CodeOut E) := ⟨[.v .str, .v (.slice (.named 4)), .v (.int .i64)], [], fun body l i => .opt (N.ref7_All_l0 N.fuel l body i) (x48_s0 l)⟩
noncomputable def L48 : Nat → LoopInfo E := clL E 19 [{ ks := [0, 1, 5], mvs := [], pro := [], d := [], g := some (insF [g48_s0]) }] []
theorem f48_s0 (l : List N.TWrite) (body : List UInt8) (i : Int) : ((stepOf E S48 L48 0 0 Try.f48 (h48_s0 l body i) (t48_s0 l body i)).bind (nx E [0, 1, 5] [] [0, 4] 0)).get = N.ref7_All_s0k N.fuel l (fun v_ => some (.inl (h48_s0 l v_.1 v_.2, t48_s0 l v_.1 v_.2))) (fun x_ => some (.inr (.exit 0, ofSlots E 19 [] [0, 4] [.val .str x_, .undef], []))) body i := by kernel_rfl
theorem q48_s0 : InsLp 19 [0, 1, 5] [] [] (stepOf E S48 L48 0 0 Try.f48) g48_s0 := by
  intro body l i out_ ho_
  obtain ⟨x_, h1_, h2_⟩ := Option.bind_eq_some_iff.1 ho_
  refine iter_loop (rs := [0, 4]) (step := N.ref7_All_s0 N.fuel l) (hd := fun v_ => h48_s0 l v_.1 v_.2) (sv := fun v_ => t48_s0 l v_.1 v_.2) (ex := x48_s0 l) (fun v_ => ?_) N.fuel (body, i) h1_ h2_
  refine (f48_s0 l v_.1 v_.2).trans ((N.ref7_All_s0_bind N.fuel l _ _ v_.1 v_.2).trans ?_)
  refine congrArg _ (funext fun s_ => ?_)
  rcases s_ with v_ | a <;> rfl
noncomputable def B48 : List (DVal E.T) → St E.T → Tree (Res E.T × St E.T) := dbody E (lookS S48) (lookD []) L48 0 false Try.f48
theorem B48_ok : FnOk Try.prog E 48 B48 := bodyC_ok sound mix S48_ok (SD := []) trivial (L := L48) (N := 0) (keep := false) Try.func48 rfl (by
  intro k g hg fr st out ho
  match k, hg with
  | 0, hg => cases hg; exact lp_ok (allLp_cons q48_s0 (allLp_nil)) fr st out ho
  | _ + 1, hg => cases hg)
theorem F48 (body : List UInt8) (l : List N.TWrite) : (B48 [.val .str body, .val (.slice (.named 4)) l] []).get = N.ref7_All_k N.fuel (fun x_ => some (.ret [.val .str x_], [])) body l := by kernel_rfl
noncomputable def i48 : Ins E (Res E.T × St E.T) := ⟨[.v .str, .v (.slice (.named 4))], [], fun body l => .opt (N.ref7_All N.fuel body l) fun x_ => .ret (.ret [.val .str x_], [])⟩
theorem i48_ok : InsOk Try.prog 48 i48 := ⟨B48, B48_ok, by intro body l out_ h_; exact ((F48 body l).trans (N.ref7_All_bind N.fuel _ body l)).trans h_⟩
noncomputable def P48 : Nat × D.Spec E := (48, .pure [.str, (.slice (.named 4))] (pureF [i48]))
theorem p48 : SpecOk Try.prog E P48.1 P48.2 := pureI_ok Try.call48 ⟨i48_ok, trivial⟩

/-! tenancy/tenancyref7.Flush -/
noncomputable def S21 : List (Nat × D.Spec E) := [P43, P46, P47, P48]
theorem S21_ok : AllS Try.prog E S21 := ⟨p43, p46, p47, p48, trivial⟩
abbrev h21_s0 (client : Int) (file : Int) (l : List N.TWrite) (s : N.TState) (o2 : N.TMark) (m : N.TMark) (ok : Bool) (i : Int) (o1 : N.TState) : Fr E.T := ofSlots E 91 [] [1, 3, 4, 5, 10, 11, 12, 13, 14] [.val (.int .i64) client, .val (.int .i64) file, .val (.slice (.named 4)) l, .ptr 0 [], .ptr 1 [], .ptr 2 [], .ptr 3 [], .val .bool ok, .val (.int .i64) i]
abbrev t21_s0 (client : Int) (file : Int) (l : List N.TWrite) (s : N.TState) (o2 : N.TMark) (m : N.TMark) (ok : Bool) (i : Int) (o1 : N.TState) : St E.T := [.box false (.val (.named 2) s), .box false (.agg 2 [.nils, .nils, .val (.int .i64) o1.Epoch]), .box false (.val (.named 1) o2), .box false (.val (.named 1) m)]
def x21_s0 (client : Int) (file : Int) (l : List N.TWrite) (s : N.TState) (o2 : N.TMark) (m : N.TMark) (x_ : Bool × N.TState) : Tree (CodeOut E) := .ret (.exit 0, ofSlots E 91 [] [1, 3, 4, 5, 10, 11, 12, 13] [.val (.int .i64) client, .val (.int .i64) file, .val (.slice (.named 4)) l, .ptr 0 [], .ptr 1 [], .ptr 2 [], .ptr 3 [], .val .bool x_.1], [.box false (.val (.named 2) s), .box false (.agg 2 [.nils, .nils, .val (.int .i64) x_.2.Epoch]), .box false (.val (.named 1) o2), .box false (.val (.named 1) m)])
noncomputable def g21_s0 : Ins E (CodeOut E) := ⟨[.v (.int .i64), .v (.int .i64), .v (.slice (.named 4)), .ptr 0 [], .ptr 1 [], .ptr 2 [], .ptr 3 [], .v .bool, .v (.int .i64)], [.box false (.v (.named 2)), .box false (.agg 2 [.nils, .nils, .v (.int .i64)]), .box false (.v (.named 1)), .box false (.v (.named 1))], fun client file l ok i s o1_Epoch o2 m => .opt (N.ref7_Flush_l0 N.fuel client file l s o2 m ok i (N.TState.mk [] [] o1_Epoch)) (x21_s0 client file l s o2 m)⟩
noncomputable def L21 : Nat → LoopInfo E := clL E 91 [{ ks := [1, 3, 4, 5, 10, 11, 12, 13, 14], mvs := [], pro := [], d := [], g := some (insF [g21_s0]) }] []
theorem f21_s0 (client : Int) (file : Int) (l : List N.TWrite) (s : N.TState) (o2 : N.TMark) (m : N.TMark) (ok : Bool) (i : Int) (o1 : N.TState) : ((stepOf E S21 L21 0 0 Try.f21 (h21_s0 client file l s o2 m ok i o1) (t21_s0 client file l s o2 m ok i o1)).bind (nx E [1, 3, 4, 5, 10, 11, 12, 13, 14] [] [1, 3, 4, 5, 10, 11, 12, 13] 4)).get = N.ref7_Flush_s0k client file l s o2 m (fun v_ => some (.inl (h21_s0 client file l s o2 m v_.1 v_.2.1 v_.2.2, t21_s0 client file l s o2 m v_.1 v_.2.1 v_.2.2))) (fun x_ => some (.inr (.exit 0, ofSlots E 91 [] [1, 3, 4, 5, 10, 11, 12, 13] [.val (.int .i64) client, .val (.int .i64) file, .val (.slice (.named 4)) l, .ptr 0 [], .ptr 1 [], .ptr 2 [], .ptr 3 [], .val .bool x_.1], [.box false (.val (.named 2) s), .box false (.agg 2 [.nils, .nils, .val (.int .i64) x_.2.Epoch]), .box false (.val (.named 1) o2), .box false (.val (.named 1) m)]))) ok i o1 := by kernel_rfl
theorem q21_s0 : InsLp 91 [1, 3, 4, 5, 10, 11, 12, 13, 14] [] [] (stepOf E S21 L21 0 0 Try.f21) g21_s0 := by
  intro client file l ok i s o1_Epoch o2 m out_ ho_
  obtain ⟨x_, h1_, h2_⟩ := Option.bind_eq_some_iff.1 ho_
  refine iter_loop (rs := [1, 3, 4, 5, 10, 11, 12, 13]) (step := N.ref7_Flush_s0 client file l s o2 m) (hd := fun v_ => h21_s0 client file l s o2 m v_.1 v_.2.1 v_.2.2) (sv := fun v_ => t21_s0 client file l s o2 m v_.1 v_.2.1 v_.2.2) (ex := x21_s0 client file l s o2 m) (fun v_ => ?_) N.fuel (ok, i, (N.TState.mk [] [] o1_Epoch)) h1_ h2_
  refine (f21_s0 client file l s o2 m v_.1 v_.2.1 v_.2.2).trans ((N.ref7_Flush_s0_bind client file l s o2 m _ _ v_.1 v_.2.1 v_.2.2).trans ?_)
  refine congrArg _ (funext fun s_ => ?_)
  rcases s_ with v_ | a <;> rfl
noncomputable def B21 : List (DVal E.T) → St E.T → Tree (Res E.T × St E.T) := dbody E (lookS S21) (lookD []) L21 0 false Try.f21
theorem B21_ok : FnOk Try.prog E 21 B21 := bodyC_ok sound mix S21_ok (SD := []) trivial (L := L21) (N := 0) (keep := false) Try.func21 rfl (by
  intro k g hg fr st out ho
  match k, hg with
  | 0, hg => cases hg; exact lp_ok (allLp_cons q21_s0 (allLp_nil)) fr st out ho
  | _ + 1, hg => cases hg)
theorem F21 (s : N.TState) (client : Int) (seq : Int) (file : Int) (l : List N.TWrite) : (B21 [.val (.named 2) s, .val (.int .i64) client, .val (.int .i64) seq, .val (.int .i64) file, .val (.slice (.named 4)) l] []).get = N.ref7_Flush_k N.fuel (fun x_ => some (.ret [.val (.named 2) x_.1, .val (.named 1) x_.2], [])) s client seq file l := by kernel_rfl
noncomputable def i21 : Ins E (Res E.T × St E.T) := ⟨[.v (.named 2), .v (.int .i64), .v (.int .i64), .v (.int .i64), .v (.slice (.named 4))], [], fun s client seq file l => .opt (N.ref7_Flush N.fuel s client seq file l) fun x_ => .ret (.ret [.val (.named 2) x_.1, .val (.named 1) x_.2], [])⟩
theorem i21_ok : InsOk Try.prog 21 i21 := ⟨B21, B21_ok, by intro s client seq file l out_ h_; exact ((F21 s client seq file l).trans (N.ref7_Flush_bind N.fuel _ s client seq file l)).trans h_⟩
noncomputable def P21 : Nat × D.Spec E := (21, .pure [(.named 2), (.int .i64), (.int .i64), (.int .i64), (.slice (.named 4))] (pureF [i21]))
theorem p21 : SpecOk Try.prog E P21.1 P21.2 := pureI_ok Try.call21 ⟨i21_ok, trivial⟩

/-! tenancy/tenancyref7.Gone -/
noncomputable def S26 : List (Nat × D.Spec E) := [P43, P46]
theorem S26_ok : AllS Try.prog E S26 := ⟨p43, p46, trivial⟩
noncomputable def L26 : Nat → LoopInfo E := clL E 32 [] []
noncomputable def B26 : List (DVal E.T) → St E.T → Tree (Res E.T × St E.T) := dbody E (lookS S26) (lookD []) L26 0 false Try.f26
theorem B26_ok : FnOk Try.prog E 26 B26 := bodyC_ok sound mix S26_ok (SD := []) trivial (L := L26) (N := 0) (keep := false) Try.func26 rfl (by
  intro k g hg fr st out ho
  match k, hg with
  | _, hg => cases hg)
theorem F26 (s : N.TState) (client : Int) (seq : Int) (file : Int) : (B26 [.val (.named 2) s, .val (.int .i64) client, .val (.int .i64) seq, .val (.int .i64) file] []).get = N.ref7_Gone_k (fun x_ => some (.ret [.val (.named 2) x_.1, .val (.named 1) x_.2], [])) s client seq file := by kernel_rfl
noncomputable def i26 : Ins E (Res E.T × St E.T) := ⟨[.v (.named 2), .v (.int .i64), .v (.int .i64), .v (.int .i64)], [], fun s client seq file => .opt (N.ref7_Gone s client seq file) fun x_ => .ret (.ret [.val (.named 2) x_.1, .val (.named 1) x_.2], [])⟩
theorem i26_ok : InsOk Try.prog 26 i26 := ⟨B26, B26_ok, by intro s client seq file out_ h_; exact ((F26 s client seq file).trans (N.ref7_Gone_bind _ s client seq file)).trans h_⟩
noncomputable def P26 : Nat × D.Spec E := (26, .pure [(.named 2), (.int .i64), (.int .i64), (.int .i64)] (pureF [i26]))
theorem p26 : SpecOk Try.prog E P26.1 P26.2 := pureI_ok Try.call26 ⟨i26_ok, trivial⟩

/-! (*tenancy/tenancymade.Picks).State -/
noncomputable def S9 : List (Nat × D.Spec E) := [P19, P20, P21, P22, P23, P24, P25, P26, P27]
theorem S9_ok : AllS Try.prog E S9 := ⟨p19, p20, p21, p22, p23, p24, p25, p26, p27, trivial⟩
abbrev h9_s0 (most : Int) (i : Int) (p : N.Ttenancymade_Picks) (o1 : N.TState) (s : N.TState) : Fr E.T := ofSlots E 82 [] [0, 1, 4, 5, 6] [.ptr 0 [], .val (.int .i64) most, .ptr 1 [], .ptr 2 [], .val (.int .i64) i]
abbrev t9_s0 (most : Int) (i : Int) (p : N.Ttenancymade_Picks) (o1 : N.TState) (s : N.TState) : St E.T := [.box false (.val (.named 5) p), .box false (.agg 2 [.nils, .nils, .val (.int .i64) o1.Epoch]), .box false (.val (.named 2) s)]
def x9_s0 (most : Int) (x_ : N.Ttenancymade_Picks × N.TState × N.TState) : Tree (CodeOut E) := .ret (.exit 0, ofSlots E 82 [] [4, 5] [.ptr 1 [], .ptr 2 []], [.box false (.val (.named 5) x_.1), .box false (.agg 2 [.nils, .nils, .val (.int .i64) x_.2.1.Epoch]), .box false (.val (.named 2) x_.2.2)])
noncomputable def g9_s0 : Ins E (CodeOut E) := ⟨[.ptr 0 [], .v (.int .i64), .ptr 1 [], .ptr 2 [], .v (.int .i64)], [.box false (.v (.named 5)), .box false (.agg 2 [.nils, .nils, .v (.int .i64)]), .box false (.v (.named 2))], fun most i p o1_Epoch s => .opt (N.made_Picks_State_l0 N.fuel most i p (N.TState.mk [] [] o1_Epoch) s) (x9_s0 most)⟩
noncomputable def L9 : Nat → LoopInfo E := clL E 82 [{ ks := [0, 1, 4, 5, 6], mvs := [], pro := [], d := [], g := some (insF [g9_s0]) }] []
theorem f9_s0 (most : Int) (i : Int) (p : N.Ttenancymade_Picks) (o1 : N.TState) (s : N.TState) : ((stepOf E S9 L9 0 0 Try.f9 (h9_s0 most i p o1 s) (t9_s0 most i p o1 s)).bind (nx E [0, 1, 4, 5, 6] [] [4, 5] 3)).get = N.made_Picks_State_s0k N.fuel most (fun v_ => some (.inl (h9_s0 most v_.1 v_.2.1 v_.2.2.1 v_.2.2.2, t9_s0 most v_.1 v_.2.1 v_.2.2.1 v_.2.2.2))) (fun x_ => some (.inr (.exit 0, ofSlots E 82 [] [4, 5] [.ptr 1 [], .ptr 2 []], [.box false (.val (.named 5) x_.1), .box false (.agg 2 [.nils, .nils, .val (.int .i64) x_.2.1.Epoch]), .box false (.val (.named 2) x_.2.2)]))) i p o1 s := by kernel_rfl
theorem q9_s0 : InsLp 82 [0, 1, 4, 5, 6] [] [] (stepOf E S9 L9 0 0 Try.f9) g9_s0 := by
  intro most i p o1_Epoch s out_ ho_
  obtain ⟨x_, h1_, h2_⟩ := Option.bind_eq_some_iff.1 ho_
  refine iter_loop (rs := [4, 5]) (step := N.made_Picks_State_s0 N.fuel most) (hd := fun v_ => h9_s0 most v_.1 v_.2.1 v_.2.2.1 v_.2.2.2) (sv := fun v_ => t9_s0 most v_.1 v_.2.1 v_.2.2.1 v_.2.2.2) (ex := x9_s0 most) (fun v_ => ?_) N.fuel (i, p, (N.TState.mk [] [] o1_Epoch), s) h1_ h2_
  refine (f9_s0 most v_.1 v_.2.1 v_.2.2.1 v_.2.2.2).trans ((N.made_Picks_State_s0_bind N.fuel most _ _ v_.1 v_.2.1 v_.2.2.1 v_.2.2.2).trans ?_)
  refine congrArg _ (funext fun s_ => ?_)
  rcases s_ with v_ | a <;> rfl
noncomputable def B9 : List (DVal E.T) → St E.T → Tree (Res E.T × St E.T) := tidyF (dbody E (lookS S9) (lookD []) L9 0 false Try.f9)
theorem B9_ok : FnOk Try.prog E 9 B9 := tidy_fn ok (bodyC_ok sound mix S9_ok (SD := []) trivial (L := L9) (N := 0) (keep := false) Try.func9 rfl (by
  intro k g hg fr st out ho
  match k, hg with
  | 0, hg => cases hg; exact lp_ok (allLp_cons q9_s0 (allLp_nil)) fr st out ho
  | _ + 1, hg => cases hg))
theorem F9 (most : Int) (p : N.Ttenancymade_Picks) : (B9 [.ptr 0 [], .val (.int .i64) most] [.box false (.val (.named 5) p)]).get = N.made_Picks_State_k N.fuel (fun x_ => some (.ret [.val (.named 2) x_.1], [.box false (.val (.named 5) x_.2)])) most p := by kernel_rfl
noncomputable def i9 : Ins E (Res E.T × St E.T) := ⟨[.ptr 0 [], .v (.int .i64)], [.box false (.v (.named 5))], fun most p => .opt (N.made_Picks_State N.fuel most p) fun x_ => .ret (.ret [.val (.named 2) x_.1], [.box false (.val (.named 5) x_.2)])⟩
theorem i9_ok : InsOk Try.prog 9 i9 := ⟨B9, B9_ok, by intro most p out_ h_; exact ((F9 most p).trans (N.made_Picks_State_bind N.fuel _ most p)).trans h_⟩
noncomputable def P9 : Nat × D.Spec E := (9, .full [.ptr, .data (.int .i64)] false (fullF [i9]))
theorem p9 : SpecOk Try.prog E P9.1 P9.2 := fullI_ok ok Try.call9 ⟨i9_ok, trivial⟩

/-! tenancy/tenancyref7.num -/
noncomputable def S60 : List (Nat × D.Spec E) := []
theorem S60_ok : AllS Try.prog E S60 := trivial
noncomputable def L60 : Nat → LoopInfo E := clL E 9 [] []
noncomputable def B60 : List (DVal E.T) → St E.T → Tree (Res E.T × St E.T) := dbody E (lookS S60) (lookD []) L60 0 false Try.f60
theorem B60_ok : FnOk Try.prog E 60 B60 := bodyC_ok sound mix S60_ok (SD := []) trivial (L := L60) (N := 0) (keep := false) Try.func60 rfl (by
  intro k g hg fr st out ho
  match k, hg with
  | _, hg => cases hg)
theorem F60 (n : Int) : (B60 [.val (.int .i64) n] []).get = N.ref7_num_k (fun x_ => some (.ret [.val .bool x_], [])) n := by kernel_rfl
noncomputable def i60 : Ins E (Res E.T × St E.T) := ⟨[.v (.int .i64)], [], fun n => .ret (.ret [.val .bool (N.ref7_num n)], [])⟩
theorem i60_ok : InsOk Try.prog 60 i60 := ⟨B60, B60_ok, by intro n out_ h_; exact ((F60 n).trans (N.ref7_num_bind _ n)).trans h_⟩
noncomputable def P60 : Nat × D.Spec E := (60, .pure [(.int .i64)] (pureF [i60]))
theorem p60 : SpecOk Try.prog E P60.1 P60.2 := pureI_ok Try.call60 ⟨i60_ok, trivial⟩

/-! tenancy/tenancyref7.MayState -/
noncomputable def S32 : List (Nat × D.Spec E) := [P42, P44, P60]
theorem S32_ok : AllS Try.prog E S32 := ⟨p42, p44, p60, trivial⟩
abbrev h32_s0 (s : N.TState) (i : Int) : Fr E.T := ofSlots E 117 [] [1, 3] [.ptr 0 [], .val (.int .i64) i]
abbrev t32_s0 (s : N.TState) (i : Int) : St E.T := [.box false (.val (.named 2) s)]
def x32_s0 (s : N.TState) (x_ : N.TFile ⊕ Unit) : Tree (CodeOut E) := altT x_ (fun u0_ => .ret (.ret, ofSlots E 117 [] [1, 2] [.ptr 0 [], .val .bool false], [.box false (.val (.named 2) s), .box false (.val (.named 0) u0_)])) (fun w0_ => .ret (.exit 0, ofSlots E 117 [] [1, 2] [.ptr 0 [], .undef], [.box false (.val (.named 2) s)]))
noncomputable def g32_s0 : Ins E (CodeOut E) := ⟨[.ptr 0 [], .v (.int .i64)], [.box false (.v (.named 2))], fun i s => .opt (N.ref7_MayState_l0 N.fuel s i) (x32_s0 s)⟩
abbrev h32_s1 (s : N.TState) (i : Int) : Fr E.T := ofSlots E 117 [] [1, 7] [.ptr 0 [], .val (.int .i64) i]
abbrev t32_s1 (s : N.TState) (i : Int) : St E.T := [.box false (.val (.named 2) s)]
def x32_s1 (s : N.TState) (x_ : N.TMark ⊕ Unit) : Tree (CodeOut E) := altT x_ (fun u0_ => .ret (.ret, ofSlots E 117 [] [2] [.val .bool false], [.box false (.val (.named 2) s), .box false (.val (.named 1) u0_)])) (fun w0_ => .ret (.exit 2, ofSlots E 117 [] [2] [.undef], [.box false (.val (.named 2) s)]))
noncomputable def g32_s1 : Ins E (CodeOut E) := ⟨[.ptr 0 [], .v (.int .i64)], [.box false (.v (.named 2))], fun i s => .opt (N.ref7_MayState_l1 N.fuel s i) (x32_s1 s)⟩
noncomputable def L32 : Nat → LoopInfo E := clL E 117 [{ ks := [1, 3], mvs := [], pro := [], d := [], g := some (insF [g32_s0]) }, { ks := [1, 7], mvs := [], pro := [], d := [], g := some (insF [g32_s1]) }] []
theorem f32_s0 (s : N.TState) (i : Int) : ((stepOf E S32 L32 0 0 Try.f32 (h32_s0 s i) (t32_s0 s i)).bind (nx E [1, 3] [] [1, 2] 1)).get = N.ref7_MayState_s0k N.fuel s (fun v_ => some (.inl (h32_s0 s v_, t32_s0 s v_))) (fun x_ => some (.inr (.ret, ofSlots E 117 [] [1, 2] [.ptr 0 [], .val .bool false], [.box false (.val (.named 2) s), .box false (.val (.named 0) x_)]))) (fun x_ => some (.inr (.exit 0, ofSlots E 117 [] [1, 2] [.ptr 0 [], .undef], [.box false (.val (.named 2) s)]))) i := by kernel_rfl
theorem q32_s0 : InsLp 117 [1, 3] [] [] (stepOf E S32 L32 0 0 Try.f32) g32_s0 := by
  intro i s out_ ho_
  obtain ⟨x_, h1_, h2_⟩ := Option.bind_eq_some_iff.1 ho_
  refine iter_loop (rs := [1, 2]) (step := N.ref7_MayState_s0 N.fuel s) (hd := fun v_ => h32_s0 s v_) (sv := fun v_ => t32_s0 s v_) (ex := x32_s0 s) (fun v_ => ?_) N.fuel i h1_ h2_
  refine (f32_s0 s v_).trans ((N.ref7_MayState_s0_bind N.fuel s _ _ _ v_).trans ?_)
  refine congrArg _ (funext fun s_ => ?_)
  rcases s_ with v_ | a | a <;> rfl
theorem f32_s1 (s : N.TState) (i : Int) : ((stepOf E S32 L32 0 1 Try.f32 (h32_s1 s i) (t32_s1 s i)).bind (nx E [1, 7] [] [2] 1)).get = N.ref7_MayState_s1k s (fun v_ => some (.inl (h32_s1 s v_, t32_s1 s v_))) (fun x_ => some (.inr (.ret, ofSlots E 117 [] [2] [.val .bool false], [.box false (.val (.named 2) s), .box false (.val (.named 1) x_)]))) (fun x_ => some (.inr (.exit 2, ofSlots E 117 [] [2] [.undef], [.box false (.val (.named 2) s)]))) i := by kernel_rfl
theorem q32_s1 : InsLp 117 [1, 7] [] [] (stepOf E S32 L32 0 1 Try.f32) g32_s1 := by
  intro i s out_ ho_
  obtain ⟨x_, h1_, h2_⟩ := Option.bind_eq_some_iff.1 ho_
  refine iter_loop (rs := [2]) (step := N.ref7_MayState_s1 s) (hd := fun v_ => h32_s1 s v_) (sv := fun v_ => t32_s1 s v_) (ex := x32_s1 s) (fun v_ => ?_) N.fuel i h1_ h2_
  refine (f32_s1 s v_).trans ((N.ref7_MayState_s1_bind s _ _ _ v_).trans ?_)
  refine congrArg _ (funext fun s_ => ?_)
  rcases s_ with v_ | a | a <;> rfl
noncomputable def B32 : List (DVal E.T) → St E.T → Tree (Res E.T × St E.T) := dbody E (lookS S32) (lookD []) L32 0 false Try.f32
theorem B32_ok : FnOk Try.prog E 32 B32 := bodyC_ok sound mix S32_ok (SD := []) trivial (L := L32) (N := 0) (keep := false) Try.func32 rfl (by
  intro k g hg fr st out ho
  match k, hg with
  | 0, hg => cases hg; exact lp_ok (allLp_cons q32_s0 (allLp_nil)) fr st out ho
  | 1, hg => cases hg; exact lp_ok (allLp_cons q32_s1 (allLp_nil)) fr st out ho
  | _ + 2, hg => cases hg)
theorem F32 (s : N.TState) : (B32 [.val (.named 2) s] []).get = N.ref7_MayState_k N.fuel (fun x_ => some (.ret [.val .bool x_], [])) s := by kernel_rfl
noncomputable def i32 : Ins E (Res E.T × St E.T) := ⟨[.v (.named 2)], [], fun s => .opt (N.ref7_MayState N.fuel s) fun x_ => .ret (.ret [.val .bool x_], [])⟩
theorem i32_ok : InsOk Try.prog 32 i32 := ⟨B32, B32_ok, by intro s out_ h_; exact ((F32 s).trans (N.ref7_MayState_bind N.fuel _ s)).trans h_⟩
noncomputable def P32 : Nat × D.Spec E := (32, .pure [(.named 2)] (pureF [i32]))
theorem p32 : SpecOk Try.prog E P32.1 P32.2 := pureI_ok Try.call32 ⟨i32_ok, trivial⟩

/-! tenancy/tenancyref1.Put -/
noncomputable def S33 : List (Nat × D.Spec E) := []
theorem S33_ok : AllS Try.prog E S33 := trivial
abbrev h33_s0 (v : Int) (i : Int) (out : List UInt8) : Fr E.T := ofSlots E 34 [] [1, 7, 8] [.val (.int .i64) v, .own 0, .val (.int .i64) i]
abbrev t33_s0 (v : Int) (i : Int) (out : List UInt8) : St E.T := [.arr .live (.int .u8) out]
def x33_s0 (v : Int) (x_ : List UInt8) : Tree (CodeOut E) := .ret (.exit 0, ofSlots E 34 [] [6, 7] [.undef, .own 0], [.arr .live (.int .u8) x_])
noncomputable def g33_s0 : Ins E (CodeOut E) := ⟨[.v (.int .i64), .own 0, .v (.int .i64)], [.arr .live (.int .u8)], fun v i out => .opt (N.ref1_Put_l0 N.fuel v i out) (x33_s0 v)⟩
noncomputable def L33 : Nat → LoopInfo E := clL E 34 [{ ks := [1, 7, 8], mvs := [], pro := [], d := [], g := some (insF [g33_s0]) }] []
theorem f33_s0 (v : Int) (i : Int) (out : List UInt8) : ((stepOf E S33 L33 0 0 Try.f33 (h33_s0 v i out) (t33_s0 v i out)).bind (nx E [1, 7, 8] [] [6, 7] 1)).get = N.ref1_Put_s0k v (fun v_ => some (.inl (h33_s0 v v_.1 v_.2, t33_s0 v v_.1 v_.2))) (fun x_ => some (.inr (.exit 0, ofSlots E 34 [] [6, 7] [.undef, .own 0], [.arr .live (.int .u8) x_]))) i out := by kernel_rfl
theorem q33_s0 : InsLp 34 [1, 7, 8] [] [] (stepOf E S33 L33 0 0 Try.f33) g33_s0 := by
  intro v i out out_ ho_
  obtain ⟨x_, h1_, h2_⟩ := Option.bind_eq_some_iff.1 ho_
  refine iter_loop (rs := [6, 7]) (step := N.ref1_Put_s0 v) (hd := fun v_ => h33_s0 v v_.1 v_.2) (sv := fun v_ => t33_s0 v v_.1 v_.2) (ex := x33_s0 v) (fun v_ => ?_) N.fuel (i, out) h1_ h2_
  refine (f33_s0 v v_.1 v_.2).trans ((N.ref1_Put_s0_bind v _ _ v_.1 v_.2).trans ?_)
  refine congrArg _ (funext fun s_ => ?_)
  rcases s_ with v_ | a <;> rfl
noncomputable def B33 : List (DVal E.T) → St E.T → Tree (Res E.T × St E.T) := tidyF (dbody E (lookS S33) (lookD []) L33 0 true Try.f33)
theorem B33_ok : FnOk Try.prog E 33 B33 := tidy_fn ok (bodyC_ok sound mix S33_ok (SD := []) trivial (L := L33) (N := 0) (keep := true) Try.func33 rfl (by
  intro k g hg fr st out ho
  match k, hg with
  | 0, hg => cases hg; exact lp_ok (allLp_cons q33_s0 (allLp_nil)) fr st out ho
  | _ + 1, hg => cases hg))
theorem F33 (b : List UInt8) (v : Int) (n : Int) : (B33 [.val (.slice (.int .u8)) b, .val (.int .i64) v, .val (.int .i64) n] []).get = N.ref1_Put_k N.fuel (fun x_ => some (.ret [.own 0], [.arr .live (.int .u8) x_])) b v n := by kernel_rfl
noncomputable def i33 : Ins E (Res E.T × St E.T) := ⟨[.v (.slice (.int .u8)), .v (.int .i64), .v (.int .i64)], [], fun b v n => .opt (N.ref1_Put N.fuel b v n) fun x_ => .ret (.ret [.own 0], [.arr .live (.int .u8) x_])⟩
theorem i33_ok : InsOk Try.prog 33 i33 := ⟨B33, B33_ok, by intro b v n out_ h_; exact ((F33 b v n).trans (N.ref1_Put_bind N.fuel _ b v n)).trans h_⟩
noncomputable def P33 : Nat × D.Spec E := (33, .full [.data (.slice (.int .u8)), .data (.int .i64), .data (.int .i64)] false (fullF [i33]))
theorem p33 : SpecOk Try.prog E P33.1 P33.2 := fullI_ok ok Try.call33 ⟨i33_ok, trivial⟩

/-! tenancy/tenancyref1.Text -/
noncomputable def S34 : List (Nat × D.Spec E) := []
theorem S34_ok : AllS Try.prog E S34 := trivial
noncomputable def L34 : Nat → LoopInfo E := clL E 21 [] []
noncomputable def B34 : List (DVal E.T) → St E.T → Tree (Res E.T × St E.T) := tidyF (dbody E (lookS S34) (lookD []) L34 0 true Try.f34)
theorem B34_ok : FnOk Try.prog E 34 B34 := tidy_fn ok (bodyC_ok sound mix S34_ok (SD := []) trivial (L := L34) (N := 0) (keep := true) Try.func34 rfl (by
  intro k g hg fr st out ho
  match k, hg with
  | _, hg => cases hg))
theorem F34 (b : List UInt8) (s : List UInt8) : (B34 [.val (.slice (.int .u8)) b, .val .str s] []).get = N.ref1_Text_k (fun x_ => some (.ret [.own 0], [.arr .live (.int .u8) x_])) b s := by kernel_rfl
noncomputable def i34 : Ins E (Res E.T × St E.T) := ⟨[.v (.slice (.int .u8)), .v .str], [], fun b s => .opt (N.ref1_Text b s) fun x_ => .ret (.ret [.own 0], [.arr .live (.int .u8) x_])⟩
theorem i34_ok : InsOk Try.prog 34 i34 := ⟨B34, B34_ok, by intro b s out_ h_; exact ((F34 b s).trans (N.ref1_Text_bind _ b s)).trans h_⟩
noncomputable def P34 : Nat × D.Spec E := (34, .full [.data (.slice (.int .u8)), .data .str] false (fullF [i34]))
theorem p34 : SpecOk Try.prog E P34.1 P34.2 := fullI_ok ok Try.call34 ⟨i34_ok, trivial⟩

/-! tenancy/tenancyref7.PutImage -/
noncomputable def S12 : List (Nat × D.Spec E) := [P32, P33, P34]
theorem S12_ok : AllS Try.prog E S12 := ⟨p32, p33, p34, trivial⟩
abbrev h12_s0 (s : N.TState) (i : Int) (b : List UInt8) : Fr E.T := ofSlots E 99 [] [1, 3, 4] [.ptr 0 [], .own 1, .val (.int .i64) i]
abbrev t12_s0 (s : N.TState) (i : Int) (b : List UInt8) : St E.T := [.box false (.val (.named 2) s), .arr .live (.int .u8) b]
def x12_s0 (s : N.TState) (x_ : List UInt8) : Tree (CodeOut E) := .ret (.exit 0, ofSlots E 99 [] [1, 2, 3] [.ptr 0 [], .undef, .own 1], [.box false (.val (.named 2) s), .arr .live (.int .u8) x_])
noncomputable def g12_s0 : Ins E (CodeOut E) := ⟨[.ptr 0 [], .own 1, .v (.int .i64)], [.box false (.v (.named 2)), .arr .live (.int .u8)], fun i s b => .opt (N.ref7_PutImage_l0 N.fuel s i b) (x12_s0 s)⟩
abbrev h12_s1 (s : N.TState) (i : Int) (b : List UInt8) : Fr E.T := ofSlots E 99 [] [1, 3, 6] [.ptr 0 [], .own 1, .val (.int .i64) i]
abbrev t12_s1 (s : N.TState) (i : Int) (b : List UInt8) : St E.T := [.box false (.val (.named 2) s), .arr .live (.int .u8) b]
def x12_s1 (s : N.TState) (x_ : List UInt8) : Tree (CodeOut E) := .ret (.exit 2, ofSlots E 99 [] [2, 3] [.undef, .own 1], [.box false (.val (.named 2) s), .arr .live (.int .u8) x_])
noncomputable def g12_s1 : Ins E (CodeOut E) := ⟨[.ptr 0 [], .own 1, .v (.int .i64)], [.box false (.v (.named 2)), .arr .live (.int .u8)], fun i s b => .opt (N.ref7_PutImage_l1 N.fuel s i b) (x12_s1 s)⟩
abbrev h12_s2 (o0 : N.TState) (b : List UInt8) : Fr E.T := ofSlots E 99 [] [3] [.own 1]
abbrev t12_s2 (o0 : N.TState) (b : List UInt8) : St E.T := [.box false (.val (.named 2) o0), .arr .live (.int .u8) b]
def x12_s2 (o0 : N.TState) (x_ : List UInt8) : Tree (CodeOut E) := .ret (.exit 4, ofSlots E 99 [] [2, 3] [.undef, .own 1], [.box false (.val (.named 2) o0), .arr .live (.int .u8) x_])
noncomputable def g12_s2 : Ins E (CodeOut E) := ⟨[.own 1], [.box false (.v (.named 2)), .arr .live (.int .u8)], fun o0 b => .opt (N.ref7_PutImage_l2 N.fuel o0 b) (x12_s2 o0)⟩
abbrev h12_s3 (o0 : N.TState) (b : List UInt8) (i : Int) (out : List (List UInt8)) : Fr E.T := ofSlots E 99 [] [3, 8, 9] [.own 1, .own 2, .val (.int .i64) i]
abbrev t12_s3 (o0 : N.TState) (b : List UInt8) (i : Int) (out : List (List UInt8)) : St E.T := [.box false (.val (.named 2) o0), .arr .froz (.int .u8) b, .arr .live .str out]
def x12_s3 (o0 : N.TState) (b : List UInt8) (x_ : List (List UInt8)) : Tree (CodeOut E) := .ret (.exit 6, ofSlots E 99 [] [2, 8] [.undef, .own 2], [.box false (.val (.named 2) o0), .arr .froz (.int .u8) b, .arr .live .str x_])
noncomputable def g12_s3 : Ins E (CodeOut E) := ⟨[.own 1, .own 2, .v (.int .i64)], [.box false (.v (.named 2)), .arr .froz (.int .u8), .arr .live .str], fun i o0 b out => .opt (N.ref7_PutImage_l3 N.fuel o0 b i out) (x12_s3 o0 b)⟩
noncomputable def L12 : Nat → LoopInfo E := clL E 99 [{ ks := [1, 3, 4], mvs := [(3, 1)], pro := [], d := [], g := some (insF [g12_s0]) }, { ks := [1, 3, 6], mvs := [(3, 1)], pro := [], d := [], g := some (insF [g12_s1]) }, { ks := [3], mvs := [], pro := [], d := [], g := some (insF [g12_s2]) }, { ks := [3, 8, 9], mvs := [], pro := [.pro (.slot 8) [] .str, .frz 1], d := [], g := some (insF [g12_s3]) }] []
theorem f12_s0 (s : N.TState) (i : Int) (b : List UInt8) : ((stepOf E S12 L12 0 0 Try.f12 (h12_s0 s i b) (t12_s0 s i b)).bind (nx E [1, 3, 4] [(3, 1)] [1, 2, 3] 2)).get = N.ref7_PutImage_s0k N.fuel s (fun v_ => some (.inl (h12_s0 s v_.1 v_.2, t12_s0 s v_.1 v_.2))) (fun x_ => some (.inr (.exit 0, ofSlots E 99 [] [1, 2, 3] [.ptr 0 [], .undef, .own 1], [.box false (.val (.named 2) s), .arr .live (.int .u8) x_]))) i b := by kernel_rfl
theorem q12_s0 : InsLp 99 [1, 3, 4] [(3, 1)] [] (stepOf E S12 L12 0 0 Try.f12) g12_s0 := by
  intro i s b out_ ho_
  obtain ⟨x_, h1_, h2_⟩ := Option.bind_eq_some_iff.1 ho_
  refine iter_loop (rs := [1, 2, 3]) (step := N.ref7_PutImage_s0 N.fuel s) (hd := fun v_ => h12_s0 s v_.1 v_.2) (sv := fun v_ => t12_s0 s v_.1 v_.2) (ex := x12_s0 s) (fun v_ => ?_) N.fuel (i, b) h1_ h2_
  refine (f12_s0 s v_.1 v_.2).trans ((N.ref7_PutImage_s0_bind N.fuel s _ _ v_.1 v_.2).trans ?_)
  refine congrArg _ (funext fun s_ => ?_)
  rcases s_ with v_ | a <;> rfl
theorem f12_s1 (s : N.TState) (i : Int) (b : List UInt8) : ((stepOf E S12 L12 0 1 Try.f12 (h12_s1 s i b) (t12_s1 s i b)).bind (nx E [1, 3, 6] [(3, 1)] [2, 3] 2)).get = N.ref7_PutImage_s1k N.fuel s (fun v_ => some (.inl (h12_s1 s v_.1 v_.2, t12_s1 s v_.1 v_.2))) (fun x_ => some (.inr (.exit 2, ofSlots E 99 [] [2, 3] [.undef, .own 1], [.box false (.val (.named 2) s), .arr .live (.int .u8) x_]))) i b := by kernel_rfl
theorem q12_s1 : InsLp 99 [1, 3, 6] [(3, 1)] [] (stepOf E S12 L12 0 1 Try.f12) g12_s1 := by
  intro i s b out_ ho_
  obtain ⟨x_, h1_, h2_⟩ := Option.bind_eq_some_iff.1 ho_
  refine iter_loop (rs := [2, 3]) (step := N.ref7_PutImage_s1 N.fuel s) (hd := fun v_ => h12_s1 s v_.1 v_.2) (sv := fun v_ => t12_s1 s v_.1 v_.2) (ex := x12_s1 s) (fun v_ => ?_) N.fuel (i, b) h1_ h2_
  refine (f12_s1 s v_.1 v_.2).trans ((N.ref7_PutImage_s1_bind N.fuel s _ _ v_.1 v_.2).trans ?_)
  refine congrArg _ (funext fun s_ => ?_)
  rcases s_ with v_ | a <;> rfl
theorem f12_s2 (o0 : N.TState) (b : List UInt8) : ((stepOf E S12 L12 0 2 Try.f12 (h12_s2 o0 b) (t12_s2 o0 b)).bind (nx E [3] [] [2, 3] 2)).get = N.ref7_PutImage_s2k o0 (fun v_ => some (.inl (h12_s2 o0 v_, t12_s2 o0 v_))) (fun x_ => some (.inr (.exit 4, ofSlots E 99 [] [2, 3] [.undef, .own 1], [.box false (.val (.named 2) o0), .arr .live (.int .u8) x_]))) b := by kernel_rfl
theorem q12_s2 : InsLp 99 [3] [] [] (stepOf E S12 L12 0 2 Try.f12) g12_s2 := by
  intro o0 b out_ ho_
  obtain ⟨x_, h1_, h2_⟩ := Option.bind_eq_some_iff.1 ho_
  refine iter_loop (rs := [2, 3]) (step := N.ref7_PutImage_s2 o0) (hd := fun v_ => h12_s2 o0 v_) (sv := fun v_ => t12_s2 o0 v_) (ex := x12_s2 o0) (fun v_ => ?_) N.fuel b h1_ h2_
  refine (f12_s2 o0 v_).trans ((N.ref7_PutImage_s2_bind o0 _ _ v_).trans ?_)
  refine congrArg _ (funext fun s_ => ?_)
  rcases s_ with v_ | a <;> rfl
theorem f12_s3 (o0 : N.TState) (b : List UInt8) (i : Int) (out : List (List UInt8)) : ((stepOf E S12 L12 0 3 Try.f12 (h12_s3 o0 b i out) (t12_s3 o0 b i out)).bind (nx E [3, 8, 9] [] [2, 8] 3)).get = N.ref7_PutImage_s3k o0 b (fun v_ => some (.inl (h12_s3 o0 b v_.1 v_.2, t12_s3 o0 b v_.1 v_.2))) (fun x_ => some (.inr (.exit 6, ofSlots E 99 [] [2, 8] [.undef, .own 2], [.box false (.val (.named 2) o0), .arr .froz (.int .u8) b, .arr .live .str x_]))) i out := by kernel_rfl
theorem q12_s3 : InsLp 99 [3, 8, 9] [] [] (stepOf E S12 L12 0 3 Try.f12) g12_s3 := by
  intro i o0 b out out_ ho_
  obtain ⟨x_, h1_, h2_⟩ := Option.bind_eq_some_iff.1 ho_
  refine iter_loop (rs := [2, 8]) (step := N.ref7_PutImage_s3 o0 b) (hd := fun v_ => h12_s3 o0 b v_.1 v_.2) (sv := fun v_ => t12_s3 o0 b v_.1 v_.2) (ex := x12_s3 o0 b) (fun v_ => ?_) N.fuel (i, out) h1_ h2_
  refine (f12_s3 o0 b v_.1 v_.2).trans ((N.ref7_PutImage_s3_bind o0 b _ _ v_.1 v_.2).trans ?_)
  refine congrArg _ (funext fun s_ => ?_)
  rcases s_ with v_ | a <;> rfl
noncomputable def B12 : List (DVal E.T) → St E.T → Tree (Res E.T × St E.T) := dbody E (lookS S12) (lookD []) L12 0 false Try.f12
theorem B12_ok : FnOk Try.prog E 12 B12 := bodyC_ok sound mix S12_ok (SD := []) trivial (L := L12) (N := 0) (keep := false) Try.func12 rfl (by
  intro k g hg fr st out ho
  match k, hg with
  | 0, hg => cases hg; exact lp_ok (allLp_cons q12_s0 (allLp_nil)) fr st out ho
  | 1, hg => cases hg; exact lp_ok (allLp_cons q12_s1 (allLp_nil)) fr st out ho
  | 2, hg => cases hg; exact lp_ok (allLp_cons q12_s2 (allLp_nil)) fr st out ho
  | 3, hg => cases hg; exact lp_ok (allLp_cons q12_s3 (allLp_nil)) fr st out ho
  | _ + 4, hg => cases hg)
theorem F12 (s : N.TState) : (B12 [.val (.named 2) s] []).get = N.ref7_PutImage_k N.fuel (fun x_ => some (.ret [.val (.slice .str) x_], [])) s := by kernel_rfl
noncomputable def i12 : Ins E (Res E.T × St E.T) := ⟨[.v (.named 2)], [], fun s => .opt (N.ref7_PutImage N.fuel s) fun x_ => .ret (.ret [.val (.slice .str) x_], [])⟩
theorem i12_ok : InsOk Try.prog 12 i12 := ⟨B12, B12_ok, by intro s out_ h_; exact ((F12 s).trans (N.ref7_PutImage_bind N.fuel _ s)).trans h_⟩
noncomputable def P12 : Nat × D.Spec E := (12, .pure [(.named 2)] (pureF [i12]))
theorem p12 : SpecOk Try.prog E P12.1 P12.2 := pureI_ok Try.call12 ⟨i12_ok, trivial⟩

/-! tenancy/tenancyref5.SameTexts -/
noncomputable def S11 : List (Nat × D.Spec E) := []
theorem S11_ok : AllS Try.prog E S11 := trivial
abbrev h11_s0 (a : List (List UInt8)) (b : List (List UInt8)) (i : Int) : Fr E.T := ofSlots E 26 [] [0, 1, 5] [.val (.slice .str) a, .val (.slice .str) b, .val (.int .i64) i]
abbrev t11_s0 (a : List (List UInt8)) (b : List (List UInt8)) (i : Int) : St E.T := []
def x11_s0 (a : List (List UInt8)) (b : List (List UInt8)) (x_ : Unit ⊕ Unit) : Tree (CodeOut E) := altT x_ (fun u0_ => .ret (.ret, ofSlots E 26 [] [4] [.val .bool false], [])) (fun w0_ => .ret (.exit 0, ofSlots E 26 [] [4] [.undef], []))
noncomputable def g11_s0 : Ins E (CodeOut E) := ⟨[.v (.slice .str), .v (.slice .str), .v (.int .i64)], [], fun a b i => .opt (N.ref5_SameTexts_l0 N.fuel a b i) (x11_s0 a b)⟩
noncomputable def L11 : Nat → LoopInfo E := clL E 26 [{ ks := [0, 1, 5], mvs := [], pro := [], d := [], g := some (insF [g11_s0]) }] []
theorem f11_s0 (a : List (List UInt8)) (b : List (List UInt8)) (i : Int) : ((stepOf E S11 L11 0 0 Try.f11 (h11_s0 a b i) (t11_s0 a b i)).bind (nx E [0, 1, 5] [] [4] 0)).get = N.ref5_SameTexts_s0k a b (fun v_ => some (.inl (h11_s0 a b v_, t11_s0 a b v_))) (fun x_ => some (.inr (.ret, ofSlots E 26 [] [4] [.val .bool false], []))) (fun x_ => some (.inr (.exit 0, ofSlots E 26 [] [4] [.undef], []))) i := by kernel_rfl
theorem q11_s0 : InsLp 26 [0, 1, 5] [] [] (stepOf E S11 L11 0 0 Try.f11) g11_s0 := by
  intro a b i out_ ho_
  obtain ⟨x_, h1_, h2_⟩ := Option.bind_eq_some_iff.1 ho_
  refine iter_loop (rs := [4]) (step := N.ref5_SameTexts_s0 a b) (hd := fun v_ => h11_s0 a b v_) (sv := fun v_ => t11_s0 a b v_) (ex := x11_s0 a b) (fun v_ => ?_) N.fuel i h1_ h2_
  refine (f11_s0 a b v_).trans ((N.ref5_SameTexts_s0_bind a b _ _ _ v_).trans ?_)
  refine congrArg _ (funext fun s_ => ?_)
  rcases s_ with v_ | a | a <;> rfl
noncomputable def B11 : List (DVal E.T) → St E.T → Tree (Res E.T × St E.T) := dbody E (lookS S11) (lookD []) L11 0 false Try.f11
theorem B11_ok : FnOk Try.prog E 11 B11 := bodyC_ok sound mix S11_ok (SD := []) trivial (L := L11) (N := 0) (keep := false) Try.func11 rfl (by
  intro k g hg fr st out ho
  match k, hg with
  | 0, hg => cases hg; exact lp_ok (allLp_cons q11_s0 (allLp_nil)) fr st out ho
  | _ + 1, hg => cases hg)
theorem F11 (a : List (List UInt8)) (b : List (List UInt8)) : (B11 [.val (.slice .str) a, .val (.slice .str) b] []).get = N.ref5_SameTexts_k N.fuel (fun x_ => some (.ret [.val .bool x_], [])) a b := by kernel_rfl
noncomputable def i11 : Ins E (Res E.T × St E.T) := ⟨[.v (.slice .str), .v (.slice .str)], [], fun a b => .opt (N.ref5_SameTexts N.fuel a b) fun x_ => .ret (.ret [.val .bool x_], [])⟩
theorem i11_ok : InsOk Try.prog 11 i11 := ⟨B11, B11_ok, by intro a b out_ h_; exact ((F11 a b).trans (N.ref5_SameTexts_bind N.fuel _ a b)).trans h_⟩
noncomputable def P11 : Nat × D.Spec E := (11, .pure [(.slice .str), (.slice .str)] (pureF [i11]))
theorem p11 : SpecOk Try.prog E P11.1 P11.2 := pureI_ok Try.call11 ⟨i11_ok, trivial⟩

/-! tenancy/tenancyref7.Home -/
noncomputable def S39 : List (Nat × D.Spec E) := [P12, P19]
theorem S39_ok : AllS Try.prog E S39 := ⟨p12, p19, trivial⟩
noncomputable def L39 : Nat → LoopInfo E := clL E 4 [] []
noncomputable def B39 : List (DVal E.T) → St E.T → Tree (Res E.T × St E.T) := dbody E (lookS S39) (lookD []) L39 0 false Try.f39
theorem B39_ok : FnOk Try.prog E 39 B39 := bodyC_ok sound mix S39_ok (SD := []) trivial (L := L39) (N := 0) (keep := false) Try.func39 rfl (by
  intro k g hg fr st out ho
  match k, hg with
  | _, hg => cases hg)
theorem F39 : (B39 [] []).get = N.ref7_Home_k N.fuel (fun x_ => some (.ret [.val (.int .i64) x_], [])) := by kernel_rfl
noncomputable def i39 : Ins E (Res E.T × St E.T) := ⟨[], [], .opt (N.ref7_Home N.fuel) fun x_ => .ret (.ret [.val (.int .i64) x_], [])⟩
theorem i39_ok : InsOk Try.prog 39 i39 := ⟨B39, B39_ok, by intro out_ h_; exact ((F39).trans (N.ref7_Home_bind N.fuel _)).trans h_⟩
noncomputable def P39 : Nat × D.Spec E := (39, .pure [] (pureF [i39]))
theorem p39 : SpecOk Try.prog E P39.1 P39.2 := pureI_ok Try.call39 ⟨i39_ok, trivial⟩

/-! tenancy/tenancyref7.NewState -/
noncomputable def S19k : List (Nat × D.Spec E) := []
theorem S19k_ok : AllS Try.prog E S19k := trivial
noncomputable def L19k : Nat → LoopInfo E := clL E 4 [] []
noncomputable def B19k : List (DVal E.T) → St E.T → Tree (Res E.T × St E.T) := tidyF (dbody E (lookS S19k) (lookD []) L19k 0 true Try.f19)
theorem B19k_ok : FnOk Try.prog E 19 B19k := tidy_fn ok (bodyC_ok sound mix S19k_ok (SD := []) trivial (L := L19k) (N := 0) (keep := true) Try.func19 rfl (by
  intro k g hg fr st out ho
  match k, hg with
  | _, hg => cases hg))
theorem F19k : (B19k [] []).get = N.ref7_NewState_2_k (fun x_ => some (.ret [.agg 2 [.own 1, .own 2, .val (.int .i64) 0]], [.dead, .arr .live (.named 0) ([(N.TFile.mk [] 0 []), (N.TFile.mk [] 0 []), (N.TFile.mk [] 0 []), (N.TFile.mk [] 0 []), (N.TFile.mk [] 0 []), (N.TFile.mk [] 0 [])]), .arr .live (.named 1) ([(N.TMark.mk 0 0 0 0), (N.TMark.mk 0 0 0 0), (N.TMark.mk 0 0 0 0)])])) := by kernel_rfl
noncomputable def i19k : Ins E (Res E.T × St E.T) := ⟨[], [], .ret (.ret [.agg 2 [.own 1, .own 2, .val (.int .i64) 0]], [.dead, .arr .live (.named 0) ([(N.TFile.mk [] 0 []), (N.TFile.mk [] 0 []), (N.TFile.mk [] 0 []), (N.TFile.mk [] 0 []), (N.TFile.mk [] 0 []), (N.TFile.mk [] 0 [])]), .arr .live (.named 1) ([(N.TMark.mk 0 0 0 0), (N.TMark.mk 0 0 0 0), (N.TMark.mk 0 0 0 0)])])⟩
theorem i19k_ok : InsOk Try.prog 19 i19k := ⟨B19k, B19k_ok, by intro out_ h_; exact ((F19k).trans (N.ref7_NewState_2_bind _)).trans h_⟩
noncomputable def P19k : Nat × D.Spec E := (19, .full [] false (fullF [i19k]))
theorem p19k : SpecOk Try.prog E P19k.1 P19k.2 := fullI_ok ok Try.call19 ⟨i19k_ok, trivial⟩

/-! tenancy/tenancyref1.Take -/
noncomputable def S40 : List (Nat × D.Spec E) := []
theorem S40_ok : AllS Try.prog E S40 := trivial
abbrev h40_s0 (b : List UInt8) (n : Int) (v : Int) (i : Int) : Fr E.T := ofSlots E 34 [] [0, 1, 6, 7] [.val (.slice (.int .u8)) b, .val (.int .i64) n, .val (.int .i64) v, .val (.int .i64) i]
abbrev t40_s0 (b : List UInt8) (n : Int) (v : Int) (i : Int) : St E.T := []
def x40_s0 (b : List UInt8) (n : Int) (x_ : Int) : Tree (CodeOut E) := .ret (.exit 0, ofSlots E 34 [] [4, 5, 6] [.undef, .undef, .val (.int .i64) x_], [])
noncomputable def g40_s0 : Ins E (CodeOut E) := ⟨[.v (.slice (.int .u8)), .v (.int .i64), .v (.int .i64), .v (.int .i64)], [], fun b n v i => .opt (N.ref1_Take_l0 N.fuel b n v i) (x40_s0 b n)⟩
noncomputable def L40 : Nat → LoopInfo E := clL E 34 [{ ks := [0, 1, 6, 7], mvs := [], pro := [], d := [], g := some (insF [g40_s0]) }] []
theorem f40_s0 (b : List UInt8) (n : Int) (v : Int) (i : Int) : ((stepOf E S40 L40 0 0 Try.f40 (h40_s0 b n v i) (t40_s0 b n v i)).bind (nx E [0, 1, 6, 7] [] [4, 5, 6] 0)).get = N.ref1_Take_s0k b n (fun v_ => some (.inl (h40_s0 b n v_.1 v_.2, t40_s0 b n v_.1 v_.2))) (fun x_ => some (.inr (.exit 0, ofSlots E 34 [] [4, 5, 6] [.undef, .undef, .val (.int .i64) x_], []))) v i := by kernel_rfl
theorem q40_s0 : InsLp 34 [0, 1, 6, 7] [] [] (stepOf E S40 L40 0 0 Try.f40) g40_s0 := by
  intro b n v i out_ ho_
  obtain ⟨x_, h1_, h2_⟩ := Option.bind_eq_some_iff.1 ho_
  refine iter_loop (rs := [4, 5, 6]) (step := N.ref1_Take_s0 b n) (hd := fun v_ => h40_s0 b n v_.1 v_.2) (sv := fun v_ => t40_s0 b n v_.1 v_.2) (ex := x40_s0 b n) (fun v_ => ?_) N.fuel (v, i) h1_ h2_
  refine (f40_s0 b n v_.1 v_.2).trans ((N.ref1_Take_s0_bind b n _ _ v_.1 v_.2).trans ?_)
  refine congrArg _ (funext fun s_ => ?_)
  rcases s_ with v_ | a <;> rfl
noncomputable def B40 : List (DVal E.T) → St E.T → Tree (Res E.T × St E.T) := dbody E (lookS S40) (lookD []) L40 0 false Try.f40
theorem B40_ok : FnOk Try.prog E 40 B40 := bodyC_ok sound mix S40_ok (SD := []) trivial (L := L40) (N := 0) (keep := false) Try.func40 rfl (by
  intro k g hg fr st out ho
  match k, hg with
  | 0, hg => cases hg; exact lp_ok (allLp_cons q40_s0 (allLp_nil)) fr st out ho
  | _ + 1, hg => cases hg)
theorem F40 (b : List UInt8) (n : Int) : (B40 [.val (.slice (.int .u8)) b, .val (.int .i64) n] []).get = N.ref1_Take_k N.fuel (fun x_ => some (.ret [.val (.int .i64) x_.1, .val .bool x_.2], [])) b n := by kernel_rfl
noncomputable def i40 : Ins E (Res E.T × St E.T) := ⟨[.v (.slice (.int .u8)), .v (.int .i64)], [], fun b n => .opt (N.ref1_Take N.fuel b n) fun x_ => .ret (.ret [.val (.int .i64) x_.1, .val .bool x_.2], [])⟩
theorem i40_ok : InsOk Try.prog 40 i40 := ⟨B40, B40_ok, by intro b n out_ h_; exact ((F40 b n).trans (N.ref1_Take_bind N.fuel _ b n)).trans h_⟩
noncomputable def P40 : Nat × D.Spec E := (40, .pure [(.slice (.int .u8)), (.int .i64)] (pureF [i40]))
theorem p40 : SpecOk Try.prog E P40.1 P40.2 := pureI_ok Try.call40 ⟨i40_ok, trivial⟩

/-! tenancy/tenancyref7.TakeImage -/
noncomputable def S14 : List (Nat × D.Spec E) := [P11, P12, P19k, P39, P40]
theorem S14_ok : AllS Try.prog E S14 := ⟨p11, p12, p19k, p39, p40, trivial⟩
abbrev h14_s0 (l : List (List UInt8)) (all : List UInt8) (i : Int) (o0 : N.TState) : Fr E.T := ofSlots E 138 [] [0, 2, 4, 5] [.val (.slice .str) l, .ptr 0 [], .val .str all, .val (.int .i64) i]
abbrev t14_s0 (l : List (List UInt8)) (all : List UInt8) (i : Int) (o0 : N.TState) : St E.T := [.box false (.agg 2 [.nils, .nils, .val (.int .i64) o0.Epoch])]
def x14_s0 (l : List (List UInt8)) (x_ : List UInt8 × N.TState) : Tree (CodeOut E) := .ret (.exit 0, ofSlots E 138 [] [0, 2, 3, 4] [.val (.slice .str) l, .ptr 0 [], .undef, .val .str x_.1], [.box false (.agg 2 [.nils, .nils, .val (.int .i64) x_.2.Epoch])])
noncomputable def g14_s0 : Ins E (CodeOut E) := ⟨[.v (.slice .str), .ptr 0 [], .v .str, .v (.int .i64)], [.box false (.agg 2 [.nils, .nils, .v (.int .i64)])], fun l all i o0_Epoch => .opt (N.ref7_TakeImage_l0 N.fuel l all i (N.TState.mk [] [] o0_Epoch)) (x14_s0 l)⟩
abbrev h14_s1 (l : List (List UInt8)) (r1 : List UInt8) (b : List UInt8) (i : Int) (o0 : N.TState) (s : N.TState) : Fr E.T := ofSlots E 138 [] [0, 2, 6, 7, 8] [.val (.slice .str) l, .ptr 0 [], .val (.slice (.int .u8)) b, .ptr 5 [], .val (.int .i64) i]
abbrev t14_s1 (l : List (List UInt8)) (r1 : List UInt8) (b : List UInt8) (i : Int) (o0 : N.TState) (s : N.TState) : St E.T := [.box false (.agg 2 [.nils, .nils, .val (.int .i64) o0.Epoch]), .arr .froz (.int .u8) r1, .dead, .arr .live (.named 0) s.Files, .arr .live (.named 1) s.Marks, .box false (.agg 2 [.own 3, .own 4, .val (.int .i64) s.Epoch])]
def x14_s1 (l : List (List UInt8)) (r1 : List UInt8) (x_ : List UInt8 × N.TState × N.TState) : Tree (CodeOut E) := .ret (.exit 2, ofSlots E 138 [] [0, 2, 3, 6, 7] [.val (.slice .str) l, .ptr 0 [], .undef, .val (.slice (.int .u8)) x_.1, .ptr 5 []], [.box false (.agg 2 [.nils, .nils, .val (.int .i64) x_.2.1.Epoch]), .arr .froz (.int .u8) r1, .dead, .arr .live (.named 0) x_.2.2.Files, .arr .live (.named 1) x_.2.2.Marks, .box false (.agg 2 [.own 3, .own 4, .val (.int .i64) x_.2.2.Epoch])])
noncomputable def g14_s1 : Ins E (CodeOut E) := ⟨[.v (.slice .str), .ptr 0 [], .v (.slice (.int .u8)), .ptr 5 [], .v (.int .i64)], [.box false (.agg 2 [.nils, .nils, .v (.int .i64)]), .arr .froz (.int .u8), .dead, .arr .live (.named 0), .arr .live (.named 1), .box false (.agg 2 [.own 3, .own 4, .v (.int .i64)])], fun l b i o0_Epoch r1 a3_ a4_ s_Epoch => .opt (N.ref7_TakeImage_l1 N.fuel l r1 b i (N.TState.mk [] [] o0_Epoch) (N.TState.mk a3_ a4_ s_Epoch)) (x14_s1 l r1)⟩
abbrev h14_s2 (l : List (List UInt8)) (r1 : List UInt8) (b : List UInt8) (i : Int) (o0 : N.TState) (s : N.TState) : Fr E.T := ofSlots E 138 [] [0, 2, 6, 7, 10] [.val (.slice .str) l, .ptr 0 [], .val (.slice (.int .u8)) b, .ptr 5 [], .val (.int .i64) i]
abbrev t14_s2 (l : List (List UInt8)) (r1 : List UInt8) (b : List UInt8) (i : Int) (o0 : N.TState) (s : N.TState) : St E.T := [.box false (.agg 2 [.nils, .nils, .val (.int .i64) o0.Epoch]), .arr .froz (.int .u8) r1, .dead, .arr .live (.named 0) s.Files, .arr .live (.named 1) s.Marks, .box false (.agg 2 [.own 3, .own 4, .val (.int .i64) s.Epoch])]
def x14_s2 (l : List (List UInt8)) (r1 : List UInt8) (x_ : N.TState × N.TState) : Tree (CodeOut E) := .ret (.exit 4, ofSlots E 138 [] [0, 2, 3, 7] [.val (.slice .str) l, .ptr 0 [], .undef, .ptr 5 []], [.box false (.agg 2 [.nils, .nils, .val (.int .i64) x_.1.Epoch]), .arr .froz (.int .u8) r1, .dead, .arr .live (.named 0) x_.2.Files, .arr .live (.named 1) x_.2.Marks, .box false (.agg 2 [.own 3, .own 4, .val (.int .i64) x_.2.Epoch])])
noncomputable def g14_s2 : Ins E (CodeOut E) := ⟨[.v (.slice .str), .ptr 0 [], .v (.slice (.int .u8)), .ptr 5 [], .v (.int .i64)], [.box false (.agg 2 [.nils, .nils, .v (.int .i64)]), .arr .froz (.int .u8), .dead, .arr .live (.named 0), .arr .live (.named 1), .box false (.agg 2 [.own 3, .own 4, .v (.int .i64)])], fun l b i o0_Epoch r1 a3_ a4_ s_Epoch => .opt (N.ref7_TakeImage_l2 N.fuel l r1 b i (N.TState.mk [] [] o0_Epoch) (N.TState.mk a3_ a4_ s_Epoch)) (x14_s2 l r1)⟩
noncomputable def L14 : Nat → LoopInfo E := clL E 138 [{ ks := [0, 2, 4, 5], mvs := [], pro := [], d := [], g := some (insF [g14_s0]) }, { ks := [0, 2, 6, 7, 8], mvs := [], pro := [], d := [], g := some (insF [g14_s1]) }, { ks := [0, 2, 6, 7, 10], mvs := [], pro := [], d := [], g := some (insF [g14_s2]) }] []
theorem f14_s0 (l : List (List UInt8)) (all : List UInt8) (i : Int) (o0 : N.TState) : ((stepOf E S14 L14 0 0 Try.f14 (h14_s0 l all i o0) (t14_s0 l all i o0)).bind (nx E [0, 2, 4, 5] [] [0, 2, 3, 4] 1)).get = N.ref7_TakeImage_s0k l (fun v_ => some (.inl (h14_s0 l v_.1 v_.2.1 v_.2.2, t14_s0 l v_.1 v_.2.1 v_.2.2))) (fun x_ => some (.inr (.exit 0, ofSlots E 138 [] [0, 2, 3, 4] [.val (.slice .str) l, .ptr 0 [], .undef, .val .str x_.1], [.box false (.agg 2 [.nils, .nils, .val (.int .i64) x_.2.Epoch])]))) all i o0 := by kernel_rfl
theorem q14_s0 : InsLp 138 [0, 2, 4, 5] [] [] (stepOf E S14 L14 0 0 Try.f14) g14_s0 := by
  intro l all i o0_Epoch out_ ho_
  obtain ⟨x_, h1_, h2_⟩ := Option.bind_eq_some_iff.1 ho_
  refine iter_loop (rs := [0, 2, 3, 4]) (step := N.ref7_TakeImage_s0 l) (hd := fun v_ => h14_s0 l v_.1 v_.2.1 v_.2.2) (sv := fun v_ => t14_s0 l v_.1 v_.2.1 v_.2.2) (ex := x14_s0 l) (fun v_ => ?_) N.fuel (all, i, (N.TState.mk [] [] o0_Epoch)) h1_ h2_
  refine (f14_s0 l v_.1 v_.2.1 v_.2.2).trans ((N.ref7_TakeImage_s0_bind l _ _ v_.1 v_.2.1 v_.2.2).trans ?_)
  refine congrArg _ (funext fun s_ => ?_)
  rcases s_ with v_ | a <;> rfl
theorem f14_s1 (l : List (List UInt8)) (r1 : List UInt8) (b : List UInt8) (i : Int) (o0 : N.TState) (s : N.TState) : ((stepOf E S14 L14 0 1 Try.f14 (h14_s1 l r1 b i o0 s) (t14_s1 l r1 b i o0 s)).bind (nx E [0, 2, 6, 7, 8] [] [0, 2, 3, 6, 7] 6)).get = N.ref7_TakeImage_s1k N.fuel l r1 (fun v_ => some (.inl (h14_s1 l r1 v_.1 v_.2.1 v_.2.2.1 v_.2.2.2, t14_s1 l r1 v_.1 v_.2.1 v_.2.2.1 v_.2.2.2))) (fun x_ => some (.inr (.exit 2, ofSlots E 138 [] [0, 2, 3, 6, 7] [.val (.slice .str) l, .ptr 0 [], .undef, .val (.slice (.int .u8)) x_.1, .ptr 5 []], [.box false (.agg 2 [.nils, .nils, .val (.int .i64) x_.2.1.Epoch]), .arr .froz (.int .u8) r1, .dead, .arr .live (.named 0) x_.2.2.Files, .arr .live (.named 1) x_.2.2.Marks, .box false (.agg 2 [.own 3, .own 4, .val (.int .i64) x_.2.2.Epoch])]))) b i o0 s := by kernel_rfl
theorem q14_s1 : InsLp 138 [0, 2, 6, 7, 8] [] [] (stepOf E S14 L14 0 1 Try.f14) g14_s1 := by
  intro l b i o0_Epoch r1 a3_ a4_ s_Epoch out_ ho_
  obtain ⟨x_, h1_, h2_⟩ := Option.bind_eq_some_iff.1 ho_
  refine iter_loop (rs := [0, 2, 3, 6, 7]) (step := N.ref7_TakeImage_s1 N.fuel l r1) (hd := fun v_ => h14_s1 l r1 v_.1 v_.2.1 v_.2.2.1 v_.2.2.2) (sv := fun v_ => t14_s1 l r1 v_.1 v_.2.1 v_.2.2.1 v_.2.2.2) (ex := x14_s1 l r1) (fun v_ => ?_) N.fuel (b, i, (N.TState.mk [] [] o0_Epoch), (N.TState.mk a3_ a4_ s_Epoch)) h1_ h2_
  refine (f14_s1 l r1 v_.1 v_.2.1 v_.2.2.1 v_.2.2.2).trans ((N.ref7_TakeImage_s1_bind N.fuel l r1 _ _ v_.1 v_.2.1 v_.2.2.1 v_.2.2.2).trans ?_)
  refine congrArg _ (funext fun s_ => ?_)
  rcases s_ with v_ | a <;> rfl
theorem f14_s2 (l : List (List UInt8)) (r1 : List UInt8) (b : List UInt8) (i : Int) (o0 : N.TState) (s : N.TState) : ((stepOf E S14 L14 0 2 Try.f14 (h14_s2 l r1 b i o0 s) (t14_s2 l r1 b i o0 s)).bind (nx E [0, 2, 6, 7, 10] [] [0, 2, 3, 7] 6)).get = N.ref7_TakeImage_s2k N.fuel l r1 (fun v_ => some (.inl (h14_s2 l r1 v_.1 v_.2.1 v_.2.2.1 v_.2.2.2, t14_s2 l r1 v_.1 v_.2.1 v_.2.2.1 v_.2.2.2))) (fun x_ => some (.inr (.exit 4, ofSlots E 138 [] [0, 2, 3, 7] [.val (.slice .str) l, .ptr 0 [], .undef, .ptr 5 []], [.box false (.agg 2 [.nils, .nils, .val (.int .i64) x_.1.Epoch]), .arr .froz (.int .u8) r1, .dead, .arr .live (.named 0) x_.2.Files, .arr .live (.named 1) x_.2.Marks, .box false (.agg 2 [.own 3, .own 4, .val (.int .i64) x_.2.Epoch])]))) b i o0 s := by kernel_rfl
theorem q14_s2 : InsLp 138 [0, 2, 6, 7, 10] [] [] (stepOf E S14 L14 0 2 Try.f14) g14_s2 := by
  intro l b i o0_Epoch r1 a3_ a4_ s_Epoch out_ ho_
  obtain ⟨x_, h1_, h2_⟩ := Option.bind_eq_some_iff.1 ho_
  refine iter_loop (rs := [0, 2, 3, 7]) (step := N.ref7_TakeImage_s2 N.fuel l r1) (hd := fun v_ => h14_s2 l r1 v_.1 v_.2.1 v_.2.2.1 v_.2.2.2) (sv := fun v_ => t14_s2 l r1 v_.1 v_.2.1 v_.2.2.1 v_.2.2.2) (ex := x14_s2 l r1) (fun v_ => ?_) N.fuel (b, i, (N.TState.mk [] [] o0_Epoch), (N.TState.mk a3_ a4_ s_Epoch)) h1_ h2_
  refine (f14_s2 l r1 v_.1 v_.2.1 v_.2.2.1 v_.2.2.2).trans ((N.ref7_TakeImage_s2_bind N.fuel l r1 _ _ v_.1 v_.2.1 v_.2.2.1 v_.2.2.2).trans ?_)
  refine congrArg _ (funext fun s_ => ?_)
  rcases s_ with v_ | a <;> rfl
noncomputable def B14 : List (DVal E.T) → St E.T → Tree (Res E.T × St E.T) := dbody E (lookS S14) (lookD []) L14 0 false Try.f14
theorem B14_ok : FnOk Try.prog E 14 B14 := bodyC_ok sound mix S14_ok (SD := []) trivial (L := L14) (N := 0) (keep := false) Try.func14 rfl (by
  intro k g hg fr st out ho
  match k, hg with
  | 0, hg => cases hg; exact lp_ok (allLp_cons q14_s0 (allLp_nil)) fr st out ho
  | 1, hg => cases hg; exact lp_ok (allLp_cons q14_s1 (allLp_nil)) fr st out ho
  | 2, hg => cases hg; exact lp_ok (allLp_cons q14_s2 (allLp_nil)) fr st out ho
  | _ + 3, hg => cases hg)
theorem F14 (l : List (List UInt8)) : (B14 [.val (.slice .str) l] []).get = N.ref7_TakeImage_k N.fuel (fun x_ => some (.ret [.val (.named 2) x_.1, .val .bool x_.2], [])) l := by kernel_rfl
noncomputable def i14 : Ins E (Res E.T × St E.T) := ⟨[.v (.slice .str)], [], fun l => .opt (N.ref7_TakeImage N.fuel l) fun x_ => .ret (.ret [.val (.named 2) x_.1, .val .bool x_.2], [])⟩
theorem i14_ok : InsOk Try.prog 14 i14 := ⟨B14, B14_ok, by intro l out_ h_; exact ((F14 l).trans (N.ref7_TakeImage_bind N.fuel _ l)).trans h_⟩
noncomputable def P14 : Nat × D.Spec E := (14, .pure [(.slice .str)] (pureF [i14]))
theorem p14 : SpecOk Try.prog E P14.1 P14.2 := pureI_ok Try.call14 ⟨i14_ok, trivial⟩

/-! tenancy/tenancyref7.Diff -/
noncomputable def S18 : List (Nat × D.Spec E) := []
theorem S18_ok : AllS Try.prog E S18 := trivial
abbrev h18_s0 (a : List (List UInt8)) (b : List (List UInt8)) (i : Int) (out : List N.TPut) : Fr E.T := ofSlots E 38 [] [0, 1, 5, 6] [.val (.slice .str) a, .val (.slice .str) b, .own 0, .val (.int .i64) i]
abbrev t18_s0 (a : List (List UInt8)) (b : List (List UInt8)) (i : Int) (out : List N.TPut) : St E.T := [.arr .live (.named 3) out]
def x18_s0 (a : List (List UInt8)) (b : List (List UInt8)) (x_ : List N.TPut) : Tree (CodeOut E) := .ret (.exit 0, ofSlots E 38 [] [4, 5] [.undef, .own 0], [.arr .live (.named 3) x_])
noncomputable def g18_s0 : Ins E (CodeOut E) := ⟨[.v (.slice .str), .v (.slice .str), .own 0, .v (.int .i64)], [.arr .live (.named 3)], fun a b i out => .opt (N.ref7_Diff_l0 N.fuel a b i out) (x18_s0 a b)⟩
noncomputable def L18 : Nat → LoopInfo E := clL E 38 [{ ks := [0, 1, 5, 6], mvs := [], pro := [.pro (.slot 5) [] (.named 3)], d := [], g := some (insF [g18_s0]) }] []
theorem f18_s0 (a : List (List UInt8)) (b : List (List UInt8)) (i : Int) (out : List N.TPut) : ((stepOf E S18 L18 0 0 Try.f18 (h18_s0 a b i out) (t18_s0 a b i out)).bind (nx E [0, 1, 5, 6] [] [4, 5] 1)).get = N.ref7_Diff_s0k a b (fun v_ => some (.inl (h18_s0 a b v_.1 v_.2, t18_s0 a b v_.1 v_.2))) (fun x_ => some (.inr (.exit 0, ofSlots E 38 [] [4, 5] [.undef, .own 0], [.arr .live (.named 3) x_]))) i out := by kernel_rfl
theorem q18_s0 : InsLp 38 [0, 1, 5, 6] [] [] (stepOf E S18 L18 0 0 Try.f18) g18_s0 := by
  intro a b i out out_ ho_
  obtain ⟨x_, h1_, h2_⟩ := Option.bind_eq_some_iff.1 ho_
  refine iter_loop (rs := [4, 5]) (step := N.ref7_Diff_s0 a b) (hd := fun v_ => h18_s0 a b v_.1 v_.2) (sv := fun v_ => t18_s0 a b v_.1 v_.2) (ex := x18_s0 a b) (fun v_ => ?_) N.fuel (i, out) h1_ h2_
  refine (f18_s0 a b v_.1 v_.2).trans ((N.ref7_Diff_s0_bind a b _ _ v_.1 v_.2).trans ?_)
  refine congrArg _ (funext fun s_ => ?_)
  rcases s_ with v_ | a <;> rfl
noncomputable def B18 : List (DVal E.T) → St E.T → Tree (Res E.T × St E.T) := dbody E (lookS S18) (lookD []) L18 0 false Try.f18
theorem B18_ok : FnOk Try.prog E 18 B18 := bodyC_ok sound mix S18_ok (SD := []) trivial (L := L18) (N := 0) (keep := false) Try.func18 rfl (by
  intro k g hg fr st out ho
  match k, hg with
  | 0, hg => cases hg; exact lp_ok (allLp_cons q18_s0 (allLp_nil)) fr st out ho
  | _ + 1, hg => cases hg)
theorem F18 (a : List (List UInt8)) (b : List (List UInt8)) : (B18 [.val (.slice .str) a, .val (.slice .str) b] []).get = N.ref7_Diff_k N.fuel (fun x_ => some (.ret [.val (.slice (.named 3)) x_], [])) a b := by kernel_rfl
noncomputable def i18 : Ins E (Res E.T × St E.T) := ⟨[.v (.slice .str), .v (.slice .str)], [], fun a b => .opt (N.ref7_Diff N.fuel a b) fun x_ => .ret (.ret [.val (.slice (.named 3)) x_], [])⟩
theorem i18_ok : InsOk Try.prog 18 i18 := ⟨B18, B18_ok, by intro a b out_ h_; exact ((F18 a b).trans (N.ref7_Diff_bind N.fuel _ a b)).trans h_⟩
noncomputable def P18 : Nat × D.Spec E := (18, .pure [(.slice .str), (.slice .str)] (pureF [i18]))
theorem p18 : SpecOk Try.prog E P18.1 P18.2 := pureI_ok Try.call18 ⟨i18_ok, trivial⟩

/-! tenancy/tenancyref5.SamePuts -/
noncomputable def S16 : List (Nat × D.Spec E) := []
theorem S16_ok : AllS Try.prog E S16 := trivial
abbrev h16_s0 (a : List N.TPut) (b : List N.TPut) (i : Int) : Fr E.T := ofSlots E 26 [] [0, 1, 5] [.val (.slice (.named 3)) a, .val (.slice (.named 3)) b, .val (.int .i64) i]
abbrev t16_s0 (a : List N.TPut) (b : List N.TPut) (i : Int) : St E.T := []
def x16_s0 (a : List N.TPut) (b : List N.TPut) (x_ : Unit ⊕ Unit) : Tree (CodeOut E) := altT x_ (fun u0_ => .ret (.ret, ofSlots E 26 [] [4] [.val .bool false], [])) (fun w0_ => .ret (.exit 0, ofSlots E 26 [] [4] [.undef], []))
noncomputable def g16_s0 : Ins E (CodeOut E) := ⟨[.v (.slice (.named 3)), .v (.slice (.named 3)), .v (.int .i64)], [], fun a b i => .opt (N.ref5_SamePuts_l0 N.fuel a b i) (x16_s0 a b)⟩
noncomputable def L16 : Nat → LoopInfo E := clL E 26 [{ ks := [0, 1, 5], mvs := [], pro := [], d := [], g := some (insF [g16_s0]) }] []
theorem f16_s0 (a : List N.TPut) (b : List N.TPut) (i : Int) : ((stepOf E S16 L16 0 0 Try.f16 (h16_s0 a b i) (t16_s0 a b i)).bind (nx E [0, 1, 5] [] [4] 0)).get = N.ref5_SamePuts_s0k a b (fun v_ => some (.inl (h16_s0 a b v_, t16_s0 a b v_))) (fun x_ => some (.inr (.ret, ofSlots E 26 [] [4] [.val .bool false], []))) (fun x_ => some (.inr (.exit 0, ofSlots E 26 [] [4] [.undef], []))) i := by kernel_rfl
theorem q16_s0 : InsLp 26 [0, 1, 5] [] [] (stepOf E S16 L16 0 0 Try.f16) g16_s0 := by
  intro a b i out_ ho_
  obtain ⟨x_, h1_, h2_⟩ := Option.bind_eq_some_iff.1 ho_
  refine iter_loop (rs := [4]) (step := N.ref5_SamePuts_s0 a b) (hd := fun v_ => h16_s0 a b v_) (sv := fun v_ => t16_s0 a b v_) (ex := x16_s0 a b) (fun v_ => ?_) N.fuel i h1_ h2_
  refine (f16_s0 a b v_).trans ((N.ref5_SamePuts_s0_bind a b _ _ _ v_).trans ?_)
  refine congrArg _ (funext fun s_ => ?_)
  rcases s_ with v_ | a | a <;> rfl
noncomputable def B16 : List (DVal E.T) → St E.T → Tree (Res E.T × St E.T) := dbody E (lookS S16) (lookD []) L16 0 false Try.f16
theorem B16_ok : FnOk Try.prog E 16 B16 := bodyC_ok sound mix S16_ok (SD := []) trivial (L := L16) (N := 0) (keep := false) Try.func16 rfl (by
  intro k g hg fr st out ho
  match k, hg with
  | 0, hg => cases hg; exact lp_ok (allLp_cons q16_s0 (allLp_nil)) fr st out ho
  | _ + 1, hg => cases hg)
theorem F16 (a : List N.TPut) (b : List N.TPut) : (B16 [.val (.slice (.named 3)) a, .val (.slice (.named 3)) b] []).get = N.ref5_SamePuts_k N.fuel (fun x_ => some (.ret [.val .bool x_], [])) a b := by kernel_rfl
noncomputable def i16 : Ins E (Res E.T × St E.T) := ⟨[.v (.slice (.named 3)), .v (.slice (.named 3))], [], fun a b => .opt (N.ref5_SamePuts N.fuel a b) fun x_ => .ret (.ret [.val .bool x_], [])⟩
theorem i16_ok : InsOk Try.prog 16 i16 := ⟨B16, B16_ok, by intro a b out_ h_; exact ((F16 a b).trans (N.ref5_SamePuts_bind N.fuel _ a b)).trans h_⟩
noncomputable def P16 : Nat × D.Spec E := (16, .pure [(.slice (.named 3)), (.slice (.named 3))] (pureF [i16]))
theorem p16 : SpecOk Try.prog E P16.1 P16.2 := pureI_ok Try.call16 ⟨i16_ok, trivial⟩

/-! tenancy/tenancylaw11.ImageAll -/
noncomputable def S3 : List (Nat × D.Spec E) := [P10, P11, P12, P13, P14, P15, P16, P17, P18, P7, P8, P9]
theorem S3_ok : AllS Try.prog E S3 := ⟨p10, p11, p12, p13, p14, p15, p16, p17, p18, p7, p8, p9, trivial⟩
abbrev h3_s0 (picks : List UInt8) (at_ : UInt8) (k : UInt8) (by_ : UInt8) (wild : List (List UInt8)) (cut : UInt8) (i : Int) : Fr E.T := ofSlots E 148 [] [0, 1, 2, 3, 4, 5, 13] [.val (.slice (.int .u8)) picks, .val (.int .u8) at_, .val (.int .u8) k, .val (.int .u8) by_, .val (.slice .str) wild, .val (.int .u8) cut, .val (.int .i64) i]
abbrev t3_s0 (picks : List UInt8) (at_ : UInt8) (k : UInt8) (by_ : UInt8) (wild : List (List UInt8)) (cut : UInt8) (i : Int) : St E.T := []
def x3_s0 (picks : List UInt8) (at_ : UInt8) (k : UInt8) (by_ : UInt8) (wild : List (List UInt8)) (cut : UInt8) (x_ : Unit ⊕ Unit) : Tree (CodeOut E) := altT x_ (fun u0_ => .ret (.ret, ofSlots E 148 [] [0, 1, 2, 3, 4, 5, 12] [.val (.slice (.int .u8)) picks, .val (.int .u8) at_, .val (.int .u8) k, .val (.int .u8) by_, .val (.slice .str) wild, .val (.int .u8) cut, .val .bool true], [])) (fun w0_ => .ret (.exit 0, ofSlots E 148 [] [0, 1, 2, 3, 4, 5, 12] [.val (.slice (.int .u8)) picks, .val (.int .u8) at_, .val (.int .u8) k, .val (.int .u8) by_, .val (.slice .str) wild, .val (.int .u8) cut, .undef], []))
noncomputable def g3_s0 : Ins E (CodeOut E) := ⟨[.v (.slice (.int .u8)), .v (.int .u8), .v (.int .u8), .v (.int .u8), .v (.slice .str), .v (.int .u8), .v (.int .i64)], [], fun picks at_ k by_ wild cut i => .opt (N.law11_ImageAll_l0 N.fuel picks at_ k by_ wild cut i) (x3_s0 picks at_ k by_ wild cut)⟩
abbrev h3_s1 (l : List (List UInt8)) (lots : List (List (List UInt8))) (o0 : N.Ttenancymade_Picks) (o1 : N.TState) (m : List (List UInt8)) (r3 : List UInt8) (i : Int) : Fr E.T := ofSlots E 148 [] [15, 16, 19, 20] [.val (.slice .str) l, .own 2, .val (.slice (.slice .str)) lots, .val (.int .i64) i]
abbrev t3_s1 (l : List (List UInt8)) (lots : List (List (List UInt8))) (o0 : N.Ttenancymade_Picks) (o1 : N.TState) (m : List (List UInt8)) (r3 : List UInt8) (i : Int) : St E.T := [.box false (.val (.named 5) o0), .box false (.val (.named 2) o1), .arr .froz .str m, .arr .live (.int .u8) r3]
def x3_s1 (l : List (List UInt8)) (lots : List (List (List UInt8))) (o0 : N.Ttenancymade_Picks) (o1 : N.TState) (m : List (List UInt8)) (r3 : List UInt8) (x_ : (N.TState × N.TState) ⊕ Unit) : Tree (CodeOut E) := altT x_ (fun u0_ => .ret (.ret, ofSlots E 148 [] [12, 15, 16] [.val .bool false, .val (.slice .str) l, .own 2], [.box false (.val (.named 5) o0), .box false (.val (.named 2) o1), .arr .froz .str m, .arr .live (.int .u8) r3, .box false (.val (.named 2) u0_.1), .box false (.val (.named 2) u0_.2)])) (fun w0_ => .ret (.exit 2, ofSlots E 148 [] [12, 15, 16] [.undef, .val (.slice .str) l, .own 2], [.box false (.val (.named 5) o0), .box false (.val (.named 2) o1), .arr .froz .str m, .arr .live (.int .u8) r3]))
noncomputable def g3_s1 : Ins E (CodeOut E) := ⟨[.v (.slice .str), .own 2, .v (.slice (.slice .str)), .v (.int .i64)], [.box false (.v (.named 5)), .box false (.v (.named 2)), .arr .froz .str, .arr .live (.int .u8)], fun l lots i o0 o1 m r3 => .opt (N.law11_ImageAll_l1 N.fuel l lots o0 o1 m r3 i) (x3_s1 l lots o0 o1 m r3)⟩
noncomputable def L3 : Nat → LoopInfo E := clL E 148 [{ ks := [0, 1, 2, 3, 4, 5, 13], mvs := [], pro := [], d := [], g := some (insF [g3_s0]) }, { ks := [15, 16, 19, 20], mvs := [], pro := [], d := [], g := some (insF [g3_s1]) }] []
theorem f3_s0 (picks : List UInt8) (at_ : UInt8) (k : UInt8) (by_ : UInt8) (wild : List (List UInt8)) (cut : UInt8) (i : Int) : ((stepOf E S3 L3 0 0 Try.f3 (h3_s0 picks at_ k by_ wild cut i) (t3_s0 picks at_ k by_ wild cut i)).bind (nx E [0, 1, 2, 3, 4, 5, 13] [] [0, 1, 2, 3, 4, 5, 12] 0)).get = N.law11_ImageAll_s0k picks at_ k by_ wild cut (fun v_ => some (.inl (h3_s0 picks at_ k by_ wild cut v_, t3_s0 picks at_ k by_ wild cut v_))) (fun x_ => some (.inr (.ret, ofSlots E 148 [] [0, 1, 2, 3, 4, 5, 12] [.val (.slice (.int .u8)) picks, .val (.int .u8) at_, .val (.int .u8) k, .val (.int .u8) by_, .val (.slice .str) wild, .val (.int .u8) cut, .val .bool true], []))) (fun x_ => some (.inr (.exit 0, ofSlots E 148 [] [0, 1, 2, 3, 4, 5, 12] [.val (.slice (.int .u8)) picks, .val (.int .u8) at_, .val (.int .u8) k, .val (.int .u8) by_, .val (.slice .str) wild, .val (.int .u8) cut, .undef], []))) i := by kernel_rfl
theorem q3_s0 : InsLp 148 [0, 1, 2, 3, 4, 5, 13] [] [] (stepOf E S3 L3 0 0 Try.f3) g3_s0 := by
  intro picks at_ k by_ wild cut i out_ ho_
  obtain ⟨x_, h1_, h2_⟩ := Option.bind_eq_some_iff.1 ho_
  refine iter_loop (rs := [0, 1, 2, 3, 4, 5, 12]) (step := N.law11_ImageAll_s0 picks at_ k by_ wild cut) (hd := fun v_ => h3_s0 picks at_ k by_ wild cut v_) (sv := fun v_ => t3_s0 picks at_ k by_ wild cut v_) (ex := x3_s0 picks at_ k by_ wild cut) (fun v_ => ?_) N.fuel i h1_ h2_
  refine (f3_s0 picks at_ k by_ wild cut v_).trans ((N.law11_ImageAll_s0_bind picks at_ k by_ wild cut _ _ _ v_).trans ?_)
  refine congrArg _ (funext fun s_ => ?_)
  rcases s_ with v_ | a | a <;> rfl
theorem f3_s1 (l : List (List UInt8)) (lots : List (List (List UInt8))) (o0 : N.Ttenancymade_Picks) (o1 : N.TState) (m : List (List UInt8)) (r3 : List UInt8) (i : Int) : ((stepOf E S3 L3 0 1 Try.f3 (h3_s1 l lots o0 o1 m r3 i) (t3_s1 l lots o0 o1 m r3 i)).bind (nx E [15, 16, 19, 20] [] [12, 15, 16] 4)).get = N.law11_ImageAll_s1k N.fuel l lots o0 o1 m r3 (fun v_ => some (.inl (h3_s1 l lots o0 o1 m r3 v_, t3_s1 l lots o0 o1 m r3 v_))) (fun x_ => some (.inr (.ret, ofSlots E 148 [] [12, 15, 16] [.val .bool false, .val (.slice .str) l, .own 2], [.box false (.val (.named 5) o0), .box false (.val (.named 2) o1), .arr .froz .str m, .arr .live (.int .u8) r3, .box false (.val (.named 2) x_.1), .box false (.val (.named 2) x_.2)]))) (fun x_ => some (.inr (.exit 2, ofSlots E 148 [] [12, 15, 16] [.undef, .val (.slice .str) l, .own 2], [.box false (.val (.named 5) o0), .box false (.val (.named 2) o1), .arr .froz .str m, .arr .live (.int .u8) r3]))) i := by kernel_rfl
theorem q3_s1 : InsLp 148 [15, 16, 19, 20] [] [] (stepOf E S3 L3 0 1 Try.f3) g3_s1 := by
  intro l lots i o0 o1 m r3 out_ ho_
  obtain ⟨x_, h1_, h2_⟩ := Option.bind_eq_some_iff.1 ho_
  refine iter_loop (rs := [12, 15, 16]) (step := N.law11_ImageAll_s1 N.fuel l lots o0 o1 m r3) (hd := fun v_ => h3_s1 l lots o0 o1 m r3 v_) (sv := fun v_ => t3_s1 l lots o0 o1 m r3 v_) (ex := x3_s1 l lots o0 o1 m r3) (fun v_ => ?_) N.fuel i h1_ h2_
  refine (f3_s1 l lots o0 o1 m r3 v_).trans ((N.law11_ImageAll_s1_bind N.fuel l lots o0 o1 m r3 _ _ _ v_).trans ?_)
  refine congrArg _ (funext fun s_ => ?_)
  rcases s_ with v_ | a | a <;> rfl
noncomputable def B3 : List (DVal E.T) → St E.T → Tree (Res E.T × St E.T) := dbody E (lookS S3) (lookD []) L3 0 false Try.f3
theorem B3_ok : FnOk Try.prog E 3 B3 := bodyC_ok sound mix S3_ok (SD := []) trivial (L := L3) (N := 0) (keep := false) Try.func3 rfl (by
  intro k g hg fr st out ho
  match k, hg with
  | 0, hg => cases hg; exact lp_ok (allLp_cons q3_s0 (allLp_nil)) fr st out ho
  | 1, hg => cases hg; exact lp_ok (allLp_cons q3_s1 (allLp_nil)) fr st out ho
  | _ + 2, hg => cases hg)
theorem F3 (picks : List UInt8) (at_ : UInt8) (k : UInt8) (by_ : UInt8) (wild : List (List UInt8)) (cut : UInt8) : (B3 [.val (.slice (.int .u8)) picks, .val (.int .u8) at_, .val (.int .u8) k, .val (.int .u8) by_, .val (.slice .str) wild, .val (.int .u8) cut] []).get = N.law11_ImageAll_k N.fuel (fun x_ => some (.ret [.val .bool x_], [])) picks at_ k by_ wild cut := by kernel_rfl
noncomputable def i3 : Ins E (Res E.T × St E.T) := ⟨[.v (.slice (.int .u8)), .v (.int .u8), .v (.int .u8), .v (.int .u8), .v (.slice .str), .v (.int .u8)], [], fun picks at_ k by_ wild cut => .opt (N.law11_ImageAll N.fuel picks at_ k by_ wild cut) fun x_ => .ret (.ret [.val .bool x_], [])⟩
theorem i3_ok : InsOk Try.prog 3 i3 := ⟨B3, B3_ok, by intro picks at_ k by_ wild cut out_ h_; exact ((F3 picks at_ k by_ wild cut).trans (N.law11_ImageAll_bind N.fuel _ picks at_ k by_ wild cut)).trans h_⟩
noncomputable def P3 : Nat × D.Spec E := (3, .pure [(.slice (.int .u8)), (.int .u8), (.int .u8), (.int .u8), (.slice .str), (.int .u8)] (pureF [i3]))
theorem p3 : SpecOk Try.prog E P3.1 P3.2 := pureI_ok Try.call3 ⟨i3_ok, trivial⟩

/-! tenancy/tenancylaw11.ImageBack -/
noncomputable def S4 : List (Nat × D.Spec E) := [P10, P11, P13, P15, P17, P7, P8, P9]
theorem S4_ok : AllS Try.prog E S4 := ⟨p10, p11, p13, p15, p17, p7, p8, p9, trivial⟩
abbrev h4_s0 (l : List (List UInt8)) (m : List (List UInt8)) (d : List N.TPut) (o0 : N.Ttenancymade_Picks) (o1 : N.Ttenancymade_Picks) (o2 : N.TState) (o3 : N.TState) (o4 : N.TState) (i : Int) (y : List (List UInt8)) : Fr E.T := ofSlots E 153 [] [7, 8, 11, 12, 13] [.val (.slice .str) l, .val (.slice .str) m, .val (.slice (.named 3)) d, .own 5, .val (.int .i64) i]
abbrev t4_s0 (l : List (List UInt8)) (m : List (List UInt8)) (d : List N.TPut) (o0 : N.Ttenancymade_Picks) (o1 : N.Ttenancymade_Picks) (o2 : N.TState) (o3 : N.TState) (o4 : N.TState) (i : Int) (y : List (List UInt8)) : St E.T := [.box false (.val (.named 5) o0), .box false (.val (.named 5) o1), .box false (.val (.named 2) o2), .box false (.val (.named 2) o3), .box false (.val (.named 2) o4), .arr .live .str y]
def x4_s0 (l : List (List UInt8)) (m : List (List UInt8)) (d : List N.TPut) (o0 : N.Ttenancymade_Picks) (o1 : N.Ttenancymade_Picks) (o2 : N.TState) (o3 : N.TState) (o4 : N.TState) (x_ : (List (List UInt8)) ⊕ (List (List UInt8))) : Tree (CodeOut E) := altT x_ (fun u0_ => .ret (.ret, ofSlots E 153 [] [4, 7, 8, 12] [.val .bool false, .val (.slice .str) l, .val (.slice .str) m, .own 5], [.box false (.val (.named 5) o0), .box false (.val (.named 5) o1), .box false (.val (.named 2) o2), .box false (.val (.named 2) o3), .box false (.val (.named 2) o4), .arr .live .str u0_])) (fun w0_ => .ret (.exit 0, ofSlots E 153 [] [4, 7, 8, 12] [.undef, .val (.slice .str) l, .val (.slice .str) m, .own 5], [.box false (.val (.named 5) o0), .box false (.val (.named 5) o1), .box false (.val (.named 2) o2), .box false (.val (.named 2) o3), .box false (.val (.named 2) o4), .arr .live .str w0_]))
noncomputable def g4_s0 : Ins E (CodeOut E) := ⟨[.v (.slice .str), .v (.slice .str), .v (.slice (.named 3)), .own 5, .v (.int .i64)], [.box false (.v (.named 5)), .box false (.v (.named 5)), .box false (.v (.named 2)), .box false (.v (.named 2)), .box false (.v (.named 2)), .arr .live .str], fun l m d i o0 o1 o2 o3 o4 y => .opt (N.law11_ImageBack_l0 N.fuel l m d o0 o1 o2 o3 o4 i y) (x4_s0 l m d o0 o1 o2 o3 o4)⟩
abbrev h4_s1 (l : List (List UInt8)) (m : List (List UInt8)) (o0 : N.Ttenancymade_Picks) (o1 : N.Ttenancymade_Picks) (o2 : N.TState) (o3 : N.TState) (o4 : N.TState) (y : List (List UInt8)) (i : Int) : Fr E.T := ofSlots E 153 [] [7, 8, 12, 14] [.val (.slice .str) l, .val (.slice .str) m, .own 5, .val (.int .i64) i]
abbrev t4_s1 (l : List (List UInt8)) (m : List (List UInt8)) (o0 : N.Ttenancymade_Picks) (o1 : N.Ttenancymade_Picks) (o2 : N.TState) (o3 : N.TState) (o4 : N.TState) (y : List (List UInt8)) (i : Int) : St E.T := [.box false (.val (.named 5) o0), .box false (.val (.named 5) o1), .box false (.val (.named 2) o2), .box false (.val (.named 2) o3), .box false (.val (.named 2) o4), .arr .live .str y]
def x4_s1 (l : List (List UInt8)) (m : List (List UInt8)) (o0 : N.Ttenancymade_Picks) (o1 : N.Ttenancymade_Picks) (o2 : N.TState) (o3 : N.TState) (o4 : N.TState) (y : List (List UInt8)) (x_ : Unit ⊕ Unit) : Tree (CodeOut E) := altT x_ (fun u0_ => .ret (.ret, ofSlots E 153 [] [4, 8, 12] [.val .bool false, .val (.slice .str) m, .own 5], [.box false (.val (.named 5) o0), .box false (.val (.named 5) o1), .box false (.val (.named 2) o2), .box false (.val (.named 2) o3), .box false (.val (.named 2) o4), .arr .live .str y])) (fun w0_ => .ret (.exit 2, ofSlots E 153 [] [4, 8, 12] [.undef, .val (.slice .str) m, .own 5], [.box false (.val (.named 5) o0), .box false (.val (.named 5) o1), .box false (.val (.named 2) o2), .box false (.val (.named 2) o3), .box false (.val (.named 2) o4), .arr .live .str y]))
noncomputable def g4_s1 : Ins E (CodeOut E) := ⟨[.v (.slice .str), .v (.slice .str), .own 5, .v (.int .i64)], [.box false (.v (.named 5)), .box false (.v (.named 5)), .box false (.v (.named 2)), .box false (.v (.named 2)), .box false (.v (.named 2)), .arr .live .str], fun l m i o0 o1 o2 o3 o4 y => .opt (N.law11_ImageBack_l1 N.fuel l m o0 o1 o2 o3 o4 y i) (x4_s1 l m o0 o1 o2 o3 o4 y)⟩
noncomputable def L4 : Nat → LoopInfo E := clL E 153 [{ ks := [7, 8, 11, 12, 13], mvs := [], pro := [], d := [], g := some (insF [g4_s0]) }, { ks := [7, 8, 12, 14], mvs := [], pro := [], d := [], g := some (insF [g4_s1]) }] []
theorem f4_s0 (l : List (List UInt8)) (m : List (List UInt8)) (d : List N.TPut) (o0 : N.Ttenancymade_Picks) (o1 : N.Ttenancymade_Picks) (o2 : N.TState) (o3 : N.TState) (o4 : N.TState) (i : Int) (y : List (List UInt8)) : ((stepOf E S4 L4 0 0 Try.f4 (h4_s0 l m d o0 o1 o2 o3 o4 i y) (t4_s0 l m d o0 o1 o2 o3 o4 i y)).bind (nx E [7, 8, 11, 12, 13] [] [4, 7, 8, 12] 6)).get = N.law11_ImageBack_s0k l m d o0 o1 o2 o3 o4 (fun v_ => some (.inl (h4_s0 l m d o0 o1 o2 o3 o4 v_.1 v_.2, t4_s0 l m d o0 o1 o2 o3 o4 v_.1 v_.2))) (fun x_ => some (.inr (.ret, ofSlots E 153 [] [4, 7, 8, 12] [.val .bool false, .val (.slice .str) l, .val (.slice .str) m, .own 5], [.box false (.val (.named 5) o0), .box false (.val (.named 5) o1), .box false (.val (.named 2) o2), .box false (.val (.named 2) o3), .box false (.val (.named 2) o4), .arr .live .str x_]))) (fun x_ => some (.inr (.exit 0, ofSlots E 153 [] [4, 7, 8, 12] [.undef, .val (.slice .str) l, .val (.slice .str) m, .own 5], [.box false (.val (.named 5) o0), .box false (.val (.named 5) o1), .box false (.val (.named 2) o2), .box false (.val (.named 2) o3), .box false (.val (.named 2) o4), .arr .live .str x_]))) i y := by kernel_rfl
theorem q4_s0 : InsLp 153 [7, 8, 11, 12, 13] [] [] (stepOf E S4 L4 0 0 Try.f4) g4_s0 := by
  intro l m d i o0 o1 o2 o3 o4 y out_ ho_
  obtain ⟨x_, h1_, h2_⟩ := Option.bind_eq_some_iff.1 ho_
  refine iter_loop (rs := [4, 7, 8, 12]) (step := N.law11_ImageBack_s0 l m d o0 o1 o2 o3 o4) (hd := fun v_ => h4_s0 l m d o0 o1 o2 o3 o4 v_.1 v_.2) (sv := fun v_ => t4_s0 l m d o0 o1 o2 o3 o4 v_.1 v_.2) (ex := x4_s0 l m d o0 o1 o2 o3 o4) (fun v_ => ?_) N.fuel (i, y) h1_ h2_
  refine (f4_s0 l m d o0 o1 o2 o3 o4 v_.1 v_.2).trans ((N.law11_ImageBack_s0_bind l m d o0 o1 o2 o3 o4 _ _ _ v_.1 v_.2).trans ?_)
  refine congrArg _ (funext fun s_ => ?_)
  rcases s_ with v_ | a | a <;> rfl
theorem f4_s1 (l : List (List UInt8)) (m : List (List UInt8)) (o0 : N.Ttenancymade_Picks) (o1 : N.Ttenancymade_Picks) (o2 : N.TState) (o3 : N.TState) (o4 : N.TState) (y : List (List UInt8)) (i : Int) : ((stepOf E S4 L4 0 1 Try.f4 (h4_s1 l m o0 o1 o2 o3 o4 y i) (t4_s1 l m o0 o1 o2 o3 o4 y i)).bind (nx E [7, 8, 12, 14] [] [4, 8, 12] 6)).get = N.law11_ImageBack_s1k l m o0 o1 o2 o3 o4 y (fun v_ => some (.inl (h4_s1 l m o0 o1 o2 o3 o4 y v_, t4_s1 l m o0 o1 o2 o3 o4 y v_))) (fun x_ => some (.inr (.ret, ofSlots E 153 [] [4, 8, 12] [.val .bool false, .val (.slice .str) m, .own 5], [.box false (.val (.named 5) o0), .box false (.val (.named 5) o1), .box false (.val (.named 2) o2), .box false (.val (.named 2) o3), .box false (.val (.named 2) o4), .arr .live .str y]))) (fun x_ => some (.inr (.exit 2, ofSlots E 153 [] [4, 8, 12] [.undef, .val (.slice .str) m, .own 5], [.box false (.val (.named 5) o0), .box false (.val (.named 5) o1), .box false (.val (.named 2) o2), .box false (.val (.named 2) o3), .box false (.val (.named 2) o4), .arr .live .str y]))) i := by kernel_rfl
theorem q4_s1 : InsLp 153 [7, 8, 12, 14] [] [] (stepOf E S4 L4 0 1 Try.f4) g4_s1 := by
  intro l m i o0 o1 o2 o3 o4 y out_ ho_
  obtain ⟨x_, h1_, h2_⟩ := Option.bind_eq_some_iff.1 ho_
  refine iter_loop (rs := [4, 8, 12]) (step := N.law11_ImageBack_s1 l m o0 o1 o2 o3 o4 y) (hd := fun v_ => h4_s1 l m o0 o1 o2 o3 o4 y v_) (sv := fun v_ => t4_s1 l m o0 o1 o2 o3 o4 y v_) (ex := x4_s1 l m o0 o1 o2 o3 o4 y) (fun v_ => ?_) N.fuel i h1_ h2_
  refine (f4_s1 l m o0 o1 o2 o3 o4 y v_).trans ((N.law11_ImageBack_s1_bind l m o0 o1 o2 o3 o4 y _ _ _ v_).trans ?_)
  refine congrArg _ (funext fun s_ => ?_)
  rcases s_ with v_ | a | a <;> rfl
noncomputable def B4 : List (DVal E.T) → St E.T → Tree (Res E.T × St E.T) := dbody E (lookS S4) (lookD []) L4 0 false Try.f4
theorem B4_ok : FnOk Try.prog E 4 B4 := bodyC_ok sound mix S4_ok (SD := []) trivial (L := L4) (N := 0) (keep := false) Try.func4 rfl (by
  intro k g hg fr st out ho
  match k, hg with
  | 0, hg => cases hg; exact lp_ok (allLp_cons q4_s0 (allLp_nil)) fr st out ho
  | 1, hg => cases hg; exact lp_ok (allLp_cons q4_s1 (allLp_nil)) fr st out ho
  | _ + 2, hg => cases hg)
theorem F4 (a : List UInt8) (b : List UInt8) : (B4 [.val (.slice (.int .u8)) a, .val (.slice (.int .u8)) b] []).get = N.law11_ImageBack_k N.fuel (fun x_ => some (.ret [.val .bool x_], [])) a b := by kernel_rfl
noncomputable def i4 : Ins E (Res E.T × St E.T) := ⟨[.v (.slice (.int .u8)), .v (.slice (.int .u8))], [], fun a b => .opt (N.law11_ImageBack N.fuel a b) fun x_ => .ret (.ret [.val .bool x_], [])⟩
theorem i4_ok : InsOk Try.prog 4 i4 := ⟨B4, B4_ok, by intro a b out_ h_; exact ((F4 a b).trans (N.law11_ImageBack_bind N.fuel _ a b)).trans h_⟩
noncomputable def P4 : Nat × D.Spec E := (4, .pure [(.slice (.int .u8)), (.slice (.int .u8))] (pureF [i4]))
theorem p4 : SpecOk Try.prog E P4.1 P4.2 := pureI_ok Try.call4 ⟨i4_ok, trivial⟩

/-! tenancy/tenancylaw11.ImageForms -/
noncomputable def S5 : List (Nat × D.Spec E) := [P10, P19, P20, P21, P7]
theorem S5_ok : AllS Try.prog E S5 := ⟨p10, p19, p20, p21, p7, trivial⟩
abbrev h5_s0 (l : List (List UInt8)) (i : Int) : Fr E.T := ofSlots E 95 [] [1, 2] [.val (.slice .str) l, .val (.int .i64) i]
abbrev t5_s0 (l : List (List UInt8)) (i : Int) : St E.T := []
def x5_s0 (l : List (List UInt8)) (x_ : Unit ⊕ Unit) : Tree (CodeOut E) := altT x_ (fun u0_ => .ret (.ret, ofSlots E 95 [] [0, 1] [.val .bool false, .val (.slice .str) l], [.arr .live (.int .u8) ([0, 0, 0, 0, 0, 0, 0, 0, 0, 0, 0, 0, 0, 0, 0, 0, 0, 0, 0, 0, 0, 0, 0, 0, 0, 0, 0, 0, 0, 0, 0, 0])])) (fun w0_ => .ret (.exit 0, ofSlots E 95 [] [0, 1] [.undef, .val (.slice .str) l], []))
noncomputable def g5_s0 : Ins E (CodeOut E) := ⟨[.v (.slice .str), .v (.int .i64)], [], fun l i => .opt (N.law11_ImageForms_l0 N.fuel l i) (x5_s0 l)⟩
noncomputable def L5 : Nat → LoopInfo E := clL E 95 [{ ks := [1, 2], mvs := [], pro := [], d := [], g := some (insF [g5_s0]) }] []
theorem f5_s0 (l : List (List UInt8)) (i : Int) : ((stepOf E S5 L5 0 0 Try.f5 (h5_s0 l i) (t5_s0 l i)).bind (nx E [1, 2] [] [0, 1] 0)).get = N.law11_ImageForms_s0k l (fun v_ => some (.inl (h5_s0 l v_, t5_s0 l v_))) (fun x_ => some (.inr (.ret, ofSlots E 95 [] [0, 1] [.val .bool false, .val (.slice .str) l], [.arr .live (.int .u8) ([0, 0, 0, 0, 0, 0, 0, 0, 0, 0, 0, 0, 0, 0, 0, 0, 0, 0, 0, 0, 0, 0, 0, 0, 0, 0, 0, 0, 0, 0, 0, 0])]))) (fun x_ => some (.inr (.exit 0, ofSlots E 95 [] [0, 1] [.undef, .val (.slice .str) l], []))) i := by kernel_rfl
theorem q5_s0 : InsLp 95 [1, 2] [] [] (stepOf E S5 L5 0 0 Try.f5) g5_s0 := by
  intro l i out_ ho_
  obtain ⟨x_, h1_, h2_⟩ := Option.bind_eq_some_iff.1 ho_
  refine iter_loop (rs := [0, 1]) (step := N.law11_ImageForms_s0 l) (hd := fun v_ => h5_s0 l v_) (sv := fun v_ => t5_s0 l v_) (ex := x5_s0 l) (fun v_ => ?_) N.fuel i h1_ h2_
  refine (f5_s0 l v_).trans ((N.law11_ImageForms_s0_bind l _ _ _ v_).trans ?_)
  refine congrArg _ (funext fun s_ => ?_)
  rcases s_ with v_ | a | a <;> rfl
noncomputable def B5 : List (DVal E.T) → St E.T → Tree (Res E.T × St E.T) := dbody E (lookS S5) (lookD []) L5 0 false Try.f5
theorem B5_ok : FnOk Try.prog E 5 B5 := bodyC_ok sound mix S5_ok (SD := []) trivial (L := L5) (N := 0) (keep := false) Try.func5 rfl (by
  intro k g hg fr st out ho
  match k, hg with
  | 0, hg => cases hg; exact lp_ok (allLp_cons q5_s0 (allLp_nil)) fr st out ho
  | _ + 1, hg => cases hg)
theorem F5 : (B5 [] []).get = N.law11_ImageForms_k N.fuel (fun x_ => some (.ret [.val .bool x_], [])) := by kernel_rfl
noncomputable def i5 : Ins E (Res E.T × St E.T) := ⟨[], [], .opt (N.law11_ImageForms N.fuel) fun x_ => .ret (.ret [.val .bool x_], [])⟩
theorem i5_ok : InsOk Try.prog 5 i5 := ⟨B5, B5_ok, by intro out_ h_; exact ((F5).trans (N.law11_ImageForms_bind N.fuel _)).trans h_⟩
noncomputable def P5 : Nat × D.Spec E := (5, .pure [] (pureF [i5]))
theorem p5 : SpecOk Try.prog E P5.1 P5.2 := pureI_ok Try.call5 ⟨i5_ok, trivial⟩

/-! tenancy/tenancylaw11.ImageFixed -/
noncomputable def S6 : List (Nat × D.Spec E) := [P10, P17, P19, P7, P8, P9]
theorem S6_ok : AllS Try.prog E S6 := ⟨p10, p17, p19, p7, p8, p9, trivial⟩
abbrev h6_s0 (l : List (List UInt8)) (o0 : N.Ttenancymade_Picks) (i : Int) : Fr E.T := ofSlots E 46 [] [3, 4] [.val (.slice .str) l, .val (.int .i64) i]
abbrev t6_s0 (l : List (List UInt8)) (o0 : N.Ttenancymade_Picks) (i : Int) : St E.T := [.box false (.val (.named 5) o0)]
def x6_s0 (l : List (List UInt8)) (o0 : N.Ttenancymade_Picks) (x_ : Unit ⊕ Unit) : Tree (CodeOut E) := altT x_ (fun u0_ => .ret (.ret, ofSlots E 46 [] [2, 3] [.val .bool false, .val (.slice .str) l], [.box false (.val (.named 5) o0)])) (fun w0_ => .ret (.exit 0, ofSlots E 46 [] [2, 3] [.undef, .val (.slice .str) l], [.box false (.val (.named 5) o0)]))
noncomputable def g6_s0 : Ins E (CodeOut E) := ⟨[.v (.slice .str), .v (.int .i64)], [.box false (.v (.named 5))], fun l i o0 => .opt (N.law11_ImageFixed_l0 N.fuel l o0 i) (x6_s0 l o0)⟩
noncomputable def L6 : Nat → LoopInfo E := clL E 46 [{ ks := [3, 4], mvs := [], pro := [], d := [], g := some (insF [g6_s0]) }] []
theorem f6_s0 (l : List (List UInt8)) (o0 : N.Ttenancymade_Picks) (i : Int) : ((stepOf E S6 L6 0 0 Try.f6 (h6_s0 l o0 i) (t6_s0 l o0 i)).bind (nx E [3, 4] [] [2, 3] 1)).get = N.law11_ImageFixed_s0k l o0 (fun v_ => some (.inl (h6_s0 l o0 v_, t6_s0 l o0 v_))) (fun x_ => some (.inr (.ret, ofSlots E 46 [] [2, 3] [.val .bool false, .val (.slice .str) l], [.box false (.val (.named 5) o0)]))) (fun x_ => some (.inr (.exit 0, ofSlots E 46 [] [2, 3] [.undef, .val (.slice .str) l], [.box false (.val (.named 5) o0)]))) i := by kernel_rfl
theorem q6_s0 : InsLp 46 [3, 4] [] [] (stepOf E S6 L6 0 0 Try.f6) g6_s0 := by
  intro l i o0 out_ ho_
  obtain ⟨x_, h1_, h2_⟩ := Option.bind_eq_some_iff.1 ho_
  refine iter_loop (rs := [2, 3]) (step := N.law11_ImageFixed_s0 l o0) (hd := fun v_ => h6_s0 l o0 v_) (sv := fun v_ => t6_s0 l o0 v_) (ex := x6_s0 l o0) (fun v_ => ?_) N.fuel i h1_ h2_
  refine (f6_s0 l o0 v_).trans ((N.law11_ImageFixed_s0_bind l o0 _ _ _ v_).trans ?_)
  refine congrArg _ (funext fun s_ => ?_)
  rcases s_ with v_ | a | a <;> rfl
noncomputable def B6 : List (DVal E.T) → St E.T → Tree (Res E.T × St E.T) := dbody E (lookS S6) (lookD []) L6 0 false Try.f6
theorem B6_ok : FnOk Try.prog E 6 B6 := bodyC_ok sound mix S6_ok (SD := []) trivial (L := L6) (N := 0) (keep := false) Try.func6 rfl (by
  intro k g hg fr st out ho
  match k, hg with
  | 0, hg => cases hg; exact lp_ok (allLp_cons q6_s0 (allLp_nil)) fr st out ho
  | _ + 1, hg => cases hg)
theorem F6 (picks : List UInt8) : (B6 [.val (.slice (.int .u8)) picks] []).get = N.law11_ImageFixed_k N.fuel (fun x_ => some (.ret [.val .bool x_], [])) picks := by kernel_rfl
noncomputable def i6 : Ins E (Res E.T × St E.T) := ⟨[.v (.slice (.int .u8))], [], fun picks => .opt (N.law11_ImageFixed N.fuel picks) fun x_ => .ret (.ret [.val .bool x_], [])⟩
theorem i6_ok : InsOk Try.prog 6 i6 := ⟨B6, B6_ok, by intro picks out_ h_; exact ((F6 picks).trans (N.law11_ImageFixed_bind N.fuel _ picks)).trans h_⟩
noncomputable def P6 : Nat × D.Spec E := (6, .pure [(.slice (.int .u8))] (pureF [i6]))
theorem p6 : SpecOk Try.prog E P6.1 P6.2 := pureI_ok Try.call6 ⟨i6_ok, trivial⟩

end Go.Proofs.Ythefogjlenmgfaa.I

set_option linter.unusedVariables false
set_option linter.unusedSimpArgs false
namespace Go.Proofs.Ythefogjlenmgfaa.N
open Go

theorem wi64_of {n : Int} (h1 : -9223372036854775808 ≤ n) (h2 : n ≤ 9223372036854775807) : wi64 n = n := by
  unfold wi64; rw [IntKind.wrap_i64]; omega

theorem some_bind {α β : Type} (a : α) (f : α → Option β) : (some a).bind f = f a := rfl

theorem i8_lo (x : UInt8) : 0 ≤ i8 x := Int.natCast_nonneg _
theorem i8_hi (x : UInt8) : i8 x < 256 := by have := x.toNat_lt; unfold i8; omega
theorem i8_inj {x y : UInt8} (h : i8 x = i8 y) : x = y := UInt8.toNat_inj.1 (by unfold i8 at h; omega)
theorem i8_b8 {n : Int} (h : 0 ≤ n) (h2 : n < 256) : i8 (b8 n) = n := by
  unfold i8 b8
  rw [UInt8.toNat_ofNat_of_lt' (by show n.toNat < 256; omega)]
  omega
theorem b8_i8 (x : UInt8) : b8 (i8 x) = x := by
  unfold b8 i8; simp

theorem inR_of {i : Int} {n : Nat} (h : 0 ≤ i) (h2 : i < n) : inR i n = true := by
  unfold inR; simp [h, h2]

theorem at_of {α : Type} {xs : List α} {i : Nat} {a : α} (h : xs[i]? = some a) : i < xs.length := (List.getElem?_eq_some_iff.1 h).1

/-! Loops over a list -/
/-- A walk along a list: go on, or leave. -/
def runL {A S X : Type} (g : A → S → Option (S ⊕ X)) (fin : S → X) : List A → S → Option X
  | [], s => some (fin s)
  | a :: r, s => (g a s).bind fun o => alt o (fun s' => runL g fin r s') (fun x => some x)

theorem iter_list {A S V X : Type} {step : V → Option (V ⊕ X)} {xs : List A} {mk : Nat → S → V} {g : A → S → Option (S ⊕ X)} {fin : S → X}
    (hc : ∀ i s a, xs[i]? = some a → step (mk i s) = (g a s).map (Sum.map (mk (i + 1)) id)) (he : ∀ s, step (mk xs.length s) = some (.inr (fin s))) :
    ∀ (r : List A) (i : Nat) (s : S) (n : Nat), xs.drop i = r → i ≤ xs.length → r.length < n → iter step n (mk i s) = runL g fin r s
  | _, _, _, 0, _, _, h => absurd h (Nat.not_lt_zero _)
  | [], i, s, n + 1, hd, hi, _ => by
    have : xs.length ≤ i := List.drop_eq_nil_iff.1 hd
    have : i = xs.length := Nat.le_antisymm hi this
    subst this
    rw [iter_succ, he]
    rfl
  | a :: r, i, s, n + 1, hd, hi, hn => by
    have hlt : i < xs.length := by
      rcases Nat.lt_or_ge i xs.length with h | h
      · exact h
      · rw [List.drop_eq_nil_iff.2 h] at hd; cases hd
    have ha : xs[i]? = some a := by
      have := List.getElem?_drop (xs := xs) (i := i) (j := 0)
      rw [hd] at this
      simpa using this.symm
    have hr : xs.drop (i + 1) = r := by
      have := List.drop_drop (l := xs) (i := 1) (j := i)
      rw [hd] at this
      simpa using this.symm
    rw [iter_succ, hc i s a ha, runL]
    cases hg : g a s with
    | none => rfl
    | some o =>
      simp only [Option.map_some, Option.bind_some]
      cases o with
      | inl s' => exact iter_list hc he r (i + 1) s' n hr hlt (by simp at hn; omega)
      | inr x => rfl

theorem iter_list0 {A S V X : Type} {step : V → Option (V ⊕ X)} {xs : List A} (mk : Nat → S → V) (g : A → S → Option (S ⊕ X)) (fin : S → X)
    (hc : ∀ i s a, xs[i]? = some a → step (mk i s) = (g a s).map (Sum.map (mk (i + 1)) id)) (he : ∀ s, step (mk xs.length s) = some (.inr (fin s))) (s : S) (hn : xs.length < fuel) :
    iter step fuel (mk 0 s) = runL g fin xs s := iter_list hc he xs 0 s fuel rfl (Nat.zero_le _) hn

theorem fuel_gt {n : Nat} (h : n < 4294967296) : n < fuel := by rw [fuel_eq]; exact h

/-- Counting down. -/
theorem iter_down {S V X : Type} {step : V → Option (V ⊕ X)} (mk : Nat → S → V) (g : S → Option (S ⊕ X)) (fin : S → X)
    (hc : ∀ i s, step (mk (i + 1) s) = (g s).map (Sum.map (mk i) id)) (he : ∀ s, step (mk 0 s) = some (.inr (fin s))) :
    ∀ (i : Nat) (s : S) (n : Nat), i < n → iter step n (mk i s) = runL (fun _ : Unit => g) fin (List.replicate i ()) s
  | _, _, 0, h => absurd h (Nat.not_lt_zero _)
  | 0, s, n + 1, _ => by rw [iter_succ, he]; rfl
  | i + 1, s, n + 1, h => by
    rw [iter_succ, hc, List.replicate_succ, runL]
    cases g s with
    | none => rfl
    | some o =>
      cases o with
      | inl s' => exact iter_down mk g fin hc he i s' n (by omega)
      | inr x => rfl

/-! All, any -/
theorem runL_all {A X : Type} (p : A → Bool) (x y : X) : ∀ l : List A, runL (S := Unit) (fun a _ => bif p a then some (.inl ()) else some (.inr x)) (fun _ => y) l () = some (bif l.all p then y else x)
  | [] => rfl
  | a :: r => by
    rw [runL, List.all_cons]
    cases p a with
    | true => exact runL_all p x y r
    | false => rfl

end Go.Proofs.Ythefogjlenmgfaa.N

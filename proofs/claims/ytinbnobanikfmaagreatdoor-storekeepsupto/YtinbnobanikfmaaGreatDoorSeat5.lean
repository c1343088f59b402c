/- The seat's functions, and the nice ones (2). -/
import Derived.Test.YtinbnobanikfmaaGreatDoorSeat4
set_option linter.unusedVariables false
set_option maxRecDepth 100000
namespace Go.Proofs.YtinbnobanikfmaaGreatDoor.S
open Go Go.Proofs.YtinbnobanikfmaaGreatDoor.D
noncomputable def S76 : List (Nat × D.Spec E) := [P74k]
theorem S76_ok : AllS Tryz.prog E S76 := ⟨p74k, trivial⟩
abbrev h76_s0 (t16 : List N.TPut) (t17 : Int) (t18 : Int) (b : List UInt8) : Fr E.T := ofSlots E 33 [] [3, 16, 17, 18] [.own 0, .val (.slice (.named 0)) t16, .val (.int .i64) t17, .val (.int .i64) t18]
abbrev t76_s0 (t16 : List N.TPut) (t17 : Int) (t18 : Int) (b : List UInt8) : St E.T := [.arr .live (.int .u8) b]
def x76_s0 (t16 : List N.TPut) (t17 : Int) (x_ : List UInt8) : Tree (CodeOut E) := .ret (.exit 0, ofSlots E 33 [] [2, 3] [.undef, .own 0], [.arr .live (.int .u8) x_])
noncomputable def g76_s0 : Ins E (CodeOut E) := ⟨[.own 0, .v (.slice (.named 0)), .v (.int .i64), .v (.int .i64)], [.arr .live (.int .u8)], fun t16 t17 t18 b => .opt (N.jrnl_head_l0 N.fuel t16 t17 t18 b) (x76_s0 t16 t17)⟩
noncomputable def L76 : Nat → LoopInfo E := clL E 33 [{ ks := [3, 16, 17, 18], mvs := [], pro := [], d := [], g := some (insF [g76_s0]) }] []
theorem f76_s0 (t16 : List N.TPut) (t17 : Int) (t18 : Int) (b : List UInt8) : ((stepOf E S76 L76 0 0 Tryz.f76 (h76_s0 t16 t17 t18 b) (t76_s0 t16 t17 t18 b)).bind (nx E [3, 16, 17, 18] [] [2, 3] 1)).get = N.jrnl_head_s0k t16 t17 (fun v_ => some (.inl (h76_s0 t16 t17 v_.1 v_.2, t76_s0 t16 t17 v_.1 v_.2))) (fun x_ => some (.inr (.exit 0, ofSlots E 33 [] [2, 3] [.undef, .own 0], [.arr .live (.int .u8) x_]))) t18 b := by kernel_rfl
theorem q76_s0 : InsLp 33 [3, 16, 17, 18] [] [] (stepOf E S76 L76 0 0 Tryz.f76) g76_s0 := by
  intro t16 t17 t18 b out_ ho_
  obtain ⟨x_, h1_, h2_⟩ := Option.bind_eq_some_iff.1 ho_
  refine iter_loop (rs := [2, 3]) (step := N.jrnl_head_s0 t16 t17) (hd := fun v_ => h76_s0 t16 t17 v_.1 v_.2) (sv := fun v_ => t76_s0 t16 t17 v_.1 v_.2) (ex := x76_s0 t16 t17) (fun v_ => ?_) N.fuel (t18, b) h1_ h2_
  refine (f76_s0 t16 t17 v_.1 v_.2).trans ((N.jrnl_head_s0_bind t16 t17 _ _ v_.1 v_.2).trans ?_)
  refine congrArg _ (funext fun s_ => ?_)
  rcases s_ with v_ | a <;> rfl
noncomputable def B76 : List (DVal E.T) → St E.T → Tree (Res E.T × St E.T) := dbody E (lookS S76) (lookD []) L76 0 false Tryz.f76
theorem B76_ok : FnOk Tryz.prog E 76 B76 := bodyC_ok sound mix S76_ok (SD := []) trivial (L := L76) (N := 0) (keep := false) Tryz.func76 rfl (by
  intro k g hg fr st out ho
  match k, hg with
  | 0, hg => cases hg; exact lp_ok (allLp_cons q76_s0 (allLp_nil)) fr st out ho
  | _ + 1, hg => cases hg)
theorem F76 (l : List N.TPut) : (B76 [.val (.slice (.named 0)) l] []).get = N.jrnl_head_k N.fuel (fun x_ => some (.ret [.val .str x_], [])) l := by kernel_rfl
noncomputable def i76 : Ins E (Res E.T × St E.T) := ⟨[.v (.slice (.named 0))], [], fun l => .opt (N.jrnl_head N.fuel l) fun x_ => .ret (.ret [.val .str x_], [])⟩
theorem i76_ok : InsOk Tryz.prog 76 i76 := ⟨B76, B76_ok, by intro l out_ h_; exact ((F76 l).trans (N.jrnl_head_bind N.fuel _ l)).trans h_⟩
noncomputable def P76 : Nat × D.Spec E := (76, .pure [(.slice (.named 0))] (pureF [i76]))
theorem p76 : SpecOk Tryz.prog E P76.1 P76.2 := pureI_ok Tryz.call76 ⟨i76_ok, trivial⟩
noncomputable def S72 : List (Nat × D.Spec E) := []
theorem S72_ok : AllS Tryz.prog E S72 := trivial
noncomputable def L72 : Nat → LoopInfo E := clL E 28 [] []
noncomputable def B72 : DSpec E := dbodyD E (lookS S72) L72 0 Tryz.f72
theorem p72 : DSpecOk Tryz.prog E 72 B72 := dfullD_ok sound mix S72_ok (L := L72) (fun _ => rfl) Tryz.call72 Tryz.func72 rfl
noncomputable def S35 : List (Nat × D.Spec E) := [P69, P70, P71, P73, P74, P75, P76]
theorem S35_ok : AllS Tryz.prog E S35 := ⟨p69, p70, p71, p73, p74, p75, p76, trivial⟩
noncomputable def D35 : List (Nat × DSpec E) := [(72, B72)]
theorem D35_ok : AllD Tryz.prog E D35 := ⟨p72, trivial⟩
abbrev h35_s0 (home : Int) (l : List N.TPut) (t54 : List N.TPut) (t55 : Int) (o0 : N.TDisk) (ok : Bool) (r4 : List (List UInt8)) (r5 : List N.TPut) (t56 : Int) (x : N.TDisk) (w : N.Tjrnl_writer) : Fr E.T := ofSlots E 98 [(72, [.ptr 3 [], .ptr 1 [], .ptr 2 []])] [1, 2, 6, 7, 8, 54, 55, 56] [.val (.int .i64) home, .val (.slice (.named 0)) l, .ptr 1 [], .ptr 2 [], .ptr 3 [], .val (.slice (.named 0)) t54, .val (.int .i64) t55, .val (.int .i64) t56]
abbrev t35_s0 (home : Int) (l : List N.TPut) (t54 : List N.TPut) (t55 : Int) (o0 : N.TDisk) (ok : Bool) (r4 : List (List UInt8)) (r5 : List N.TPut) (t56 : Int) (x : N.TDisk) (w : N.Tjrnl_writer) : St E.T := [.box false (.val (.named 1) o0), .box false (.agg 1 [.nils, .nils, .val (.int .i64) x.Arm, .val .bool x.Down]), .box false (.val .bool ok), .box false (.val (.named 10) w), .arr .froz .str r4, .arr .froz (.named 0) r5]
def x35_s0 (home : Int) (l : List N.TPut) (t54 : List N.TPut) (t55 : Int) (o0 : N.TDisk) (ok : Bool) (r4 : List (List UInt8)) (r5 : List N.TPut) (x_ : (N.TDisk × N.Tjrnl_writer × N.TPut) ⊕ (N.TDisk × N.Tjrnl_writer)) : Tree (CodeOut E) := altT x_ (fun u0_ => .ret (.panic (.ifc 161 (.val (.named 8) N.TNil0.mk)), ofSlots E 98 [(72, [.ptr 3 [], .ptr 1 [], .ptr 2 []])] [1, 2, 6, 7, 8] [.val (.int .i64) home, .val (.slice (.named 0)) l, .ptr 1 [], .ptr 2 [], .ptr 3 []], [.box false (.val (.named 1) o0), .box false (.agg 1 [.nils, .nils, .val (.int .i64) u0_.1.Arm, .val .bool u0_.1.Down]), .box false (.val .bool ok), .box false (.val (.named 10) u0_.2.1), .arr .froz .str r4, .arr .froz (.named 0) r5, .box false (.val (.named 0) u0_.2.2)])) (fun w0_ => .ret (.exit 0, ofSlots E 98 [(72, [.ptr 3 [], .ptr 1 [], .ptr 2 []])] [1, 2, 6, 7, 8] [.val (.int .i64) home, .val (.slice (.named 0)) l, .ptr 1 [], .ptr 2 [], .ptr 3 []], [.box false (.val (.named 1) o0), .box false (.agg 1 [.nils, .nils, .val (.int .i64) w0_.1.Arm, .val .bool w0_.1.Down]), .box false (.val .bool ok), .box false (.val (.named 10) w0_.2), .arr .froz .str r4, .arr .froz (.named 0) r5]))
noncomputable def g35_s0 : Ins E (CodeOut E) := ⟨[.v (.int .i64), .v (.slice (.named 0)), .ptr 1 [], .ptr 2 [], .ptr 3 [], .v (.slice (.named 0)), .v (.int .i64), .v (.int .i64)], [.box false (.v (.named 1)), .box false (.agg 1 [.nils, .nils, .v (.int .i64), .v .bool]), .box false (.v .bool), .box false (.v (.named 10)), .arr .froz .str, .arr .froz (.named 0)], fun home l t54 t55 t56 o0 x_Arm x_Down ok w r4 r5 => .opt (N.jrnl_Commit_l0 N.fuel home l t54 t55 o0 ok r4 r5 t56 (N.TDisk.mk [] [] x_Arm x_Down) w) (x35_s0 home l t54 t55 o0 ok r4 r5)⟩
abbrev h35_s1 (t79 : List N.TPut) (t80 : Int) (o0 : N.TDisk) (ok : Bool) (r4 : List (List UInt8)) (r5 : List N.TPut) (t81 : Int) (x : N.TDisk) (w : N.Tjrnl_writer) : Fr E.T := ofSlots E 98 [(72, [.ptr 3 [], .ptr 1 [], .ptr 2 []])] [6, 7, 8, 79, 80, 81] [.ptr 1 [], .ptr 2 [], .ptr 3 [], .val (.slice (.named 0)) t79, .val (.int .i64) t80, .val (.int .i64) t81]
abbrev t35_s1 (t79 : List N.TPut) (t80 : Int) (o0 : N.TDisk) (ok : Bool) (r4 : List (List UInt8)) (r5 : List N.TPut) (t81 : Int) (x : N.TDisk) (w : N.Tjrnl_writer) : St E.T := [.box false (.val (.named 1) o0), .box false (.agg 1 [.nils, .nils, .val (.int .i64) x.Arm, .val .bool x.Down]), .box false (.val .bool ok), .box false (.val (.named 10) w), .arr .froz .str r4, .arr .froz (.named 0) r5]
def x35_s1 (t79 : List N.TPut) (t80 : Int) (o0 : N.TDisk) (ok : Bool) (r4 : List (List UInt8)) (r5 : List N.TPut) (x_ : (N.TDisk × N.Tjrnl_writer × N.TPut) ⊕ (N.TDisk × N.Tjrnl_writer)) : Tree (CodeOut E) := altT x_ (fun u0_ => .ret (.panic (.ifc 161 (.val (.named 8) N.TNil0.mk)), ofSlots E 98 [(72, [.ptr 3 [], .ptr 1 [], .ptr 2 []])] [6, 7, 8] [.ptr 1 [], .ptr 2 [], .ptr 3 []], [.box false (.val (.named 1) o0), .box false (.agg 1 [.nils, .nils, .val (.int .i64) u0_.1.Arm, .val .bool u0_.1.Down]), .box false (.val .bool ok), .box false (.val (.named 10) u0_.2.1), .arr .froz .str r4, .arr .froz (.named 0) r5, .box false (.val (.named 0) u0_.2.2)])) (fun w0_ => .ret (.exit 2, ofSlots E 98 [(72, [.ptr 3 [], .ptr 1 [], .ptr 2 []])] [6, 7, 8] [.ptr 1 [], .ptr 2 [], .ptr 3 []], [.box false (.val (.named 1) o0), .box false (.agg 1 [.nils, .nils, .val (.int .i64) w0_.1.Arm, .val .bool w0_.1.Down]), .box false (.val .bool ok), .box false (.val (.named 10) w0_.2), .arr .froz .str r4, .arr .froz (.named 0) r5]))
noncomputable def g35_s1 : Ins E (CodeOut E) := ⟨[.ptr 1 [], .ptr 2 [], .ptr 3 [], .v (.slice (.named 0)), .v (.int .i64), .v (.int .i64)], [.box false (.v (.named 1)), .box false (.agg 1 [.nils, .nils, .v (.int .i64), .v .bool]), .box false (.v .bool), .box false (.v (.named 10)), .arr .froz .str, .arr .froz (.named 0)], fun t79 t80 t81 o0 x_Arm x_Down ok w r4 r5 => .opt (N.jrnl_Commit_l1 N.fuel t79 t80 o0 ok r4 r5 t81 (N.TDisk.mk [] [] x_Arm x_Down) w) (x35_s1 t79 t80 o0 ok r4 r5)⟩
noncomputable def L35 : Nat → LoopInfo E := clL E 98 [{ ks := [1, 2, 6, 7, 8, 54, 55, 56], mvs := [], pro := [], d := [(72, [.ptr 3 [], .ptr 1 [], .ptr 2 []])], g := some (insF [g35_s0]) }, { ks := [6, 7, 8, 79, 80, 81], mvs := [], pro := [], d := [(72, [.ptr 3 [], .ptr 1 [], .ptr 2 []])], g := some (insF [g35_s1]) }] []
theorem f35_s0 (home : Int) (l : List N.TPut) (t54 : List N.TPut) (t55 : Int) (o0 : N.TDisk) (ok : Bool) (r4 : List (List UInt8)) (r5 : List N.TPut) (t56 : Int) (x : N.TDisk) (w : N.Tjrnl_writer) : ((stepOf E S35 L35 0 0 Tryz.f35 (h35_s0 home l t54 t55 o0 ok r4 r5 t56 x w) (t35_s0 home l t54 t55 o0 ok r4 r5 t56 x w)).bind (nx E [1, 2, 6, 7, 8, 54, 55, 56] [] [1, 2, 6, 7, 8] 6)).get = N.jrnl_Commit_s0k home l t54 t55 o0 ok r4 r5 (fun v_ => some (.inl (h35_s0 home l t54 t55 o0 ok r4 r5 v_.1 v_.2.1 v_.2.2, t35_s0 home l t54 t55 o0 ok r4 r5 v_.1 v_.2.1 v_.2.2))) (fun x_ => some (.inr (.panic (.ifc 161 (.val (.named 8) N.TNil0.mk)), ofSlots E 98 [(72, [.ptr 3 [], .ptr 1 [], .ptr 2 []])] [1, 2, 6, 7, 8] [.val (.int .i64) home, .val (.slice (.named 0)) l, .ptr 1 [], .ptr 2 [], .ptr 3 []], [.box false (.val (.named 1) o0), .box false (.agg 1 [.nils, .nils, .val (.int .i64) x_.1.Arm, .val .bool x_.1.Down]), .box false (.val .bool ok), .box false (.val (.named 10) x_.2.1), .arr .froz .str r4, .arr .froz (.named 0) r5, .box false (.val (.named 0) x_.2.2)]))) (fun x_ => some (.inr (.exit 0, ofSlots E 98 [(72, [.ptr 3 [], .ptr 1 [], .ptr 2 []])] [1, 2, 6, 7, 8] [.val (.int .i64) home, .val (.slice (.named 0)) l, .ptr 1 [], .ptr 2 [], .ptr 3 []], [.box false (.val (.named 1) o0), .box false (.agg 1 [.nils, .nils, .val (.int .i64) x_.1.Arm, .val .bool x_.1.Down]), .box false (.val .bool ok), .box false (.val (.named 10) x_.2), .arr .froz .str r4, .arr .froz (.named 0) r5]))) t56 x w := by kernel_rfl
theorem q35_s0 : InsLp 98 [1, 2, 6, 7, 8, 54, 55, 56] [] [(72, [.ptr 3 [], .ptr 1 [], .ptr 2 []])] (stepOf E S35 L35 0 0 Tryz.f35) g35_s0 := by
  intro home l t54 t55 t56 o0 x_Arm x_Down ok w r4 r5 out_ ho_
  obtain ⟨x_, h1_, h2_⟩ := Option.bind_eq_some_iff.1 ho_
  refine iter_loop (rs := [1, 2, 6, 7, 8]) (step := N.jrnl_Commit_s0 home l t54 t55 o0 ok r4 r5) (hd := fun v_ => h35_s0 home l t54 t55 o0 ok r4 r5 v_.1 v_.2.1 v_.2.2) (sv := fun v_ => t35_s0 home l t54 t55 o0 ok r4 r5 v_.1 v_.2.1 v_.2.2) (ex := x35_s0 home l t54 t55 o0 ok r4 r5) (fun v_ => ?_) N.fuel (t56, (N.TDisk.mk [] [] x_Arm x_Down), w) h1_ h2_
  refine (f35_s0 home l t54 t55 o0 ok r4 r5 v_.1 v_.2.1 v_.2.2).trans ((N.jrnl_Commit_s0_bind home l t54 t55 o0 ok r4 r5 _ _ _ v_.1 v_.2.1 v_.2.2).trans ?_)
  refine congrArg _ (funext fun s_ => ?_)
  rcases s_ with v_ | a | a <;> rfl
theorem f35_s1 (t79 : List N.TPut) (t80 : Int) (o0 : N.TDisk) (ok : Bool) (r4 : List (List UInt8)) (r5 : List N.TPut) (t81 : Int) (x : N.TDisk) (w : N.Tjrnl_writer) : ((stepOf E S35 L35 0 1 Tryz.f35 (h35_s1 t79 t80 o0 ok r4 r5 t81 x w) (t35_s1 t79 t80 o0 ok r4 r5 t81 x w)).bind (nx E [6, 7, 8, 79, 80, 81] [] [6, 7, 8] 6)).get = N.jrnl_Commit_s1k t79 t80 o0 ok r4 r5 (fun v_ => some (.inl (h35_s1 t79 t80 o0 ok r4 r5 v_.1 v_.2.1 v_.2.2, t35_s1 t79 t80 o0 ok r4 r5 v_.1 v_.2.1 v_.2.2))) (fun x_ => some (.inr (.panic (.ifc 161 (.val (.named 8) N.TNil0.mk)), ofSlots E 98 [(72, [.ptr 3 [], .ptr 1 [], .ptr 2 []])] [6, 7, 8] [.ptr 1 [], .ptr 2 [], .ptr 3 []], [.box false (.val (.named 1) o0), .box false (.agg 1 [.nils, .nils, .val (.int .i64) x_.1.Arm, .val .bool x_.1.Down]), .box false (.val .bool ok), .box false (.val (.named 10) x_.2.1), .arr .froz .str r4, .arr .froz (.named 0) r5, .box false (.val (.named 0) x_.2.2)]))) (fun x_ => some (.inr (.exit 2, ofSlots E 98 [(72, [.ptr 3 [], .ptr 1 [], .ptr 2 []])] [6, 7, 8] [.ptr 1 [], .ptr 2 [], .ptr 3 []], [.box false (.val (.named 1) o0), .box false (.agg 1 [.nils, .nils, .val (.int .i64) x_.1.Arm, .val .bool x_.1.Down]), .box false (.val .bool ok), .box false (.val (.named 10) x_.2), .arr .froz .str r4, .arr .froz (.named 0) r5]))) t81 x w := by kernel_rfl
theorem q35_s1 : InsLp 98 [6, 7, 8, 79, 80, 81] [] [(72, [.ptr 3 [], .ptr 1 [], .ptr 2 []])] (stepOf E S35 L35 0 1 Tryz.f35) g35_s1 := by
  intro t79 t80 t81 o0 x_Arm x_Down ok w r4 r5 out_ ho_
  obtain ⟨x_, h1_, h2_⟩ := Option.bind_eq_some_iff.1 ho_
  refine iter_loop (rs := [6, 7, 8]) (step := N.jrnl_Commit_s1 t79 t80 o0 ok r4 r5) (hd := fun v_ => h35_s1 t79 t80 o0 ok r4 r5 v_.1 v_.2.1 v_.2.2) (sv := fun v_ => t35_s1 t79 t80 o0 ok r4 r5 v_.1 v_.2.1 v_.2.2) (ex := x35_s1 t79 t80 o0 ok r4 r5) (fun v_ => ?_) N.fuel (t81, (N.TDisk.mk [] [] x_Arm x_Down), w) h1_ h2_
  refine (f35_s1 t79 t80 o0 ok r4 r5 v_.1 v_.2.1 v_.2.2).trans ((N.jrnl_Commit_s1_bind t79 t80 o0 ok r4 r5 _ _ _ v_.1 v_.2.1 v_.2.2).trans ?_)
  refine congrArg _ (funext fun s_ => ?_)
  rcases s_ with v_ | a | a <;> rfl
noncomputable def B35 : List (DVal E.T) → St E.T → Tree (Res E.T × St E.T) := dbody E (lookS S35) (lookD D35) L35 0 false Tryz.f35
theorem B35_ok : FnOk Tryz.prog E 35 B35 := bodyC_ok sound mix S35_ok (SD := D35) D35_ok (L := L35) (N := 0) (keep := false) Tryz.func35 rfl (by
  intro k g hg fr st out ho
  match k, hg with
  | 0, hg => cases hg; exact lp_ok (allLp_cons q35_s0 (allLp_nil)) fr st out ho
  | 1, hg => cases hg; exact lp_ok (allLp_cons q35_s1 (allLp_nil)) fr st out ho
  | _ + 2, hg => cases hg)
theorem F35 (d : N.TDisk) (home : Int) (l : List N.TPut) : (B35 [.val (.named 1) d, .val (.int .i64) home, .val (.slice (.named 0)) l] []).get = N.jrnl_Commit_k N.fuel (fun x_ => some (.ret [.val (.named 1) x_.1, .val .bool x_.2], [])) d home l := by kernel_rfl
noncomputable def i35 : Ins E (Res E.T × St E.T) := ⟨[.v (.named 1), .v (.int .i64), .v (.slice (.named 0))], [], fun d home l => .opt (N.jrnl_Commit N.fuel d home l) fun x_ => .ret (.ret [.val (.named 1) x_.1, .val .bool x_.2], [])⟩
theorem i35_ok : InsOk Tryz.prog 35 i35 := ⟨B35, B35_ok, by intro d home l out_ h_; exact ((F35 d home l).trans (N.jrnl_Commit_bind N.fuel _ d home l)).trans h_⟩
noncomputable def P35 : Nat × D.Spec E := (35, .pure [(.named 1), (.int .i64), (.slice (.named 0))] (pureF [i35]))
theorem p35 : SpecOk Tryz.prog E P35.1 P35.2 := pureI_ok Tryz.call35 ⟨i35_ok, trivial⟩
noncomputable def S37 : List (Nat × D.Spec E) := []
theorem S37_ok : AllS Tryz.prog E S37 := trivial
abbrev h37_s0 (a : List (List UInt8)) (t7 : List (List UInt8)) (t8 : Int) (t9 : Int) (l : List N.TPut) : Fr E.T := ofSlots E 34 [] [0, 4, 7, 8, 9] [.val (.slice .str) a, .own 0, .val (.slice .str) t7, .val (.int .i64) t8, .val (.int .i64) t9]
abbrev t37_s0 (a : List (List UInt8)) (t7 : List (List UInt8)) (t8 : Int) (t9 : Int) (l : List N.TPut) : St E.T := [.arr .live (.named 0) l]
def x37_s0 (a : List (List UInt8)) (t7 : List (List UInt8)) (t8 : Int) (x_ : List N.TPut) : Tree (CodeOut E) := .ret (.exit 0, ofSlots E 34 [] [4] [.own 0], [.arr .live (.named 0) x_])
noncomputable def g37_s0 : Ins E (CodeOut E) := ⟨[.v (.slice .str), .own 0, .v (.slice .str), .v (.int .i64), .v (.int .i64)], [.arr .live (.named 0)], fun a t7 t8 t9 l => .opt (N.image_Diff_l0 N.fuel a t7 t8 t9 l) (x37_s0 a t7 t8)⟩
noncomputable def L37 : Nat → LoopInfo E := clL E 34 [{ ks := [0, 4, 7, 8, 9], mvs := [], pro := [.pro (.slot 4) [] (.named 0)], d := [], g := some (insF [g37_s0]) }] []
theorem f37_s0 (a : List (List UInt8)) (t7 : List (List UInt8)) (t8 : Int) (t9 : Int) (l : List N.TPut) : ((stepOf E S37 L37 0 0 Tryz.f37 (h37_s0 a t7 t8 t9 l) (t37_s0 a t7 t8 t9 l)).bind (nx E [0, 4, 7, 8, 9] [] [4] 1)).get = N.image_Diff_s0k a t7 t8 (fun v_ => some (.inl (h37_s0 a t7 t8 v_.1 v_.2, t37_s0 a t7 t8 v_.1 v_.2))) (fun x_ => some (.inr (.exit 0, ofSlots E 34 [] [4] [.own 0], [.arr .live (.named 0) x_]))) t9 l := by kernel_rfl
theorem q37_s0 : InsLp 34 [0, 4, 7, 8, 9] [] [] (stepOf E S37 L37 0 0 Tryz.f37) g37_s0 := by
  intro a t7 t8 t9 l out_ ho_
  obtain ⟨x_, h1_, h2_⟩ := Option.bind_eq_some_iff.1 ho_
  refine iter_loop (rs := [4]) (step := N.image_Diff_s0 a t7 t8) (hd := fun v_ => h37_s0 a t7 t8 v_.1 v_.2) (sv := fun v_ => t37_s0 a t7 t8 v_.1 v_.2) (ex := x37_s0 a t7 t8) (fun v_ => ?_) N.fuel (t9, l) h1_ h2_
  refine (f37_s0 a t7 t8 v_.1 v_.2).trans ((N.image_Diff_s0_bind a t7 t8 _ _ v_.1 v_.2).trans ?_)
  refine congrArg _ (funext fun s_ => ?_)
  rcases s_ with v_ | a <;> rfl
noncomputable def B37 : List (DVal E.T) → St E.T → Tree (Res E.T × St E.T) := dbody E (lookS S37) (lookD []) L37 0 false Tryz.f37
theorem B37_ok : FnOk Tryz.prog E 37 B37 := bodyC_ok sound mix S37_ok (SD := []) trivial (L := L37) (N := 0) (keep := false) Tryz.func37 rfl (by
  intro k g hg fr st out ho
  match k, hg with
  | 0, hg => cases hg; exact lp_ok (allLp_cons q37_s0 (allLp_nil)) fr st out ho
  | _ + 1, hg => cases hg)
theorem F37 (a : List (List UInt8)) (b : List (List UInt8)) : (B37 [.val (.slice .str) a, .val (.slice .str) b] []).get = N.image_Diff_k N.fuel (fun x_ => some (.ret [.val (.slice (.named 0)) x_], [])) a b := by kernel_rfl
noncomputable def i37 : Ins E (Res E.T × St E.T) := ⟨[.v (.slice .str), .v (.slice .str)], [], fun a b => .opt (N.image_Diff N.fuel a b) fun x_ => .ret (.ret [.val (.slice (.named 0)) x_], [])⟩
theorem i37_ok : InsOk Tryz.prog 37 i37 := ⟨B37, B37_ok, by intro a b out_ h_; exact ((F37 a b).trans (N.image_Diff_bind N.fuel _ a b)).trans h_⟩
noncomputable def P37 : Nat × D.Spec E := (37, .pure [(.slice .str), (.slice .str)] (pureF [i37]))
theorem p37 : SpecOk Tryz.prog E P37.1 P37.2 := pureI_ok Tryz.call37 ⟨i37_ok, trivial⟩
noncomputable def S11 : List (Nat × D.Spec E) := [P23, P34, P35, P36, P37]
theorem S11_ok : AllS Tryz.prog E S11 := ⟨p23, p34, p35, p36, p37, trivial⟩
noncomputable def L11 : Nat → LoopInfo E := clL E 46 [] []
noncomputable def B11 : List (DVal E.T) → St E.T → Tree (Res E.T × St E.T) := dbody E (lookS S11) (lookD []) L11 0 false Tryz.f11
theorem B11_ok : FnOk Tryz.prog E 11 B11 := bodyC_ok sound mix S11_ok (SD := []) trivial (L := L11) (N := 0) (keep := false) Tryz.func11 rfl (by
  intro k g hg fr st out ho
  match k, hg with
  | _, hg => cases hg)
theorem F11 (st : N.TStore) (s : N.TState) : (B11 [.val (.named 5) st, .val (.named 4) s] []).get = N.store_Commit_k N.fuel (fun x_ => some (.ret [.val (.named 5) x_.1, .val .bool x_.2], [])) st s := by kernel_rfl
noncomputable def i11 : Ins E (Res E.T × St E.T) := ⟨[.v (.named 5), .v (.named 4)], [], fun st s => .opt (N.store_Commit N.fuel st s) fun x_ => .ret (.ret [.val (.named 5) x_.1, .val .bool x_.2], [])⟩
theorem i11_ok : InsOk Tryz.prog 11 i11 := ⟨B11, B11_ok, by intro st s out_ h_; exact ((F11 st s).trans (N.store_Commit_bind N.fuel _ st s)).trans h_⟩
noncomputable def P11 : Nat × D.Spec E := (11, .pure [(.named 5), (.named 4)] (pureF [i11]))
theorem p11 : SpecOk Tryz.prog E P11.1 P11.2 := pureI_ok Tryz.call11 ⟨i11_ok, trivial⟩
noncomputable def S77 : List (Nat × D.Spec E) := [P104, P83]
theorem S77_ok : AllS Tryz.prog E S77 := ⟨p104, p83, trivial⟩
noncomputable def L77 : Nat → LoopInfo E := clL E 24 [] []
noncomputable def B77 : List (DVal E.T) → St E.T → Tree (Res E.T × St E.T) := tidyF (dbody E (lookS S77) (lookD []) L77 0 false Tryz.f77)
theorem B77_ok : FnOk Tryz.prog E 77 B77 := tidy_fn ok (bodyC_ok sound mix S77_ok (SD := []) trivial (L := L77) (N := 0) (keep := false) Tryz.func77 rfl (by
  intro k g hg fr st out ho
  match k, hg with
  | _, hg => cases hg))
theorem F77 (i : Int) (w_d_Arm : Int) (w_d_Down : Bool) (a1_ : List (List UInt8)) (a2_ : List N.TPut) : (B77 [.ptr 0 [], .val (.int .i64) i] [.box false (.agg 10 [.agg 1 [.own 1, .own 2, .val (.int .i64) w_d_Arm, .val .bool w_d_Down]]), .arr .live .str a1_, .arr .live (.named 0) a2_]).get = N.jrnl_writer_read_k (fun x_ => some (.ret [.val .str x_.1], [.box false (.val (.named 10) x_.2.1), .arr .froz .str x_.2.2.1, .arr .froz (.named 0) x_.2.2.2])) (fun x_ => some (.panic (.ifc 161 (.val (.named 8) N.TNil0.mk)), [.box false (.val (.named 10) x_.1), .arr .froz .str x_.2.1, .arr .froz (.named 0) x_.2.2])) i (N.Tjrnl_writer.mk (N.TDisk.mk a1_ a2_ w_d_Arm w_d_Down)) := by kernel_rfl
noncomputable def i77 : Ins E (Res E.T × St E.T) := ⟨[.ptr 0 [], .v (.int .i64)], [.box false (.agg 10 [.agg 1 [.own 1, .own 2, .v (.int .i64), .v .bool]]), .arr .live .str, .arr .live (.named 0)], fun i w_d_Arm w_d_Down a1_ a2_ => .opt (N.jrnl_writer_read i (N.Tjrnl_writer.mk (N.TDisk.mk a1_ a2_ w_d_Arm w_d_Down))) fun x_ => altT x_ (fun u0_ => .ret (.ret [.val .str u0_.1], [.box false (.val (.named 10) u0_.2.1), .arr .froz .str u0_.2.2.1, .arr .froz (.named 0) u0_.2.2.2])) (fun w0_ => .ret (.panic (.ifc 161 (.val (.named 8) N.TNil0.mk)), [.box false (.val (.named 10) w0_.1), .arr .froz .str w0_.2.1, .arr .froz (.named 0) w0_.2.2]))⟩
theorem i77_ok : InsOk Tryz.prog 77 i77 := ⟨B77, B77_ok, by intro i w_d_Arm w_d_Down a1_ a2_ out_ h_; exact ((F77 i w_d_Arm w_d_Down a1_ a2_).trans (N.jrnl_writer_read_bind _ _ i (N.Tjrnl_writer.mk (N.TDisk.mk a1_ a2_ w_d_Arm w_d_Down)))).trans h_⟩
noncomputable def S77a : List (Nat × D.Spec E) := [P104, P83]
theorem S77a_ok : AllS Tryz.prog E S77a := ⟨p104, p83, trivial⟩
noncomputable def L77a : Nat → LoopInfo E := clL E 24 [] []
noncomputable def B77a : List (DVal E.T) → St E.T → Tree (Res E.T × St E.T) := tidyF (dbody E (lookS S77a) (lookD []) L77a 0 false Tryz.f77)
theorem B77a_ok : FnOk Tryz.prog E 77 B77a := tidy_fn ok (bodyC_ok sound mix S77a_ok (SD := []) trivial (L := L77a) (N := 0) (keep := false) Tryz.func77 rfl (by
  intro k g hg fr st out ho
  match k, hg with
  | _, hg => cases hg))
theorem F77a (i : Int) (w : N.Tjrnl_writer) : (B77a [.ptr 0 [], .val (.int .i64) i] [.box false (.val (.named 10) w)]).get = N.jrnl_writer_read_2_k (fun x_ => some (.ret [.val .str x_.1], [.box false (.val (.named 10) x_.2)])) (fun x_ => some (.panic (.ifc 161 (.val (.named 8) N.TNil0.mk)), [.box false (.val (.named 10) x_)])) i w := by kernel_rfl
noncomputable def i77a : Ins E (Res E.T × St E.T) := ⟨[.ptr 0 [], .v (.int .i64)], [.box false (.v (.named 10))], fun i w => .opt (N.jrnl_writer_read_2 i w) fun x_ => altT x_ (fun u0_ => .ret (.ret [.val .str u0_.1], [.box false (.val (.named 10) u0_.2)])) (fun w0_ => .ret (.panic (.ifc 161 (.val (.named 8) N.TNil0.mk)), [.box false (.val (.named 10) w0_)]))⟩
theorem i77a_ok : InsOk Tryz.prog 77 i77a := ⟨B77a, B77a_ok, by intro i w out_ h_; exact ((F77a i w).trans (N.jrnl_writer_read_2_bind _ _ i w)).trans h_⟩
noncomputable def P77 : Nat × D.Spec E := (77, .full [.ptr, .data (.int .i64)] false (fullF [i77, i77a]))
theorem p77 : SpecOk Tryz.prog E P77.1 P77.2 := fullI_ok ok Tryz.call77 ⟨i77_ok, i77a_ok, trivial⟩
noncomputable def S118 : List (Nat × D.Spec E) := []
theorem S118_ok : AllS Tryz.prog E S118 := trivial
abbrev h118_s0 (c : UInt8) (s : List UInt8) : Fr E.T := ofSlots E 23 [] [0, 1] [.val .str s, .val (.int .u8) c]
abbrev t118_s0 (c : UInt8) (s : List UInt8) : St E.T := []
def x118_s0 (c : UInt8) (x_ : List UInt8) : Tree (CodeOut E) := .ret (.exit 0, ofSlots E 23 [] [0, 4] [.val .str x_, .undef], [])
noncomputable def g118_s0 : Ins E (CodeOut E) := ⟨[.v .str, .v (.int .u8)], [], fun s c => .opt (N.strings_trimRightByte_l0 N.fuel c s) (x118_s0 c)⟩
noncomputable def L118 : Nat → LoopInfo E := clL E 23 [{ ks := [0, 1], mvs := [], pro := [], d := [], g := some (insF [g118_s0]) }] []
theorem f118_s0 (c : UInt8) (s : List UInt8) : ((stepOf E S118 L118 0 0 Tryz.f118 (h118_s0 c s) (t118_s0 c s)).bind (nx E [0, 1] [] [0, 4] 0)).get = N.strings_trimRightByte_s0k c (fun v_ => some (.inl (h118_s0 c v_, t118_s0 c v_))) (fun x_ => some (.inr (.exit 0, ofSlots E 23 [] [0, 4] [.val .str x_, .undef], []))) s := by kernel_rfl
theorem q118_s0 : InsLp 23 [0, 1] [] [] (stepOf E S118 L118 0 0 Tryz.f118) g118_s0 := by
  intro s c out_ ho_
  obtain ⟨x_, h1_, h2_⟩ := Option.bind_eq_some_iff.1 ho_
  refine iter_loop (rs := [0, 4]) (step := N.strings_trimRightByte_s0 c) (hd := fun v_ => h118_s0 c v_) (sv := fun v_ => t118_s0 c v_) (ex := x118_s0 c) (fun v_ => ?_) N.fuel s h1_ h2_
  refine (f118_s0 c v_).trans ((N.strings_trimRightByte_s0_bind c _ _ v_).trans ?_)
  refine congrArg _ (funext fun s_ => ?_)
  rcases s_ with v_ | a <;> rfl
noncomputable def B118 : List (DVal E.T) → St E.T → Tree (Res E.T × St E.T) := dbody E (lookS S118) (lookD []) L118 0 false Tryz.f118
theorem B118_ok : FnOk Tryz.prog E 118 B118 := bodyC_ok sound mix S118_ok (SD := []) trivial (L := L118) (N := 0) (keep := false) Tryz.func118 rfl (by
  intro k g hg fr st out ho
  match k, hg with
  | 0, hg => cases hg; exact lp_ok (allLp_cons q118_s0 (allLp_nil)) fr st out ho
  | _ + 1, hg => cases hg)
theorem F118 (s : List UInt8) (c : UInt8) : (B118 [.val .str s, .val (.int .u8) c] []).get = N.strings_trimRightByte_k N.fuel (fun x_ => some (.ret [.val .str x_], [])) s c := by kernel_rfl
noncomputable def i118 : Ins E (Res E.T × St E.T) := ⟨[.v .str, .v (.int .u8)], [], fun s c => .opt (N.strings_trimRightByte N.fuel s c) fun x_ => .ret (.ret [.val .str x_], [])⟩
theorem i118_ok : InsOk Tryz.prog 118 i118 := ⟨B118, B118_ok, by intro s c out_ h_; exact ((F118 s c).trans (N.strings_trimRightByte_bind N.fuel _ s c)).trans h_⟩
noncomputable def P118 : Nat × D.Spec E := (118, .pure [.str, (.int .u8)] (pureF [i118]))
theorem p118 : SpecOk Tryz.prog E P118.1 P118.2 := pureI_ok Tryz.call118 ⟨i118_ok, trivial⟩
noncomputable def S117 : List (Nat × D.Spec E) := []
theorem S117_ok : AllS Tryz.prog E S117 := trivial
abbrev h117_s0 (c : UInt8) (s : List UInt8) : Fr E.T := ofSlots E 17 [] [0, 1] [.val .str s, .val (.int .u8) c]
abbrev t117_s0 (c : UInt8) (s : List UInt8) : St E.T := []
def x117_s0 (c : UInt8) (x_ : List UInt8) : Tree (CodeOut E) := .ret (.exit 0, ofSlots E 17 [] [0, 4] [.val .str x_, .undef], [])
noncomputable def g117_s0 : Ins E (CodeOut E) := ⟨[.v .str, .v (.int .u8)], [], fun s c => .opt (N.strings_trimLeftByte_l0 N.fuel c s) (x117_s0 c)⟩
noncomputable def L117 : Nat → LoopInfo E := clL E 17 [{ ks := [0, 1], mvs := [], pro := [], d := [], g := some (insF [g117_s0]) }] []
theorem f117_s0 (c : UInt8) (s : List UInt8) : ((stepOf E S117 L117 0 0 Tryz.f117 (h117_s0 c s) (t117_s0 c s)).bind (nx E [0, 1] [] [0, 4] 0)).get = N.strings_trimLeftByte_s0k c (fun v_ => some (.inl (h117_s0 c v_, t117_s0 c v_))) (fun x_ => some (.inr (.exit 0, ofSlots E 17 [] [0, 4] [.val .str x_, .undef], []))) s := by kernel_rfl
theorem q117_s0 : InsLp 17 [0, 1] [] [] (stepOf E S117 L117 0 0 Tryz.f117) g117_s0 := by
  intro s c out_ ho_
  obtain ⟨x_, h1_, h2_⟩ := Option.bind_eq_some_iff.1 ho_
  refine iter_loop (rs := [0, 4]) (step := N.strings_trimLeftByte_s0 c) (hd := fun v_ => h117_s0 c v_) (sv := fun v_ => t117_s0 c v_) (ex := x117_s0 c) (fun v_ => ?_) N.fuel s h1_ h2_
  refine (f117_s0 c v_).trans ((N.strings_trimLeftByte_s0_bind c _ _ v_).trans ?_)
  refine congrArg _ (funext fun s_ => ?_)
  rcases s_ with v_ | a <;> rfl
noncomputable def B117 : List (DVal E.T) → St E.T → Tree (Res E.T × St E.T) := dbody E (lookS S117) (lookD []) L117 0 false Tryz.f117
theorem B117_ok : FnOk Tryz.prog E 117 B117 := bodyC_ok sound mix S117_ok (SD := []) trivial (L := L117) (N := 0) (keep := false) Tryz.func117 rfl (by
  intro k g hg fr st out ho
  match k, hg with
  | 0, hg => cases hg; exact lp_ok (allLp_cons q117_s0 (allLp_nil)) fr st out ho
  | _ + 1, hg => cases hg)
theorem F117 (s : List UInt8) (c : UInt8) : (B117 [.val .str s, .val (.int .u8) c] []).get = N.strings_trimLeftByte_k N.fuel (fun x_ => some (.ret [.val .str x_], [])) s c := by kernel_rfl
noncomputable def i117 : Ins E (Res E.T × St E.T) := ⟨[.v .str, .v (.int .u8)], [], fun s c => .opt (N.strings_trimLeftByte N.fuel s c) fun x_ => .ret (.ret [.val .str x_], [])⟩
theorem i117_ok : InsOk Tryz.prog 117 i117 := ⟨B117, B117_ok, by intro s c out_ h_; exact ((F117 s c).trans (N.strings_trimLeftByte_bind N.fuel _ s c)).trans h_⟩
noncomputable def P117 : Nat × D.Spec E := (117, .pure [.str, (.int .u8)] (pureF [i117]))
theorem p117 : SpecOk Tryz.prog E P117.1 P117.2 := pureI_ok Tryz.call117 ⟨i117_ok, trivial⟩
noncomputable def S105 : List (Nat × D.Spec E) := [P117, P118]
theorem S105_ok : AllS Tryz.prog E S105 := ⟨p117, p118, trivial⟩
noncomputable def L105 : Nat → LoopInfo E := clL E 43 [] []
noncomputable def B105 : List (DVal E.T) → St E.T → Tree (Res E.T × St E.T) := dbody E (lookS S105) (lookD []) L105 0 false Tryz.f105
theorem B105_ok : FnOk Tryz.prog E 105 B105 := bodyC_ok sound mix S105_ok (SD := []) trivial (L := L105) (N := 0) (keep := false) Tryz.func105 rfl (by
  intro k g hg fr st out ho
  match k, hg with
  | _, hg => cases hg)
theorem F105 (s : List UInt8) : (B105 [.val .str s, .val .str ([0])] []).get = N.strings_Trim_k N.fuel (fun x_ => some (.ret [.val .str x_], [])) s := by kernel_rfl
noncomputable def i105 : Ins E (Res E.T × St E.T) := ⟨[.v .str, .str [0]], [], fun s => .opt (N.strings_Trim N.fuel s) fun x_ => .ret (.ret [.val .str x_], [])⟩
theorem i105_ok : InsOk Tryz.prog 105 i105 := ⟨B105, B105_ok, by intro s out_ h_; exact ((F105 s).trans (N.strings_Trim_bind N.fuel _ s)).trans h_⟩
noncomputable def P105 : Nat × D.Spec E := (105, .pure [.str, .str] (pureF [i105]))
theorem p105 : SpecOk Tryz.prog E P105.1 P105.2 := pureI_ok Tryz.call105 ⟨i105_ok, trivial⟩
noncomputable def S78 : List (Nat × D.Spec E) := [P105]
theorem S78_ok : AllS Tryz.prog E S78 := ⟨p105, trivial⟩
abbrev h78_s0 (home : Int) (s : List UInt8) (n : Int) (t44 : Int) (o0 : N.TDisk) (r1 : List UInt8) (last : Int) (t45 : Int) (l : List Int) : Fr E.T := ofSlots E 73 [] [1, 2, 8, 9, 10, 43, 44, 45] [.val (.int .i64) home, .val .str s, .val (.int .i64) n, .own 2, .val (.int .i64) last, .own 1, .val (.int .i64) t44, .val (.int .i64) t45]
abbrev t78_s0 (home : Int) (s : List UInt8) (n : Int) (t44 : Int) (o0 : N.TDisk) (r1 : List UInt8) (last : Int) (t45 : Int) (l : List Int) : St E.T := [.box false (.val (.named 1) o0), .arr .live (.int .u8) r1, .arr .live (.int .i64) l]
def x78_s0 (home : Int) (s : List UInt8) (n : Int) (t44 : Int) (o0 : N.TDisk) (r1 : List UInt8) (x_ : (List Int) ⊕ (List Int)) : Tree (CodeOut E) := altT x_ (fun u0_ => .ret (.ret, ofSlots E 73 [] [2, 6, 7, 8, 9] [.val .str s, .nils, .val .bool false, .val (.int .i64) n, .own 2], [.box false (.val (.named 1) o0), .arr .live (.int .u8) r1, .arr .live (.int .i64) u0_])) (fun w0_ => .ret (.exit 0, ofSlots E 73 [] [2, 6, 7, 8, 9] [.val .str s, .undef, .undef, .val (.int .i64) n, .own 2], [.box false (.val (.named 1) o0), .arr .live (.int .u8) r1, .arr .live (.int .i64) w0_]))
noncomputable def g78_s0 : Ins E (CodeOut E) := ⟨[.v (.int .i64), .v .str, .v (.int .i64), .own 2, .v (.int .i64), .own 1, .v (.int .i64), .v (.int .i64)], [.box false (.v (.named 1)), .arr .live (.int .u8), .arr .live (.int .i64)], fun home s n last t44 t45 o0 r1 l => .opt (N.jrnl_named_l0 N.fuel home s n t44 o0 r1 last t45 l) (x78_s0 home s n t44 o0 r1)⟩
noncomputable def L78 : Nat → LoopInfo E := clL E 73 [{ ks := [1, 2, 8, 9, 10, 43, 44, 45], mvs := [], pro := [.pro (.slot 9) [] (.int .i64)], d := [], g := some (insF [g78_s0]) }] []
theorem f78_s0 (home : Int) (s : List UInt8) (n : Int) (t44 : Int) (o0 : N.TDisk) (r1 : List UInt8) (last : Int) (t45 : Int) (l : List Int) : ((stepOf E S78 L78 0 0 Tryz.f78 (h78_s0 home s n t44 o0 r1 last t45 l) (t78_s0 home s n t44 o0 r1 last t45 l)).bind (nx E [1, 2, 8, 9, 10, 43, 44, 45] [] [2, 6, 7, 8, 9] 3)).get = N.jrnl_named_s0k home s n t44 o0 r1 (fun v_ => some (.inl (h78_s0 home s n t44 o0 r1 v_.1 v_.2.1 v_.2.2, t78_s0 home s n t44 o0 r1 v_.1 v_.2.1 v_.2.2))) (fun x_ => some (.inr (.ret, ofSlots E 73 [] [2, 6, 7, 8, 9] [.val .str s, .nils, .val .bool false, .val (.int .i64) n, .own 2], [.box false (.val (.named 1) o0), .arr .live (.int .u8) r1, .arr .live (.int .i64) x_]))) (fun x_ => some (.inr (.exit 0, ofSlots E 73 [] [2, 6, 7, 8, 9] [.val .str s, .undef, .undef, .val (.int .i64) n, .own 2], [.box false (.val (.named 1) o0), .arr .live (.int .u8) r1, .arr .live (.int .i64) x_]))) last t45 l := by kernel_rfl
theorem q78_s0 : InsLp 73 [1, 2, 8, 9, 10, 43, 44, 45] [] [] (stepOf E S78 L78 0 0 Tryz.f78) g78_s0 := by
  intro home s n last t44 t45 o0 r1 l out_ ho_
  obtain ⟨x_, h1_, h2_⟩ := Option.bind_eq_some_iff.1 ho_
  refine iter_loop (rs := [2, 6, 7, 8, 9]) (step := N.jrnl_named_s0 home s n t44 o0 r1) (hd := fun v_ => h78_s0 home s n t44 o0 r1 v_.1 v_.2.1 v_.2.2) (sv := fun v_ => t78_s0 home s n t44 o0 r1 v_.1 v_.2.1 v_.2.2) (ex := x78_s0 home s n t44 o0 r1) (fun v_ => ?_) N.fuel (last, t45, l) h1_ h2_
  refine (f78_s0 home s n t44 o0 r1 v_.1 v_.2.1 v_.2.2).trans ((N.jrnl_named_s0_bind home s n t44 o0 r1 _ _ _ v_.1 v_.2.1 v_.2.2).trans ?_)
  refine congrArg _ (funext fun s_ => ?_)
  rcases s_ with v_ | a | a <;> rfl
noncomputable def B78 : List (DVal E.T) → St E.T → Tree (Res E.T × St E.T) := dbody E (lookS S78) (lookD []) L78 0 false Tryz.f78
theorem B78_ok : FnOk Tryz.prog E 78 B78 := bodyC_ok sound mix S78_ok (SD := []) trivial (L := L78) (N := 0) (keep := false) Tryz.func78 rfl (by
  intro k g hg fr st out ho
  match k, hg with
  | 0, hg => cases hg; exact lp_ok (allLp_cons q78_s0 (allLp_nil)) fr st out ho
  | _ + 1, hg => cases hg)
theorem F78 (d : N.TDisk) (home : Int) (s : List UInt8) : (B78 [.val (.named 1) d, .val (.int .i64) home, .val .str s] []).get = N.jrnl_named_k N.fuel (fun x_ => some (.ret [.val (.slice (.int .i64)) x_.1, .val .bool x_.2], [])) d home s := by kernel_rfl
noncomputable def i78 : Ins E (Res E.T × St E.T) := ⟨[.v (.named 1), .v (.int .i64), .v .str], [], fun d home s => .opt (N.jrnl_named N.fuel d home s) fun x_ => .ret (.ret [.val (.slice (.int .i64)) x_.1, .val .bool x_.2], [])⟩
theorem i78_ok : InsOk Tryz.prog 78 i78 := ⟨B78, B78_ok, by intro d home s out_ h_; exact ((F78 d home s).trans (N.jrnl_named_bind N.fuel _ d home s)).trans h_⟩
noncomputable def P78 : Nat × D.Spec E := (78, .pure [(.named 1), (.int .i64), .str] (pureF [i78]))
theorem p78 : SpecOk Tryz.prog E P78.1 P78.2 := pureI_ok Tryz.call78 ⟨i78_ok, trivial⟩
noncomputable def S39 : List (Nat × D.Spec E) := [P69, P70, P73, P75, P77, P78]
theorem S39_ok : AllS Tryz.prog E S39 := ⟨p69, p70, p73, p75, p77, p78, trivial⟩
noncomputable def D39 : List (Nat × DSpec E) := [(72, B72)]
theorem D39_ok : AllD Tryz.prog E D39 := ⟨p72, trivial⟩
abbrev h39_s0 (home : Int) (t53 : List Int) (t54 : Int) (o0 : N.TDisk) (ok : Bool) (r4 : List (List UInt8)) (r5 : List N.TPut) (t55 : Int) (x : N.TDisk) (w : N.Tjrnl_writer) : Fr E.T := ofSlots E 76 [(72, [.ptr 3 [], .ptr 1 [], .ptr 2 []])] [1, 4, 5, 6, 53, 54, 55] [.val (.int .i64) home, .ptr 1 [], .ptr 2 [], .ptr 3 [], .val (.slice (.int .i64)) t53, .val (.int .i64) t54, .val (.int .i64) t55]
abbrev t39_s0 (home : Int) (t53 : List Int) (t54 : Int) (o0 : N.TDisk) (ok : Bool) (r4 : List (List UInt8)) (r5 : List N.TPut) (t55 : Int) (x : N.TDisk) (w : N.Tjrnl_writer) : St E.T := [.box false (.val (.named 1) o0), .box false (.agg 1 [.nils, .nils, .val (.int .i64) x.Arm, .val .bool x.Down]), .box false (.val .bool ok), .box false (.val (.named 10) w), .arr .froz .str r4, .arr .froz (.named 0) r5]
def x39_s0 (home : Int) (t53 : List Int) (t54 : Int) (o0 : N.TDisk) (ok : Bool) (r4 : List (List UInt8)) (r5 : List N.TPut) (x_ : (N.TDisk × N.Tjrnl_writer) ⊕ (N.TDisk × N.Tjrnl_writer)) : Tree (CodeOut E) := altT x_ (fun u0_ => .ret (.panic (.ifc 161 (.val (.named 8) N.TNil0.mk)), ofSlots E 76 [(72, [.ptr 3 [], .ptr 1 [], .ptr 2 []])] [4, 5, 6] [.ptr 1 [], .ptr 2 [], .ptr 3 []], [.box false (.val (.named 1) o0), .box false (.agg 1 [.nils, .nils, .val (.int .i64) u0_.1.Arm, .val .bool u0_.1.Down]), .box false (.val .bool ok), .box false (.val (.named 10) u0_.2), .arr .froz .str r4, .arr .froz (.named 0) r5])) (fun w0_ => .ret (.exit 0, ofSlots E 76 [(72, [.ptr 3 [], .ptr 1 [], .ptr 2 []])] [4, 5, 6] [.ptr 1 [], .ptr 2 [], .ptr 3 []], [.box false (.val (.named 1) o0), .box false (.agg 1 [.nils, .nils, .val (.int .i64) w0_.1.Arm, .val .bool w0_.1.Down]), .box false (.val .bool ok), .box false (.val (.named 10) w0_.2), .arr .froz .str r4, .arr .froz (.named 0) r5]))
noncomputable def g39_s0 : Ins E (CodeOut E) := ⟨[.v (.int .i64), .ptr 1 [], .ptr 2 [], .ptr 3 [], .v (.slice (.int .i64)), .v (.int .i64), .v (.int .i64)], [.box false (.v (.named 1)), .box false (.agg 1 [.nils, .nils, .v (.int .i64), .v .bool]), .box false (.v .bool), .box false (.v (.named 10)), .arr .froz .str, .arr .froz (.named 0)], fun home t53 t54 t55 o0 x_Arm x_Down ok w r4 r5 => .opt (N.jrnl_Mend_l0 N.fuel home t53 t54 o0 ok r4 r5 t55 (N.TDisk.mk [] [] x_Arm x_Down) w) (x39_s0 home t53 t54 o0 ok r4 r5)⟩
noncomputable def L39 : Nat → LoopInfo E := clL E 76 [{ ks := [1, 4, 5, 6, 53, 54, 55], mvs := [], pro := [], d := [(72, [.ptr 3 [], .ptr 1 [], .ptr 2 []])], g := some (insF [g39_s0]) }] []
theorem f39_s0 (home : Int) (t53 : List Int) (t54 : Int) (o0 : N.TDisk) (ok : Bool) (r4 : List (List UInt8)) (r5 : List N.TPut) (t55 : Int) (x : N.TDisk) (w : N.Tjrnl_writer) : ((stepOf E S39 L39 0 0 Tryz.f39 (h39_s0 home t53 t54 o0 ok r4 r5 t55 x w) (t39_s0 home t53 t54 o0 ok r4 r5 t55 x w)).bind (nx E [1, 4, 5, 6, 53, 54, 55] [] [4, 5, 6] 6)).get = N.jrnl_Mend_s0k home t53 t54 o0 ok r4 r5 (fun v_ => some (.inl (h39_s0 home t53 t54 o0 ok r4 r5 v_.1 v_.2.1 v_.2.2, t39_s0 home t53 t54 o0 ok r4 r5 v_.1 v_.2.1 v_.2.2))) (fun x_ => some (.inr (.panic (.ifc 161 (.val (.named 8) N.TNil0.mk)), ofSlots E 76 [(72, [.ptr 3 [], .ptr 1 [], .ptr 2 []])] [4, 5, 6] [.ptr 1 [], .ptr 2 [], .ptr 3 []], [.box false (.val (.named 1) o0), .box false (.agg 1 [.nils, .nils, .val (.int .i64) x_.1.Arm, .val .bool x_.1.Down]), .box false (.val .bool ok), .box false (.val (.named 10) x_.2), .arr .froz .str r4, .arr .froz (.named 0) r5]))) (fun x_ => some (.inr (.exit 0, ofSlots E 76 [(72, [.ptr 3 [], .ptr 1 [], .ptr 2 []])] [4, 5, 6] [.ptr 1 [], .ptr 2 [], .ptr 3 []], [.box false (.val (.named 1) o0), .box false (.agg 1 [.nils, .nils, .val (.int .i64) x_.1.Arm, .val .bool x_.1.Down]), .box false (.val .bool ok), .box false (.val (.named 10) x_.2), .arr .froz .str r4, .arr .froz (.named 0) r5]))) t55 x w := by kernel_rfl
theorem q39_s0 : InsLp 76 [1, 4, 5, 6, 53, 54, 55] [] [(72, [.ptr 3 [], .ptr 1 [], .ptr 2 []])] (stepOf E S39 L39 0 0 Tryz.f39) g39_s0 := by
  intro home t53 t54 t55 o0 x_Arm x_Down ok w r4 r5 out_ ho_
  obtain ⟨x_, h1_, h2_⟩ := Option.bind_eq_some_iff.1 ho_
  refine iter_loop (rs := [4, 5, 6]) (step := N.jrnl_Mend_s0 home t53 t54 o0 ok r4 r5) (hd := fun v_ => h39_s0 home t53 t54 o0 ok r4 r5 v_.1 v_.2.1 v_.2.2) (sv := fun v_ => t39_s0 home t53 t54 o0 ok r4 r5 v_.1 v_.2.1 v_.2.2) (ex := x39_s0 home t53 t54 o0 ok r4 r5) (fun v_ => ?_) N.fuel (t55, (N.TDisk.mk [] [] x_Arm x_Down), w) h1_ h2_
  refine (f39_s0 home t53 t54 o0 ok r4 r5 v_.1 v_.2.1 v_.2.2).trans ((N.jrnl_Mend_s0_bind home t53 t54 o0 ok r4 r5 _ _ _ v_.1 v_.2.1 v_.2.2).trans ?_)
  refine congrArg _ (funext fun s_ => ?_)
  rcases s_ with v_ | a | a <;> rfl
noncomputable def B39 : List (DVal E.T) → St E.T → Tree (Res E.T × St E.T) := dbody E (lookS S39) (lookD D39) L39 0 false Tryz.f39
theorem B39_ok : FnOk Tryz.prog E 39 B39 := bodyC_ok sound mix S39_ok (SD := D39) D39_ok (L := L39) (N := 0) (keep := false) Tryz.func39 rfl (by
  intro k g hg fr st out ho
  match k, hg with
  | 0, hg => cases hg; exact lp_ok (allLp_cons q39_s0 (allLp_nil)) fr st out ho
  | _ + 1, hg => cases hg)
theorem F39 (d : N.TDisk) (home : Int) : (B39 [.val (.named 1) d, .val (.int .i64) home] []).get = N.jrnl_Mend_k N.fuel (fun x_ => some (.ret [.val (.named 1) x_.1, .val .bool x_.2], [])) d home := by kernel_rfl
noncomputable def i39 : Ins E (Res E.T × St E.T) := ⟨[.v (.named 1), .v (.int .i64)], [], fun d home => .opt (N.jrnl_Mend N.fuel d home) fun x_ => .ret (.ret [.val (.named 1) x_.1, .val .bool x_.2], [])⟩
theorem i39_ok : InsOk Tryz.prog 39 i39 := ⟨B39, B39_ok, by intro d home out_ h_; exact ((F39 d home).trans (N.jrnl_Mend_bind N.fuel _ d home)).trans h_⟩
noncomputable def P39 : Nat × D.Spec E := (39, .pure [(.named 1), (.int .i64)] (pureF [i39]))
theorem p39 : SpecOk Tryz.prog E P39.1 P39.2 := pureI_ok Tryz.call39 ⟨i39_ok, trivial⟩
noncomputable def S41 : List (Nat × D.Spec E) := [P36, P83]
theorem S41_ok : AllS Tryz.prog E S41 := ⟨p36, p83, trivial⟩
abbrev h41_s0 (t6 : Int) (d : N.TDisk) (t7 : Int) (l : List (List UInt8)) : Fr E.T := ofSlots E 26 [] [1, 2, 6, 7] [.ptr 0 [], .own 1, .val (.int .i64) t6, .val (.int .i64) t7]
abbrev t41_s0 (t6 : Int) (d : N.TDisk) (t7 : Int) (l : List (List UInt8)) : St E.T := [.box false (.val (.named 1) d), .arr .live .str l]
def x41_s0 (t6 : Int) (d : N.TDisk) (x_ : (List (List UInt8)) ⊕ (List (List UInt8))) : Tree (CodeOut E) := altT x_ (fun u0_ => .ret (.panic (.ifc 75 (.val (.named 8) N.TNil0.mk)), ofSlots E 26 [] [2] [.own 1], [.box false (.val (.named 1) d), .arr .live .str u0_])) (fun w0_ => .ret (.exit 0, ofSlots E 26 [] [2] [.own 1], [.box false (.val (.named 1) d), .arr .live .str w0_]))
noncomputable def g41_s0 : Ins E (CodeOut E) := ⟨[.ptr 0 [], .own 1, .v (.int .i64), .v (.int .i64)], [.box false (.v (.named 1)), .arr .live .str], fun t6 t7 d l => .opt (N.store_sectors_l0 N.fuel t6 d t7 l) (x41_s0 t6 d)⟩
noncomputable def L41 : Nat → LoopInfo E := clL E 26 [{ ks := [1, 2, 6, 7], mvs := [], pro := [.pro (.slot 2) [] .str], d := [], g := some (insF [g41_s0]) }] []
theorem f41_s0 (t6 : Int) (d : N.TDisk) (t7 : Int) (l : List (List UInt8)) : ((stepOf E S41 L41 0 0 Tryz.f41 (h41_s0 t6 d t7 l) (t41_s0 t6 d t7 l)).bind (nx E [1, 2, 6, 7] [] [2] 2)).get = N.store_sectors_s0k t6 d (fun v_ => some (.inl (h41_s0 t6 d v_.1 v_.2, t41_s0 t6 d v_.1 v_.2))) (fun x_ => some (.inr (.panic (.ifc 75 (.val (.named 8) N.TNil0.mk)), ofSlots E 26 [] [2] [.own 1], [.box false (.val (.named 1) d), .arr .live .str x_]))) (fun x_ => some (.inr (.exit 0, ofSlots E 26 [] [2] [.own 1], [.box false (.val (.named 1) d), .arr .live .str x_]))) t7 l := by kernel_rfl
theorem q41_s0 : InsLp 26 [1, 2, 6, 7] [] [] (stepOf E S41 L41 0 0 Tryz.f41) g41_s0 := by
  intro t6 t7 d l out_ ho_
  obtain ⟨x_, h1_, h2_⟩ := Option.bind_eq_some_iff.1 ho_
  refine iter_loop (rs := [2]) (step := N.store_sectors_s0 t6 d) (hd := fun v_ => h41_s0 t6 d v_.1 v_.2) (sv := fun v_ => t41_s0 t6 d v_.1 v_.2) (ex := x41_s0 t6 d) (fun v_ => ?_) N.fuel (t7, l) h1_ h2_
  refine (f41_s0 t6 d v_.1 v_.2).trans ((N.store_sectors_s0_bind t6 d _ _ _ v_.1 v_.2).trans ?_)
  refine congrArg _ (funext fun s_ => ?_)
  rcases s_ with v_ | a | a <;> rfl
noncomputable def B41 : List (DVal E.T) → St E.T → Tree (Res E.T × St E.T) := dbody E (lookS S41) (lookD []) L41 0 false Tryz.f41
theorem B41_ok : FnOk Tryz.prog E 41 B41 := bodyC_ok sound mix S41_ok (SD := []) trivial (L := L41) (N := 0) (keep := false) Tryz.func41 rfl (by
  intro k g hg fr st out ho
  match k, hg with
  | 0, hg => cases hg; exact lp_ok (allLp_cons q41_s0 (allLp_nil)) fr st out ho
  | _ + 1, hg => cases hg)
theorem F41 (d : N.TDisk) : (B41 [.val (.named 1) d] []).get = N.store_sectors_k N.fuel (fun x_ => some (.ret [.val (.slice .str) x_], [])) (fun x_ => some (.panic (.ifc 75 (.val (.named 8) N.TNil0.mk)), [])) d := by kernel_rfl
noncomputable def i41 : Ins E (Res E.T × St E.T) := ⟨[.v (.named 1)], [], fun d => .opt (N.store_sectors N.fuel d) fun x_ => altT x_ (fun u0_ => .ret (.ret [.val (.slice .str) u0_], [])) (fun w0_ => .ret (.panic (.ifc 75 (.val (.named 8) N.TNil0.mk)), []))⟩
theorem i41_ok : InsOk Tryz.prog 41 i41 := ⟨B41, B41_ok, by intro d out_ h_; exact ((F41 d).trans (N.store_sectors_bind N.fuel _ _ d)).trans h_⟩
noncomputable def P41 : Nat × D.Spec E := (41, .pure [(.named 1)] (pureF [i41]))
theorem p41 : SpecOk Tryz.prog E P41.1 P41.2 := pureI_ok Tryz.call41 ⟨i41_ok, trivial⟩
noncomputable def S134 : List (Nat × D.Spec E) := []
theorem S134_ok : AllS Tryz.prog E S134 := trivial
noncomputable def L134 : Nat → LoopInfo E := clL E 14 [] []
noncomputable def B134 : List (DVal E.T) → St E.T → Tree (Res E.T × St E.T) := dbody E (lookS S134) (lookD []) L134 0 false Tryz.f134
theorem B134_ok : FnOk Tryz.prog E 134 B134 := bodyC_ok sound mix S134_ok (SD := []) trivial (L := L134) (N := 0) (keep := false) Tryz.func134 rfl (by
  intro k g hg fr st out ho
  match k, hg with
  | _, hg => cases hg)
theorem F134 (b : List UInt8) (n : Int) : (B134 [.val (.slice (.int .u8)) b, .val (.int .i64) n] []).get = N.bits_front_k (fun x_ => some (.ret [.val (.slice (.int .u8)) x_], [])) (fun x_ => some (.panic (.ifc 198 (.val (.named 8) N.TNil0.mk)), [])) b n := by kernel_rfl
noncomputable def i134 : Ins E (Res E.T × St E.T) := ⟨[.v (.slice (.int .u8)), .v (.int .i64)], [], fun b n => .opt (N.bits_front b n) fun x_ => altT x_ (fun u0_ => .ret (.ret [.val (.slice (.int .u8)) u0_], [])) (fun w0_ => .ret (.panic (.ifc 198 (.val (.named 8) N.TNil0.mk)), []))⟩
theorem i134_ok : InsOk Tryz.prog 134 i134 := ⟨B134, B134_ok, by intro b n out_ h_; exact ((F134 b n).trans (N.bits_front_bind _ _ b n)).trans h_⟩
noncomputable def P134 : Nat × D.Spec E := (134, .pure [(.slice (.int .u8)), (.int .i64)] (pureF [i134]))
theorem p134 : SpecOk Tryz.prog E P134.1 P134.2 := pureI_ok Tryz.call134 ⟨i134_ok, trivial⟩
noncomputable def S133 : List (Nat × D.Spec E) := []
theorem S133_ok : AllS Tryz.prog E S133 := trivial
noncomputable def L133 : Nat → LoopInfo E := clL E 18 [] []
noncomputable def B133 : DSpec E := dbodyD E (lookS S133) L133 0 Tryz.f133
theorem p133 : DSpecOk Tryz.prog E 133 B133 := dfullD_ok sound mix S133_ok (L := L133) (fun _ => rfl) Tryz.call133 Tryz.func133 rfl
noncomputable def S124 : List (Nat × D.Spec E) := [P134]
theorem S124_ok : AllS Tryz.prog E S124 := ⟨p134, trivial⟩
noncomputable def D124 : List (Nat × DSpec E) := [(133, B133)]
theorem D124_ok : AllD Tryz.prog E D124 := ⟨p133, trivial⟩
abbrev h124_s0 (t16 : List UInt8) (t17 : Int) (ok : Bool) (v : Int) (t18 : Int) : Fr E.T := ofSlots E 29 [(133, [.ptr 0 []])] [4, 5, 16, 17, 18] [.val (.int .i64) v, .ptr 0 [], .val (.slice (.int .u8)) t16, .val (.int .i64) t17, .val (.int .i64) t18]
abbrev t124_s0 (t16 : List UInt8) (t17 : Int) (ok : Bool) (v : Int) (t18 : Int) : St E.T := [.box false (.val .bool ok)]
def x124_s0 (t16 : List UInt8) (t17 : Int) (ok : Bool) (x_ : Int) : Tree (CodeOut E) := .ret (.exit 0, ofSlots E 29 [(133, [.ptr 0 []])] [4, 5] [.val (.int .i64) x_, .ptr 0 []], [.box false (.val .bool ok)])
noncomputable def g124_s0 : Ins E (CodeOut E) := ⟨[.v (.int .i64), .ptr 0 [], .v (.slice (.int .u8)), .v (.int .i64), .v (.int .i64)], [.box false (.v .bool)], fun v t16 t17 t18 ok => .opt (N.bits_Take_l0 N.fuel t16 t17 ok v t18) (x124_s0 t16 t17 ok)⟩
noncomputable def L124 : Nat → LoopInfo E := clL E 29 [{ ks := [4, 5, 16, 17, 18], mvs := [], pro := [], d := [(133, [.ptr 0 []])], g := some (insF [g124_s0]) }] []
theorem f124_s0 (t16 : List UInt8) (t17 : Int) (ok : Bool) (v : Int) (t18 : Int) : ((stepOf E S124 L124 0 0 Tryz.f124 (h124_s0 t16 t17 ok v t18) (t124_s0 t16 t17 ok v t18)).bind (nx E [4, 5, 16, 17, 18] [] [4, 5] 1)).get = N.bits_Take_s0k t16 t17 ok (fun v_ => some (.inl (h124_s0 t16 t17 ok v_.1 v_.2, t124_s0 t16 t17 ok v_.1 v_.2))) (fun x_ => some (.inr (.exit 0, ofSlots E 29 [(133, [.ptr 0 []])] [4, 5] [.val (.int .i64) x_, .ptr 0 []], [.box false (.val .bool ok)]))) v t18 := by kernel_rfl
theorem q124_s0 : InsLp 29 [4, 5, 16, 17, 18] [] [(133, [.ptr 0 []])] (stepOf E S124 L124 0 0 Tryz.f124) g124_s0 := by
  intro v t16 t17 t18 ok out_ ho_
  obtain ⟨x_, h1_, h2_⟩ := Option.bind_eq_some_iff.1 ho_
  refine iter_loop (rs := [4, 5]) (step := N.bits_Take_s0 t16 t17 ok) (hd := fun v_ => h124_s0 t16 t17 ok v_.1 v_.2) (sv := fun v_ => t124_s0 t16 t17 ok v_.1 v_.2) (ex := x124_s0 t16 t17 ok) (fun v_ => ?_) N.fuel (v, t18) h1_ h2_
  refine (f124_s0 t16 t17 ok v_.1 v_.2).trans ((N.bits_Take_s0_bind t16 t17 ok _ _ v_.1 v_.2).trans ?_)
  refine congrArg _ (funext fun s_ => ?_)
  rcases s_ with v_ | a <;> rfl
noncomputable def B124 : List (DVal E.T) → St E.T → Tree (Res E.T × St E.T) := dbody E (lookS S124) (lookD D124) L124 0 false Tryz.f124
theorem B124_ok : FnOk Tryz.prog E 124 B124 := bodyC_ok sound mix S124_ok (SD := D124) D124_ok (L := L124) (N := 0) (keep := false) Tryz.func124 rfl (by
  intro k g hg fr st out ho
  match k, hg with
  | 0, hg => cases hg; exact lp_ok (allLp_cons q124_s0 (allLp_nil)) fr st out ho
  | _ + 1, hg => cases hg)
theorem F124 (b : List UInt8) (n : Int) : (B124 [.val (.slice (.int .u8)) b, .val (.int .i64) n] []).get = N.bits_Take_k N.fuel (fun x_ => some (.ret [.val (.int .i64) x_.1, .val .bool x_.2], [])) b n := by kernel_rfl
noncomputable def i124 : Ins E (Res E.T × St E.T) := ⟨[.v (.slice (.int .u8)), .v (.int .i64)], [], fun b n => .opt (N.bits_Take N.fuel b n) fun x_ => .ret (.ret [.val (.int .i64) x_.1, .val .bool x_.2], [])⟩
theorem i124_ok : InsOk Tryz.prog 124 i124 := ⟨B124, B124_ok, by intro b n out_ h_; exact ((F124 b n).trans (N.bits_Take_bind N.fuel _ b n)).trans h_⟩
noncomputable def P124 : Nat × D.Spec E := (124, .pure [(.slice (.int .u8)), (.int .i64)] (pureF [i124]))
theorem p124 : SpecOk Tryz.prog E P124.1 P124.2 := pureI_ok Tryz.call124 ⟨i124_ok, trivial⟩
noncomputable def S106 : List (Nat × D.Spec E) := [P124]
theorem S106_ok : AllS Tryz.prog E S106 := ⟨p124, trivial⟩
noncomputable def L106 : Nat → LoopInfo E := clL E 30 [] []
noncomputable def B106 : List (DVal E.T) → St E.T → Tree (Res E.T × St E.T) := tidyF (dbody E (lookS S106) (lookD []) L106 0 false Tryz.f106)
theorem B106_ok : FnOk Tryz.prog E 106 B106 := tidy_fn ok (bodyC_ok sound mix S106_ok (SD := []) trivial (L := L106) (N := 0) (keep := false) Tryz.func106 rfl (by
  intro k g hg fr st out ho
  match k, hg with
  | _, hg => cases hg))
theorem F106 (n : Int) (a1_ : List UInt8) : (B106 [.ptr 0 [], .val (.int .i64) n] [.box false (.agg 11 [.own 1]), .arr .live (.int .u8) a1_]).get = N.image_reader_num_k N.fuel (fun x_ => some (.ret [.val (.int .i64) x_.1], [.box false (.val (.named 11) x_.2.1), .arr .froz (.int .u8) x_.2.2])) (fun x_ => some (.panic (.ifc 132 (.val (.named 8) N.TNil0.mk)), [.box false (.agg 11 [.own 1]), .arr .live (.int .u8) a1_])) n (N.Timage_reader.mk a1_) := by kernel_rfl
noncomputable def i106 : Ins E (Res E.T × St E.T) := ⟨[.ptr 0 [], .v (.int .i64)], [.box false (.agg 11 [.own 1]), .arr .live (.int .u8)], fun n a1_ => .opt (N.image_reader_num N.fuel n (N.Timage_reader.mk a1_)) fun x_ => altT x_ (fun u0_ => .ret (.ret [.val (.int .i64) u0_.1], [.box false (.val (.named 11) u0_.2.1), .arr .froz (.int .u8) u0_.2.2])) (fun w0_ => .ret (.panic (.ifc 132 (.val (.named 8) N.TNil0.mk)), [.box false (.agg 11 [.own 1]), .arr .live (.int .u8) a1_]))⟩
theorem i106_ok : InsOk Tryz.prog 106 i106 := ⟨B106, B106_ok, by intro n a1_ out_ h_; exact ((F106 n a1_).trans (N.image_reader_num_bind N.fuel _ _ n (N.Timage_reader.mk a1_))).trans h_⟩
noncomputable def S106a : List (Nat × D.Spec E) := [P124]
theorem S106a_ok : AllS Tryz.prog E S106a := ⟨p124, trivial⟩
noncomputable def L106a : Nat → LoopInfo E := clL E 30 [] []
noncomputable def B106a : List (DVal E.T) → St E.T → Tree (Res E.T × St E.T) := tidyF (dbody E (lookS S106a) (lookD []) L106a 0 false Tryz.f106)
theorem B106a_ok : FnOk Tryz.prog E 106 B106a := tidy_fn ok (bodyC_ok sound mix S106a_ok (SD := []) trivial (L := L106a) (N := 0) (keep := false) Tryz.func106 rfl (by
  intro k g hg fr st out ho
  match k, hg with
  | _, hg => cases hg))
theorem F106a (n : Int) (r : N.Timage_reader) : (B106a [.ptr 0 [], .val (.int .i64) n] [.box false (.val (.named 11) r)]).get = N.image_reader_num_2_k N.fuel (fun x_ => some (.ret [.val (.int .i64) x_.1], [.box false (.val (.named 11) x_.2)])) (fun x_ => some (.panic (.ifc 132 (.val (.named 8) N.TNil0.mk)), [.box false (.val (.named 11) r)])) n r := by kernel_rfl
noncomputable def i106a : Ins E (Res E.T × St E.T) := ⟨[.ptr 0 [], .v (.int .i64)], [.box false (.v (.named 11))], fun n r => .opt (N.image_reader_num_2 N.fuel n r) fun x_ => altT x_ (fun u0_ => .ret (.ret [.val (.int .i64) u0_.1], [.box false (.val (.named 11) u0_.2)])) (fun w0_ => .ret (.panic (.ifc 132 (.val (.named 8) N.TNil0.mk)), [.box false (.val (.named 11) r)]))⟩
theorem i106a_ok : InsOk Tryz.prog 106 i106a := ⟨B106a, B106a_ok, by intro n r out_ h_; exact ((F106a n r).trans (N.image_reader_num_2_bind N.fuel _ _ n r)).trans h_⟩
noncomputable def P106 : Nat × D.Spec E := (106, .full [.ptr, .data (.int .i64)] false (fullF [i106, i106a]))
theorem p106 : SpecOk Tryz.prog E P106.1 P106.2 := fullI_ok ok Tryz.call106 ⟨i106_ok, i106a_ok, trivial⟩
noncomputable def S125 : List (Nat × D.Spec E) := [P134]
theorem S125_ok : AllS Tryz.prog E S125 := ⟨p134, trivial⟩
noncomputable def D125 : List (Nat × DSpec E) := [(133, B133)]
theorem D125_ok : AllD Tryz.prog E D125 := ⟨p133, trivial⟩
noncomputable def L125 : Nat → LoopInfo E := clL E 20 [] []
noncomputable def B125 : List (DVal E.T) → St E.T → Tree (Res E.T × St E.T) := dbody E (lookS S125) (lookD D125) L125 0 false Tryz.f125
theorem B125_ok : FnOk Tryz.prog E 125 B125 := bodyC_ok sound mix S125_ok (SD := D125) D125_ok (L := L125) (N := 0) (keep := false) Tryz.func125 rfl (by
  intro k g hg fr st out ho
  match k, hg with
  | _, hg => cases hg)
theorem F125 (b : List UInt8) : (B125 [.val (.slice (.int .u8)) b] []).get = N.bits_TakeText_k (fun x_ => some (.ret [.val .str x_.1, .val (.int .i64) x_.2.1, .val .bool x_.2.2], [])) b := by kernel_rfl
noncomputable def i125 : Ins E (Res E.T × St E.T) := ⟨[.v (.slice (.int .u8))], [], fun b => .opt (N.bits_TakeText b) fun x_ => .ret (.ret [.val .str x_.1, .val (.int .i64) x_.2.1, .val .bool x_.2.2], [])⟩
theorem i125_ok : InsOk Tryz.prog 125 i125 := ⟨B125, B125_ok, by intro b out_ h_; exact ((F125 b).trans (N.bits_TakeText_bind _ b)).trans h_⟩
noncomputable def P125 : Nat × D.Spec E := (125, .pure [(.slice (.int .u8))] (pureF [i125]))
theorem p125 : SpecOk Tryz.prog E P125.1 P125.2 := pureI_ok Tryz.call125 ⟨i125_ok, trivial⟩
noncomputable def S107 : List (Nat × D.Spec E) := [P125]
theorem S107_ok : AllS Tryz.prog E S107 := ⟨p125, trivial⟩
noncomputable def L107 : Nat → LoopInfo E := clL E 45 [] []
noncomputable def B107 : List (DVal E.T) → St E.T → Tree (Res E.T × St E.T) := tidyF (dbody E (lookS S107) (lookD []) L107 0 false Tryz.f107)
theorem B107_ok : FnOk Tryz.prog E 107 B107 := tidy_fn ok (bodyC_ok sound mix S107_ok (SD := []) trivial (L := L107) (N := 0) (keep := false) Tryz.func107 rfl (by
  intro k g hg fr st out ho
  match k, hg with
  | _, hg => cases hg))
theorem F107 (n : Int) (r : N.Timage_reader) : (B107 [.ptr 0 [], .val (.int .i64) n] [.box false (.val (.named 11) r)]).get = N.image_reader_text_k (fun x_ => some (.ret [.val .str x_.1], [.box false (.val (.named 11) x_.2)])) (fun x_ => some (.panic (.ifc 132 (.val (.named 8) N.TNil0.mk)), [.box false (.val (.named 11) r)])) n r := by kernel_rfl
noncomputable def i107 : Ins E (Res E.T × St E.T) := ⟨[.ptr 0 [], .v (.int .i64)], [.box false (.v (.named 11))], fun n r => .opt (N.image_reader_text n r) fun x_ => altT x_ (fun u0_ => .ret (.ret [.val .str u0_.1], [.box false (.val (.named 11) u0_.2)])) (fun w0_ => .ret (.panic (.ifc 132 (.val (.named 8) N.TNil0.mk)), [.box false (.val (.named 11) r)]))⟩
theorem i107_ok : InsOk Tryz.prog 107 i107 := ⟨B107, B107_ok, by intro n r out_ h_; exact ((F107 n r).trans (N.image_reader_text_bind _ _ n r)).trans h_⟩
noncomputable def P107 : Nat × D.Spec E := (107, .full [.ptr, .data (.int .i64)] false (fullF [i107]))
theorem p107 : SpecOk Tryz.prog E P107.1 P107.2 := fullI_ok ok Tryz.call107 ⟨i107_ok, trivial⟩
noncomputable def S81 : List (Nat × D.Spec E) := [P106, P107]
theorem S81_ok : AllS Tryz.prog E S81 := ⟨p106, p107, trivial⟩
abbrev h81_s0 (r1 : List UInt8) (t7 : Int) (r : N.Timage_reader) (s : N.TState) : Fr E.T := ofSlots E 42 [] [0, 2, 7] [.ptr 0 [], .ptr 2 [], .val (.int .i64) t7]
abbrev t81_s0 (r1 : List UInt8) (t7 : Int) (r : N.Timage_reader) (s : N.TState) : St E.T := [.box false (.val (.named 11) r), .arr .froz (.int .u8) r1, .box false (.agg 4 [.nils, .own 3, .val (.int .i64) s.Epoch]), .arr .live (.named 3) s.Marks]
def x81_s0 (r1 : List UInt8) (x_ : (N.Timage_reader × N.TState) ⊕ (N.Timage_reader × N.TState)) : Tree (CodeOut E) := altT x_ (fun u0_ => .ret (.panic (.ifc 132 (.val (.named 8) N.TNil0.mk)), ofSlots E 42 [] [0, 2] [.ptr 0 [], .ptr 2 []], [.box false (.val (.named 11) u0_.1), .arr .froz (.int .u8) r1, .box false (.agg 4 [.nils, .own 3, .val (.int .i64) u0_.2.Epoch]), .arr .live (.named 3) u0_.2.Marks])) (fun w0_ => .ret (.exit 0, ofSlots E 42 [] [0, 2] [.ptr 0 [], .ptr 2 []], [.box false (.val (.named 11) w0_.1), .arr .froz (.int .u8) r1, .box false (.agg 4 [.nils, .own 3, .val (.int .i64) w0_.2.Epoch]), .arr .live (.named 3) w0_.2.Marks]))
noncomputable def g81_s0 : Ins E (CodeOut E) := ⟨[.ptr 0 [], .ptr 2 [], .v (.int .i64)], [.box false (.v (.named 11)), .arr .froz (.int .u8), .box false (.agg 4 [.nils, .own 3, .v (.int .i64)]), .arr .live (.named 3)], fun t7 r r1 s_Epoch a3_ => .opt (N.image_reader_read_l0 N.fuel r1 t7 r (N.TState.mk [] a3_ s_Epoch)) (x81_s0 r1)⟩
abbrev h81_s1 (r1 : List UInt8) (t24 : Int) (r : N.Timage_reader) (s : N.TState) : Fr E.T := ofSlots E 42 [] [0, 2, 24] [.ptr 0 [], .ptr 2 [], .val (.int .i64) t24]
abbrev t81_s1 (r1 : List UInt8) (t24 : Int) (r : N.Timage_reader) (s : N.TState) : St E.T := [.box false (.val (.named 11) r), .arr .froz (.int .u8) r1, .box false (.agg 4 [.own 4, .own 3, .val (.int .i64) s.Epoch]), .arr .live (.named 3) s.Marks, .arr .live (.named 2) s.Files]
def x81_s1 (r1 : List UInt8) (x_ : (N.Timage_reader × N.TState) ⊕ ((N.Timage_reader × N.TState × N.TFile) ⊕ (N.Timage_reader × N.TState))) : Tree (CodeOut E) := altT x_ (fun u0_ => .ret (.panic (.ifc 132 (.val (.named 8) N.TNil0.mk)), ofSlots E 42 [] [2] [.ptr 2 []], [.box false (.val (.named 11) u0_.1), .arr .froz (.int .u8) r1, .box false (.agg 4 [.own 4, .own 3, .val (.int .i64) u0_.2.Epoch]), .arr .live (.named 3) u0_.2.Marks, .arr .live (.named 2) u0_.2.Files])) (fun w0_ => altT w0_ (fun u1_ => .ret (.panic (.ifc 132 (.val (.named 8) N.TNil0.mk)), ofSlots E 42 [] [2] [.ptr 2 []], [.box false (.val (.named 11) u1_.1), .arr .froz (.int .u8) r1, .box false (.agg 4 [.own 4, .own 3, .val (.int .i64) u1_.2.1.Epoch]), .arr .live (.named 3) u1_.2.1.Marks, .arr .live (.named 2) u1_.2.1.Files, .box false (.agg 2 [.val .str u1_.2.2.Name, .val (.int .i64) u1_.2.2.Ver, .val .str u1_.2.2.Body])])) (fun w1_ => .ret (.exit 2, ofSlots E 42 [] [2] [.ptr 2 []], [.box false (.val (.named 11) w1_.1), .arr .froz (.int .u8) r1, .box false (.agg 4 [.own 4, .own 3, .val (.int .i64) w1_.2.Epoch]), .arr .live (.named 3) w1_.2.Marks, .arr .live (.named 2) w1_.2.Files])))
noncomputable def g81_s1 : Ins E (CodeOut E) := ⟨[.ptr 0 [], .ptr 2 [], .v (.int .i64)], [.box false (.v (.named 11)), .arr .froz (.int .u8), .box false (.agg 4 [.own 4, .own 3, .v (.int .i64)]), .arr .live (.named 3), .arr .live (.named 2)], fun t24 r r1 s_Epoch a3_ a4_ => .opt (N.image_reader_read_l1 N.fuel r1 t24 r (N.TState.mk a4_ a3_ s_Epoch)) (x81_s1 r1)⟩
noncomputable def L81 : Nat → LoopInfo E := clL E 42 [{ ks := [0, 2, 7], mvs := [], pro := [.pro (.obj 2) [1] (.named 3)], d := [], g := some (insF [g81_s0]) }, { ks := [0, 2, 24], mvs := [], pro := [.pro (.obj 2) [0] (.named 2)], d := [], g := some (insF [g81_s1]) }] []
theorem f81_s0 (r1 : List UInt8) (t7 : Int) (r : N.Timage_reader) (s : N.TState) : ((stepOf E S81 L81 0 0 Tryz.f81 (h81_s0 r1 t7 r s) (t81_s0 r1 t7 r s)).bind (nx E [0, 2, 7] [] [0, 2] 4)).get = N.image_reader_read_s0k N.fuel r1 (fun v_ => some (.inl (h81_s0 r1 v_.1 v_.2.1 v_.2.2, t81_s0 r1 v_.1 v_.2.1 v_.2.2))) (fun x_ => some (.inr (.panic (.ifc 132 (.val (.named 8) N.TNil0.mk)), ofSlots E 42 [] [0, 2] [.ptr 0 [], .ptr 2 []], [.box false (.val (.named 11) x_.1), .arr .froz (.int .u8) r1, .box false (.agg 4 [.nils, .own 3, .val (.int .i64) x_.2.Epoch]), .arr .live (.named 3) x_.2.Marks]))) (fun x_ => some (.inr (.exit 0, ofSlots E 42 [] [0, 2] [.ptr 0 [], .ptr 2 []], [.box false (.val (.named 11) x_.1), .arr .froz (.int .u8) r1, .box false (.agg 4 [.nils, .own 3, .val (.int .i64) x_.2.Epoch]), .arr .live (.named 3) x_.2.Marks]))) t7 r s := by kernel_rfl
theorem q81_s0 : InsLp 42 [0, 2, 7] [] [] (stepOf E S81 L81 0 0 Tryz.f81) g81_s0 := by
  intro t7 r r1 s_Epoch a3_ out_ ho_
  obtain ⟨x_, h1_, h2_⟩ := Option.bind_eq_some_iff.1 ho_
  refine iter_loop (rs := [0, 2]) (step := N.image_reader_read_s0 N.fuel r1) (hd := fun v_ => h81_s0 r1 v_.1 v_.2.1 v_.2.2) (sv := fun v_ => t81_s0 r1 v_.1 v_.2.1 v_.2.2) (ex := x81_s0 r1) (fun v_ => ?_) N.fuel (t7, r, (N.TState.mk [] a3_ s_Epoch)) h1_ h2_
  refine (f81_s0 r1 v_.1 v_.2.1 v_.2.2).trans ((N.image_reader_read_s0_bind N.fuel r1 _ _ _ v_.1 v_.2.1 v_.2.2).trans ?_)
  refine congrArg _ (funext fun s_ => ?_)
  rcases s_ with v_ | a | a <;> rfl
theorem f81_s1 (r1 : List UInt8) (t24 : Int) (r : N.Timage_reader) (s : N.TState) : ((stepOf E S81 L81 0 1 Tryz.f81 (h81_s1 r1 t24 r s) (t81_s1 r1 t24 r s)).bind (nx E [0, 2, 24] [] [2] 5)).get = N.image_reader_read_s1k N.fuel r1 (fun v_ => some (.inl (h81_s1 r1 v_.1 v_.2.1 v_.2.2, t81_s1 r1 v_.1 v_.2.1 v_.2.2))) (fun x_ => some (.inr (.panic (.ifc 132 (.val (.named 8) N.TNil0.mk)), ofSlots E 42 [] [2] [.ptr 2 []], [.box false (.val (.named 11) x_.1), .arr .froz (.int .u8) r1, .box false (.agg 4 [.own 4, .own 3, .val (.int .i64) x_.2.Epoch]), .arr .live (.named 3) x_.2.Marks, .arr .live (.named 2) x_.2.Files]))) (fun x_ => some (.inr (.panic (.ifc 132 (.val (.named 8) N.TNil0.mk)), ofSlots E 42 [] [2] [.ptr 2 []], [.box false (.val (.named 11) x_.1), .arr .froz (.int .u8) r1, .box false (.agg 4 [.own 4, .own 3, .val (.int .i64) x_.2.1.Epoch]), .arr .live (.named 3) x_.2.1.Marks, .arr .live (.named 2) x_.2.1.Files, .box false (.agg 2 [.val .str x_.2.2.Name, .val (.int .i64) x_.2.2.Ver, .val .str x_.2.2.Body])]))) (fun x_ => some (.inr (.exit 2, ofSlots E 42 [] [2] [.ptr 2 []], [.box false (.val (.named 11) x_.1), .arr .froz (.int .u8) r1, .box false (.agg 4 [.own 4, .own 3, .val (.int .i64) x_.2.Epoch]), .arr .live (.named 3) x_.2.Marks, .arr .live (.named 2) x_.2.Files]))) t24 r s := by kernel_rfl
theorem q81_s1 : InsLp 42 [0, 2, 24] [] [] (stepOf E S81 L81 0 1 Tryz.f81) g81_s1 := by
  intro t24 r r1 s_Epoch a3_ a4_ out_ ho_
  obtain ⟨x_, h1_, h2_⟩ := Option.bind_eq_some_iff.1 ho_
  refine iter_loop (rs := [2]) (step := N.image_reader_read_s1 N.fuel r1) (hd := fun v_ => h81_s1 r1 v_.1 v_.2.1 v_.2.2) (sv := fun v_ => t81_s1 r1 v_.1 v_.2.1 v_.2.2) (ex := x81_s1 r1) (fun v_ => ?_) N.fuel (t24, r, (N.TState.mk a4_ a3_ s_Epoch)) h1_ h2_
  refine (f81_s1 r1 v_.1 v_.2.1 v_.2.2).trans ((N.image_reader_read_s1_bind N.fuel r1 _ _ _ _ v_.1 v_.2.1 v_.2.2).trans ?_)
  refine congrArg _ (funext fun s_ => ?_)
  rcases s_ with v_ | a | a | a <;> rfl
noncomputable def B81 : List (DVal E.T) → St E.T → Tree (Res E.T × St E.T) := tidyF (dbody E (lookS S81) (lookD []) L81 0 false Tryz.f81)
theorem B81_ok : FnOk Tryz.prog E 81 B81 := tidy_fn ok (bodyC_ok sound mix S81_ok (SD := []) trivial (L := L81) (N := 0) (keep := false) Tryz.func81 rfl (by
  intro k g hg fr st out ho
  match k, hg with
  | 0, hg => cases hg; exact lp_ok (allLp_cons q81_s0 (allLp_nil)) fr st out ho
  | 1, hg => cases hg; exact lp_ok (allLp_cons q81_s1 (allLp_nil)) fr st out ho
  | _ + 2, hg => cases hg))
theorem F81 (a1_ : List UInt8) : (B81 [.ptr 0 []] [.box false (.agg 11 [.own 1]), .arr .live (.int .u8) a1_]).get = N.image_reader_read_k N.fuel (fun x_ => some (.ret [.val (.named 4) x_.1], [.box false (.val (.named 11) x_.2.1), .arr .froz (.int .u8) x_.2.2])) (fun x_ => some (.panic (.ifc 132 (.val (.named 8) N.TNil0.mk)), [.box false (.agg 11 [.own 1]), .arr .live (.int .u8) a1_])) (fun x_ => some (.panic (.ifc 132 (.val (.named 8) N.TNil0.mk)), [.box false (.val (.named 11) x_.1), .arr .froz (.int .u8) x_.2])) (N.Timage_reader.mk a1_) := by kernel_rfl
noncomputable def i81 : Ins E (Res E.T × St E.T) := ⟨[.ptr 0 []], [.box false (.agg 11 [.own 1]), .arr .live (.int .u8)], fun a1_ => .opt (N.image_reader_read N.fuel (N.Timage_reader.mk a1_)) fun x_ => altT x_ (fun u0_ => .ret (.ret [.val (.named 4) u0_.1], [.box false (.val (.named 11) u0_.2.1), .arr .froz (.int .u8) u0_.2.2])) (fun w0_ => altT w0_ (fun u1_ => .ret (.panic (.ifc 132 (.val (.named 8) N.TNil0.mk)), [.box false (.agg 11 [.own 1]), .arr .live (.int .u8) a1_])) (fun w1_ => .ret (.panic (.ifc 132 (.val (.named 8) N.TNil0.mk)), [.box false (.val (.named 11) w1_.1), .arr .froz (.int .u8) w1_.2])))⟩
theorem i81_ok : InsOk Tryz.prog 81 i81 := ⟨B81, B81_ok, by intro a1_ out_ h_; exact ((F81 a1_).trans (N.image_reader_read_bind N.fuel _ _ _ (N.Timage_reader.mk a1_))).trans h_⟩
noncomputable def P81 : Nat × D.Spec E := (81, .full [.ptr] false (fullF [i81]))
theorem p81 : SpecOk Tryz.prog E P81.1 P81.2 := fullI_ok ok Tryz.call81 ⟨i81_ok, trivial⟩
noncomputable def S82 : List (Nat × D.Spec E) := []
theorem S82_ok : AllS Tryz.prog E S82 := trivial
abbrev h82_s0 (s1 : List (List UInt8)) (s2 : List (List UInt8)) (t12 : Int) (t13 : Int) : Fr E.T := ofSlots E 26 [] [0, 1, 12, 13] [.val (.slice .str) s1, .val (.slice .str) s2, .val (.int .i64) t12, .val (.int .i64) t13]
abbrev t82_s0 (s1 : List (List UInt8)) (s2 : List (List UInt8)) (t12 : Int) (t13 : Int) : St E.T := []
def x82_s0 (s1 : List (List UInt8)) (s2 : List (List UInt8)) (t12 : Int) (x_ : Unit ⊕ Unit) : Tree (CodeOut E) := altT x_ (fun u0_ => .ret (.ret, ofSlots E 26 [] [4] [.val .bool false], [])) (fun w0_ => .ret (.exit 0, ofSlots E 26 [] [4] [.undef], []))
noncomputable def g82_s0 : Ins E (CodeOut E) := ⟨[.v (.slice .str), .v (.slice .str), .v (.int .i64), .v (.int .i64)], [], fun s1 s2 t12 t13 => .opt (N.slices_Equal_string_l0 N.fuel s1 s2 t12 t13) (x82_s0 s1 s2 t12)⟩
noncomputable def L82 : Nat → LoopInfo E := clL E 26 [{ ks := [0, 1, 12, 13], mvs := [], pro := [], d := [], g := some (insF [g82_s0]) }] []
theorem f82_s0 (s1 : List (List UInt8)) (s2 : List (List UInt8)) (t12 : Int) (t13 : Int) : ((stepOf E S82 L82 0 0 Tryz.f82 (h82_s0 s1 s2 t12 t13) (t82_s0 s1 s2 t12 t13)).bind (nx E [0, 1, 12, 13] [] [4] 0)).get = N.slices_Equal_string_s0k s1 s2 t12 (fun v_ => some (.inl (h82_s0 s1 s2 t12 v_, t82_s0 s1 s2 t12 v_))) (fun x_ => some (.inr (.ret, ofSlots E 26 [] [4] [.val .bool false], []))) (fun x_ => some (.inr (.exit 0, ofSlots E 26 [] [4] [.undef], []))) t13 := by kernel_rfl
theorem q82_s0 : InsLp 26 [0, 1, 12, 13] [] [] (stepOf E S82 L82 0 0 Tryz.f82) g82_s0 := by
  intro s1 s2 t12 t13 out_ ho_
  obtain ⟨x_, h1_, h2_⟩ := Option.bind_eq_some_iff.1 ho_
  refine iter_loop (rs := [4]) (step := N.slices_Equal_string_s0 s1 s2 t12) (hd := fun v_ => h82_s0 s1 s2 t12 v_) (sv := fun v_ => t82_s0 s1 s2 t12 v_) (ex := x82_s0 s1 s2 t12) (fun v_ => ?_) N.fuel t13 h1_ h2_
  refine (f82_s0 s1 s2 t12 v_).trans ((N.slices_Equal_string_s0_bind s1 s2 t12 _ _ _ v_).trans ?_)
  refine congrArg _ (funext fun s_ => ?_)
  rcases s_ with v_ | a | a <;> rfl
noncomputable def B82 : List (DVal E.T) → St E.T → Tree (Res E.T × St E.T) := dbody E (lookS S82) (lookD []) L82 0 false Tryz.f82
theorem B82_ok : FnOk Tryz.prog E 82 B82 := bodyC_ok sound mix S82_ok (SD := []) trivial (L := L82) (N := 0) (keep := false) Tryz.func82 rfl (by
  intro k g hg fr st out ho
  match k, hg with
  | 0, hg => cases hg; exact lp_ok (allLp_cons q82_s0 (allLp_nil)) fr st out ho
  | _ + 1, hg => cases hg)
theorem F82 (s1 : List (List UInt8)) (s2 : List (List UInt8)) : (B82 [.val (.slice .str) s1, .val (.slice .str) s2] []).get = N.slices_Equal_string_k N.fuel (fun x_ => some (.ret [.val .bool x_], [])) s1 s2 := by kernel_rfl
noncomputable def i82 : Ins E (Res E.T × St E.T) := ⟨[.v (.slice .str), .v (.slice .str)], [], fun s1 s2 => .opt (N.slices_Equal_string N.fuel s1 s2) fun x_ => .ret (.ret [.val .bool x_], [])⟩
theorem i82_ok : InsOk Tryz.prog 82 i82 := ⟨B82, B82_ok, by intro s1 s2 out_ h_; exact ((F82 s1 s2).trans (N.slices_Equal_string_bind N.fuel _ s1 s2)).trans h_⟩
noncomputable def P82 : Nat × D.Spec E := (82, .pure [(.slice .str), (.slice .str)] (pureF [i82]))
theorem p82 : SpecOk Tryz.prog E P82.1 P82.2 := pureI_ok Tryz.call82 ⟨i82_ok, trivial⟩
noncomputable def S79 : List (Nat × D.Spec E) := []
theorem S79_ok : AllS Tryz.prog E S79 := trivial
noncomputable def L79 : Nat → LoopInfo E := clL E 17 [] []
noncomputable def B79 : DSpec E := dbodyD E (lookS S79) L79 0 Tryz.f79
theorem p79 : DSpecOk Tryz.prog E 79 B79 := dfullD_ok sound mix S79_ok (L := L79) (fun _ => rfl) Tryz.call79 Tryz.func79 rfl
noncomputable def S40 : List (Nat × D.Spec E) := [P23, P56, P80, P81, P82]
theorem S40_ok : AllS Tryz.prog E S40 := ⟨p23, p56, p80, p81, p82, trivial⟩
noncomputable def D40 : List (Nat × DSpec E) := [(79, B79)]
theorem D40_ok : AllD Tryz.prog E D40 := ⟨p79, trivial⟩
noncomputable def L40 : Nat → LoopInfo E := clL E 26 [] []
noncomputable def B40 : List (DVal E.T) → St E.T → Tree (Res E.T × St E.T) := dbody E (lookS S40) (lookD D40) L40 0 false Tryz.f40
theorem B40_ok : FnOk Tryz.prog E 40 B40 := bodyC_ok sound mix S40_ok (SD := D40) D40_ok (L := L40) (N := 0) (keep := false) Tryz.func40 rfl (by
  intro k g hg fr st out ho
  match k, hg with
  | _, hg => cases hg)
theorem F40 (l : List (List UInt8)) : (B40 [.val (.slice .str) l] []).get = N.image_Take_k N.fuel (fun x_ => some (.ret [.val (.named 4) x_.1, .val .bool x_.2], [])) l := by kernel_rfl
noncomputable def i40 : Ins E (Res E.T × St E.T) := ⟨[.v (.slice .str)], [], fun l => .opt (N.image_Take N.fuel l) fun x_ => .ret (.ret [.val (.named 4) x_.1, .val .bool x_.2], [])⟩
theorem i40_ok : InsOk Tryz.prog 40 i40 := ⟨B40, B40_ok, by intro l out_ h_; exact ((F40 l).trans (N.image_Take_bind N.fuel _ l)).trans h_⟩
noncomputable def P40 : Nat × D.Spec E := (40, .pure [(.slice .str)] (pureF [i40]))
theorem p40 : SpecOk Tryz.prog E P40.1 P40.2 := pureI_ok Tryz.call40 ⟨i40_ok, trivial⟩
noncomputable def S38 : List (Nat × D.Spec E) := []
theorem S38_ok : AllS Tryz.prog E S38 := trivial
noncomputable def L38 : Nat → LoopInfo E := clL E 17 [] []
noncomputable def B38 : DSpec E := dbodyD E (lookS S38) L38 0 Tryz.f38
theorem p38 : DSpecOk Tryz.prog E 38 B38 := dfullD_ok sound mix S38_ok (L := L38) (fun _ => rfl) Tryz.call38 Tryz.func38 rfl
noncomputable def S12 : List (Nat × D.Spec E) := [P22, P36, P39, P40, P41]
theorem S12_ok : AllS Tryz.prog E S12 := ⟨p22, p36, p39, p40, p41, trivial⟩
noncomputable def D12 : List (Nat × DSpec E) := [(38, B38)]
theorem D12_ok : AllD Tryz.prog E D12 := ⟨p38, trivial⟩
noncomputable def L12 : Nat → LoopInfo E := clL E 37 [] []
noncomputable def B12 : List (DVal E.T) → St E.T → Tree (Res E.T × St E.T) := dbody E (lookS S12) (lookD D12) L12 0 false Tryz.f12
theorem B12_ok : FnOk Tryz.prog E 12 B12 := bodyC_ok sound mix S12_ok (SD := D12) D12_ok (L := L12) (N := 0) (keep := false) Tryz.func12 rfl (by
  intro k g hg fr st out ho
  match k, hg with
  | _, hg => cases hg)
theorem F12 (d : N.TDisk) : (B12 [.val (.named 1) d] []).get = N.store_Open_k N.fuel (fun x_ => some (.ret [.val (.named 5) x_.1, .val .bool x_.2], [])) d := by kernel_rfl
noncomputable def i12 : Ins E (Res E.T × St E.T) := ⟨[.v (.named 1)], [], fun d => .opt (N.store_Open N.fuel d) fun x_ => .ret (.ret [.val (.named 5) x_.1, .val .bool x_.2], [])⟩
theorem i12_ok : InsOk Tryz.prog 12 i12 := ⟨B12, B12_ok, by intro d out_ h_; exact ((F12 d).trans (N.store_Open_bind N.fuel _ d)).trans h_⟩
noncomputable def P12 : Nat × D.Spec E := (12, .pure [(.named 1)] (pureF [i12]))
theorem p12 : SpecOk Tryz.prog E P12.1 P12.2 := pureI_ok Tryz.call12 ⟨i12_ok, trivial⟩
noncomputable def S43 : List (Nat × D.Spec E) := []
theorem S43_ok : AllS Tryz.prog E S43 := trivial
abbrev h43_s0 (a : List N.TMark) (b : List N.TMark) (i : Int) : Fr E.T := ofSlots E 26 [] [0, 1, 5] [.val (.slice (.named 3)) a, .val (.slice (.named 3)) b, .val (.int .i64) i]
abbrev t43_s0 (a : List N.TMark) (b : List N.TMark) (i : Int) : St E.T := []
def x43_s0 (a : List N.TMark) (b : List N.TMark) (x_ : Unit ⊕ Unit) : Tree (CodeOut E) := altT x_ (fun u0_ => .ret (.ret, ofSlots E 26 [] [4] [.val .bool false], [])) (fun w0_ => .ret (.exit 0, ofSlots E 26 [] [4] [.undef], []))
noncomputable def g43_s0 : Ins E (CodeOut E) := ⟨[.v (.slice (.named 3)), .v (.slice (.named 3)), .v (.int .i64)], [], fun a b i => .opt (N.ref7_SameMarks_l0 N.fuel a b i) (x43_s0 a b)⟩
noncomputable def L43 : Nat → LoopInfo E := clL E 26 [{ ks := [0, 1, 5], mvs := [], pro := [], d := [], g := some (insF [g43_s0]) }] []
theorem f43_s0 (a : List N.TMark) (b : List N.TMark) (i : Int) : ((stepOf E S43 L43 0 0 Tryz.f43 (h43_s0 a b i) (t43_s0 a b i)).bind (nx E [0, 1, 5] [] [4] 0)).get = N.ref7_SameMarks_s0k a b (fun v_ => some (.inl (h43_s0 a b v_, t43_s0 a b v_))) (fun x_ => some (.inr (.ret, ofSlots E 26 [] [4] [.val .bool false], []))) (fun x_ => some (.inr (.exit 0, ofSlots E 26 [] [4] [.undef], []))) i := by kernel_rfl
theorem q43_s0 : InsLp 26 [0, 1, 5] [] [] (stepOf E S43 L43 0 0 Tryz.f43) g43_s0 := by
  intro a b i out_ ho_
  obtain ⟨x_, h1_, h2_⟩ := Option.bind_eq_some_iff.1 ho_
  refine iter_loop (rs := [4]) (step := N.ref7_SameMarks_s0 a b) (hd := fun v_ => h43_s0 a b v_) (sv := fun v_ => t43_s0 a b v_) (ex := x43_s0 a b) (fun v_ => ?_) N.fuel i h1_ h2_
  refine (f43_s0 a b v_).trans ((N.ref7_SameMarks_s0_bind a b _ _ _ v_).trans ?_)
  refine congrArg _ (funext fun s_ => ?_)
  rcases s_ with v_ | a | a <;> rfl
noncomputable def B43 : List (DVal E.T) → St E.T → Tree (Res E.T × St E.T) := dbody E (lookS S43) (lookD []) L43 0 false Tryz.f43
theorem B43_ok : FnOk Tryz.prog E 43 B43 := bodyC_ok sound mix S43_ok (SD := []) trivial (L := L43) (N := 0) (keep := false) Tryz.func43 rfl (by
  intro k g hg fr st out ho
  match k, hg with
  | 0, hg => cases hg; exact lp_ok (allLp_cons q43_s0 (allLp_nil)) fr st out ho
  | _ + 1, hg => cases hg)
theorem F43 (a : List N.TMark) (b : List N.TMark) : (B43 [.val (.slice (.named 3)) a, .val (.slice (.named 3)) b] []).get = N.ref7_SameMarks_k N.fuel (fun x_ => some (.ret [.val .bool x_], [])) a b := by kernel_rfl
noncomputable def i43 : Ins E (Res E.T × St E.T) := ⟨[.v (.slice (.named 3)), .v (.slice (.named 3))], [], fun a b => .opt (N.ref7_SameMarks N.fuel a b) fun x_ => .ret (.ret [.val .bool x_], [])⟩
theorem i43_ok : InsOk Tryz.prog 43 i43 := ⟨B43, B43_ok, by intro a b out_ h_; exact ((F43 a b).trans (N.ref7_SameMarks_bind N.fuel _ a b)).trans h_⟩
noncomputable def P43 : Nat × D.Spec E := (43, .pure [(.slice (.named 3)), (.slice (.named 3))] (pureF [i43]))
theorem p43 : SpecOk Tryz.prog E P43.1 P43.2 := pureI_ok Tryz.call43 ⟨i43_ok, trivial⟩
noncomputable def S14 : List (Nat × D.Spec E) := [P43]
theorem S14_ok : AllS Tryz.prog E S14 := ⟨p43, trivial⟩
abbrev h14_s0 (a : N.TState) (b : N.TState) (i : Int) : Fr E.T := ofSlots E 46 [] [2, 3, 5] [.ptr 0 [], .ptr 1 [], .val (.int .i64) i]
abbrev t14_s0 (a : N.TState) (b : N.TState) (i : Int) : St E.T := [.box false (.val (.named 4) a), .box false (.val (.named 4) b)]
def x14_s0 (a : N.TState) (b : N.TState) (x_ : Unit ⊕ Unit) : Tree (CodeOut E) := altT x_ (fun u0_ => .ret (.ret, ofSlots E 46 [] [4] [.val .bool false], [.box false (.val (.named 4) a), .box false (.val (.named 4) b)])) (fun w0_ => .ret (.exit 0, ofSlots E 46 [] [4] [.undef], [.box false (.val (.named 4) a), .box false (.val (.named 4) b)]))
noncomputable def g14_s0 : Ins E (CodeOut E) := ⟨[.ptr 0 [], .ptr 1 [], .v (.int .i64)], [.box false (.v (.named 4)), .box false (.v (.named 4))], fun i a b => .opt (N.ref7_SameState_l0 N.fuel a b i) (x14_s0 a b)⟩
noncomputable def L14 : Nat → LoopInfo E := clL E 46 [{ ks := [2, 3, 5], mvs := [], pro := [], d := [], g := some (insF [g14_s0]) }] []
theorem f14_s0 (a : N.TState) (b : N.TState) (i : Int) : ((stepOf E S14 L14 0 0 Tryz.f14 (h14_s0 a b i) (t14_s0 a b i)).bind (nx E [2, 3, 5] [] [4] 2)).get = N.ref7_SameState_s0k a b (fun v_ => some (.inl (h14_s0 a b v_, t14_s0 a b v_))) (fun x_ => some (.inr (.ret, ofSlots E 46 [] [4] [.val .bool false], [.box false (.val (.named 4) a), .box false (.val (.named 4) b)]))) (fun x_ => some (.inr (.exit 0, ofSlots E 46 [] [4] [.undef], [.box false (.val (.named 4) a), .box false (.val (.named 4) b)]))) i := by kernel_rfl
theorem q14_s0 : InsLp 46 [2, 3, 5] [] [] (stepOf E S14 L14 0 0 Tryz.f14) g14_s0 := by
  intro i a b out_ ho_
  obtain ⟨x_, h1_, h2_⟩ := Option.bind_eq_some_iff.1 ho_
  refine iter_loop (rs := [4]) (step := N.ref7_SameState_s0 a b) (hd := fun v_ => h14_s0 a b v_) (sv := fun v_ => t14_s0 a b v_) (ex := x14_s0 a b) (fun v_ => ?_) N.fuel i h1_ h2_
  refine (f14_s0 a b v_).trans ((N.ref7_SameState_s0_bind a b _ _ _ v_).trans ?_)
  refine congrArg _ (funext fun s_ => ?_)
  rcases s_ with v_ | a | a <;> rfl
noncomputable def B14 : List (DVal E.T) → St E.T → Tree (Res E.T × St E.T) := dbody E (lookS S14) (lookD []) L14 0 false Tryz.f14
theorem B14_ok : FnOk Tryz.prog E 14 B14 := bodyC_ok sound mix S14_ok (SD := []) trivial (L := L14) (N := 0) (keep := false) Tryz.func14 rfl (by
  intro k g hg fr st out ho
  match k, hg with
  | 0, hg => cases hg; exact lp_ok (allLp_cons q14_s0 (allLp_nil)) fr st out ho
  | _ + 1, hg => cases hg)
theorem F14 (a : N.TState) (b : N.TState) : (B14 [.val (.named 4) a, .val (.named 4) b] []).get = N.ref7_SameState_k N.fuel (fun x_ => some (.ret [.val .bool x_], [])) a b := by kernel_rfl
noncomputable def i14 : Ins E (Res E.T × St E.T) := ⟨[.v (.named 4), .v (.named 4)], [], fun a b => .opt (N.ref7_SameState N.fuel a b) fun x_ => .ret (.ret [.val .bool x_], [])⟩
theorem i14_ok : InsOk Tryz.prog 14 i14 := ⟨B14, B14_ok, by intro a b out_ h_; exact ((F14 a b).trans (N.ref7_SameState_bind N.fuel _ a b)).trans h_⟩
noncomputable def P14 : Nat × D.Spec E := (14, .pure [(.named 4), (.named 4)] (pureF [i14]))
theorem p14 : SpecOk Tryz.prog E P14.1 P14.2 := pureI_ok Tryz.call14 ⟨i14_ok, trivial⟩
noncomputable def S7 : List (Nat × D.Spec E) := [P11, P12, P14, P15, P8]
theorem S7_ok : AllS Tryz.prog E S7 := ⟨p11, p12, p14, p15, p8, trivial⟩
noncomputable def L7 : Nat → LoopInfo E := clL E 55 [] []
noncomputable def B7 : List (DVal E.T) → St E.T → Tree (Res E.T × St E.T) := dbody E (lookS S7) (lookD []) L7 0 false Tryz.f7
theorem B7_ok : FnOk Tryz.prog E 7 B7 := bodyC_ok sound mix S7_ok (SD := []) trivial (L := L7) (N := 0) (keep := false) Tryz.func7 rfl (by
  intro k g hg fr st out ho
  match k, hg with
  | _, hg => cases hg)
theorem F7 : (B7 [] []).get = N.law12_begun_k N.fuel (fun x_ => some (.ret [.val .bool x_], [])) := by kernel_rfl
noncomputable def i7 : Ins E (Res E.T × St E.T) := ⟨[], [], .opt (N.law12_begun N.fuel) fun x_ => .ret (.ret [.val .bool x_], [])⟩
theorem i7_ok : InsOk Tryz.prog 7 i7 := ⟨B7, B7_ok, by intro out_ h_; exact ((F7).trans (N.law12_begun_bind N.fuel _)).trans h_⟩
noncomputable def P7 : Nat × D.Spec E := (7, .pure [] (pureF [i7]))
theorem p7 : SpecOk Tryz.prog E P7.1 P7.2 := pureI_ok Tryz.call7 ⟨i7_ok, trivial⟩
noncomputable def S9 : List (Nat × D.Spec E) := []
theorem S9_ok : AllS Tryz.prog E S9 := trivial
noncomputable def L9 : Nat → LoopInfo E := clL E 6 [] []
noncomputable def B9 : List (DVal E.T) → St E.T → Tree (Res E.T × St E.T) := tidyF (dbody E (lookS S9) (lookD []) L9 0 true Tryz.f9)
theorem B9_ok : FnOk Tryz.prog E 9 B9 := tidy_fn ok (bodyC_ok sound mix S9_ok (SD := []) trivial (L := L9) (N := 0) (keep := true) Tryz.func9 rfl (by
  intro k g hg fr st out ho
  match k, hg with
  | _, hg => cases hg))
theorem F9 (l : List UInt8) : (B9 [.val (.slice (.int .u8)) l] []).get = N.made_Made_k (fun x_ => some (.ret [.ptr 0 []], [.box false (.val (.named 6) x_)])) l := by kernel_rfl
noncomputable def i9 : Ins E (Res E.T × St E.T) := ⟨[.v (.slice (.int .u8))], [], fun l => .ret (.ret [.ptr 0 []], [.box false (.val (.named 6) (N.made_Made l))])⟩
theorem i9_ok : InsOk Tryz.prog 9 i9 := ⟨B9, B9_ok, by intro l out_ h_; exact ((F9 l).trans (N.made_Made_bind _ l)).trans h_⟩
noncomputable def P9 : Nat × D.Spec E := (9, .full [.data (.slice (.int .u8))] false (fullF [i9]))
theorem p9 : SpecOk Tryz.prog E P9.1 P9.2 := fullI_ok ok Tryz.call9 ⟨i9_ok, trivial⟩
noncomputable def S26 : List (Nat × D.Spec E) := []
theorem S26_ok : AllS Tryz.prog E S26 := trivial
noncomputable def L26 : Nat → LoopInfo E := clL E 4 [] []
noncomputable def B26 : List (DVal E.T) → St E.T → Tree (Res E.T × St E.T) := dbody E (lookS S26) (lookD []) L26 0 false Tryz.f26
theorem B26_ok : FnOk Tryz.prog E 26 B26 := bodyC_ok sound mix S26_ok (SD := []) trivial (L := L26) (N := 0) (keep := false) Tryz.func26 rfl (by
  intro k g hg fr st out ho
  match k, hg with
  | _, hg => cases hg)
theorem F26 : (B26 [] []).get = N.ref7_NewState_k (fun x_ => some (.ret [.val (.named 4) (N.TState.mk [(N.TFile.mk [] 0 []), (N.TFile.mk [] 0 []), (N.TFile.mk [] 0 []), (N.TFile.mk [] 0 []), (N.TFile.mk [] 0 []), (N.TFile.mk [] 0 [])] [(N.TMark.mk 0 0 0 0), (N.TMark.mk 0 0 0 0), (N.TMark.mk 0 0 0 0)] 0)], [])) := by kernel_rfl
noncomputable def i26 : Ins E (Res E.T × St E.T) := ⟨[], [], .ret (.ret [.val (.named 4) (N.TState.mk [(N.TFile.mk [] 0 []), (N.TFile.mk [] 0 []), (N.TFile.mk [] 0 []), (N.TFile.mk [] 0 []), (N.TFile.mk [] 0 []), (N.TFile.mk [] 0 [])] [(N.TMark.mk 0 0 0 0), (N.TMark.mk 0 0 0 0), (N.TMark.mk 0 0 0 0)] 0)], [])⟩
theorem i26_ok : InsOk Tryz.prog 26 i26 := ⟨B26, B26_ok, by intro out_ h_; exact ((F26).trans (N.ref7_NewState_bind _)).trans h_⟩
noncomputable def P26 : Nat × D.Spec E := (26, .pure [] (pureF [i26]))
theorem p26 : SpecOk Tryz.prog E P26.1 P26.2 := pureI_ok Tryz.call26 ⟨i26_ok, trivial⟩
noncomputable def S27 : List (Nat × D.Spec E) := []
theorem S27_ok : AllS Tryz.prog E S27 := trivial
noncomputable def L27 : Nat → LoopInfo E := clL E 13 [] []
noncomputable def B27 : List (DVal E.T) → St E.T → Tree (Res E.T × St E.T) := tidyF (dbody E (lookS S27) (lookD []) L27 0 false Tryz.f27)
theorem B27_ok : FnOk Tryz.prog E 27 B27 := tidy_fn ok (bodyC_ok sound mix S27_ok (SD := []) trivial (L := L27) (N := 0) (keep := false) Tryz.func27 rfl (by
  intro k g hg fr st out ho
  match k, hg with
  | _, hg => cases hg))
theorem F27 (p : N.Ttenancymade_Picks) : (B27 [.ptr 0 []] [.box false (.val (.named 6) p)]).get = N.made_Picks_Over_k (fun x_ => some (.ret [.val .bool x_], [.box false (.val (.named 6) p)])) p := by kernel_rfl
noncomputable def i27 : Ins E (Res E.T × St E.T) := ⟨[.ptr 0 []], [.box false (.v (.named 6))], fun p => .ret (.ret [.val .bool (N.made_Picks_Over p)], [.box false (.val (.named 6) p)])⟩
theorem i27_ok : InsOk Tryz.prog 27 i27 := ⟨B27, B27_ok, by intro p out_ h_; exact ((F27 p).trans (N.made_Picks_Over_bind _ p)).trans h_⟩
noncomputable def P27 : Nat × D.Spec E := (27, .full [.ptr] false (fullF [i27]))
theorem p27 : SpecOk Tryz.prog E P27.1 P27.2 := fullI_ok ok Tryz.call27 ⟨i27_ok, trivial⟩
noncomputable def S28 : List (Nat × D.Spec E) := []
theorem S28_ok : AllS Tryz.prog E S28 := trivial
noncomputable def L28 : Nat → LoopInfo E := clL E 40 [] []
noncomputable def B28 : List (DVal E.T) → St E.T → Tree (Res E.T × St E.T) := tidyF (dbody E (lookS S28) (lookD []) L28 0 false Tryz.f28)
theorem B28_ok : FnOk Tryz.prog E 28 B28 := tidy_fn ok (bodyC_ok sound mix S28_ok (SD := []) trivial (L := L28) (N := 0) (keep := false) Tryz.func28 rfl (by
  intro k g hg fr st out ho
  match k, hg with
  | _, hg => cases hg))
theorem F28 (m : Int) (p : N.Ttenancymade_Picks) : (B28 [.ptr 0 [], .val (.int .i64) m] [.box false (.val (.named 6) p)]).get = N.made_Picks_Num_k (fun x_ => some (.ret [.val (.int .i64) x_.1], [.box false (.val (.named 6) x_.2)])) m p := by kernel_rfl
noncomputable def i28 : Ins E (Res E.T × St E.T) := ⟨[.ptr 0 [], .v (.int .i64)], [.box false (.v (.named 6))], fun m p => .opt (N.made_Picks_Num m p) fun x_ => .ret (.ret [.val (.int .i64) x_.1], [.box false (.val (.named 6) x_.2)])⟩
theorem i28_ok : InsOk Tryz.prog 28 i28 := ⟨B28, B28_ok, by intro m p out_ h_; exact ((F28 m p).trans (N.made_Picks_Num_bind _ m p)).trans h_⟩
noncomputable def P28 : Nat × D.Spec E := (28, .full [.ptr, .data (.int .i64)] false (fullF [i28]))
theorem p28 : SpecOk Tryz.prog E P28.1 P28.2 := fullI_ok ok Tryz.call28 ⟨i28_ok, trivial⟩
noncomputable def S29 : List (Nat × D.Spec E) := [P28]
theorem S29_ok : AllS Tryz.prog E S29 := ⟨p28, trivial⟩
noncomputable def L29 : Nat → LoopInfo E := clL E 8 [] []
noncomputable def B29 : List (DVal E.T) → St E.T → Tree (Res E.T × St E.T) := tidyF (dbody E (lookS S29) (lookD []) L29 0 false Tryz.f29)
theorem B29_ok : FnOk Tryz.prog E 29 B29 := tidy_fn ok (bodyC_ok sound mix S29_ok (SD := []) trivial (L := L29) (N := 0) (keep := false) Tryz.func29 rfl (by
  intro k g hg fr st out ho
  match k, hg with
  | _, hg => cases hg))
theorem F29 (p : N.Ttenancymade_Picks) : (B29 [.ptr 0 []] [.box false (.val (.named 6) p)]).get = N.made_Picks_Name_k (fun x_ => some (.ret [.val .str x_.1], [.box false (.val (.named 6) x_.2)])) p := by kernel_rfl
noncomputable def i29 : Ins E (Res E.T × St E.T) := ⟨[.ptr 0 []], [.box false (.v (.named 6))], fun p => .opt (N.made_Picks_Name p) fun x_ => .ret (.ret [.val .str x_.1], [.box false (.val (.named 6) x_.2)])⟩
theorem i29_ok : InsOk Tryz.prog 29 i29 := ⟨B29, B29_ok, by intro p out_ h_; exact ((F29 p).trans (N.made_Picks_Name_bind _ p)).trans h_⟩
noncomputable def P29 : Nat × D.Spec E := (29, .full [.ptr] false (fullF [i29]))
theorem p29 : SpecOk Tryz.prog E P29.1 P29.2 := fullI_ok ok Tryz.call29 ⟨i29_ok, trivial⟩
noncomputable def S33 : List (Nat × D.Spec E) := []
theorem S33_ok : AllS Tryz.prog E S33 := trivial
noncomputable def L33 : Nat → LoopInfo E := clL E 9 [] []
noncomputable def B33 : List (DVal E.T) → St E.T → Tree (Res E.T × St E.T) := dbody E (lookS S33) (lookD []) L33 0 false Tryz.f33
theorem B33_ok : FnOk Tryz.prog E 33 B33 := bodyC_ok sound mix S33_ok (SD := []) trivial (L := L33) (N := 0) (keep := false) Tryz.func33 rfl (by
  intro k g hg fr st out ho
  match k, hg with
  | _, hg => cases hg)
theorem F33 (s : N.TState) : (B33 [.val (.named 4) s] []).get = N.ref7_Boot_k (fun x_ => some (.ret [.val (.named 4) x_], [])) s := by kernel_rfl
noncomputable def i33 : Ins E (Res E.T × St E.T) := ⟨[.v (.named 4)], [], fun s => .ret (.ret [.val (.named 4) (N.ref7_Boot s)], [])⟩
theorem i33_ok : InsOk Tryz.prog 33 i33 := ⟨B33, B33_ok, by intro s out_ h_; exact ((F33 s).trans (N.ref7_Boot_bind _ s)).trans h_⟩
noncomputable def P33 : Nat × D.Spec E := (33, .pure [(.named 4)] (pureF [i33]))
theorem p33 : SpecOk Tryz.prog E P33.1 P33.2 := pureI_ok Tryz.call33 ⟨i33_ok, trivial⟩
noncomputable def S66 : List (Nat × D.Spec E) := [P28]
theorem S66_ok : AllS Tryz.prog E S66 := ⟨p28, trivial⟩
noncomputable def L66 : Nat → LoopInfo E := clL E 11 [] []
noncomputable def B66 : List (DVal E.T) → St E.T → Tree (Res E.T × St E.T) := tidyF (dbody E (lookS S66) (lookD []) L66 0 false Tryz.f66)
theorem B66_ok : FnOk Tryz.prog E 66 B66 := tidy_fn ok (bodyC_ok sound mix S66_ok (SD := []) trivial (L := L66) (N := 0) (keep := false) Tryz.func66 rfl (by
  intro k g hg fr st out ho
  match k, hg with
  | _, hg => cases hg))
theorem F66 (p : N.Ttenancymade_Picks) : (B66 [.ptr 0 []] [.box false (.val (.named 6) p)]).get = N.made_Picks_Write_k (fun x_ => some (.ret [.val (.named 7) x_.1], [.box false (.val (.named 6) x_.2)])) p := by kernel_rfl
noncomputable def i66 : Ins E (Res E.T × St E.T) := ⟨[.ptr 0 []], [.box false (.v (.named 6))], fun p => .opt (N.made_Picks_Write p) fun x_ => .ret (.ret [.val (.named 7) x_.1], [.box false (.val (.named 6) x_.2)])⟩
theorem i66_ok : InsOk Tryz.prog 66 i66 := ⟨B66, B66_ok, by intro p out_ h_; exact ((F66 p).trans (N.made_Picks_Write_bind _ p)).trans h_⟩
noncomputable def P66 : Nat × D.Spec E := (66, .full [.ptr] false (fullF [i66]))
theorem p66 : SpecOk Tryz.prog E P66.1 P66.2 := fullI_ok ok Tryz.call66 ⟨i66_ok, trivial⟩
noncomputable def S31 : List (Nat × D.Spec E) := [P28, P66]
theorem S31_ok : AllS Tryz.prog E S31 := ⟨p28, p66, trivial⟩
abbrev h31_s0 (i : Int) (p : N.Ttenancymade_Picks) (l : List N.TWrite) : Fr E.T := ofSlots E 21 [] [0, 5, 6] [.ptr 0 [], .own 1, .val (.int .i64) i]
abbrev t31_s0 (i : Int) (p : N.Ttenancymade_Picks) (l : List N.TWrite) : St E.T := [.box false (.val (.named 6) p), .arr .live (.named 7) l]
def x31_s0 (x_ : N.Ttenancymade_Picks × List N.TWrite) : Tree (CodeOut E) := .ret (.exit 0, ofSlots E 21 [] [4, 5] [.undef, .own 1], [.box false (.val (.named 6) x_.1), .arr .live (.named 7) x_.2])
noncomputable def g31_s0 : Ins E (CodeOut E) := ⟨[.ptr 0 [], .own 1, .v (.int .i64)], [.box false (.v (.named 6)), .arr .live (.named 7)], fun i p l => .opt (N.made_Picks_Writes_l0 N.fuel i p l) (x31_s0)⟩
noncomputable def L31 : Nat → LoopInfo E := clL E 21 [{ ks := [0, 5, 6], mvs := [], pro := [.pro (.slot 5) [] (.named 7)], d := [], g := some (insF [g31_s0]) }] []
theorem f31_s0 (i : Int) (p : N.Ttenancymade_Picks) (l : List N.TWrite) : ((stepOf E S31 L31 0 0 Tryz.f31 (h31_s0 i p l) (t31_s0 i p l)).bind (nx E [0, 5, 6] [] [4, 5] 2)).get = N.made_Picks_Writes_s0k (fun v_ => some (.inl (h31_s0 v_.1 v_.2.1 v_.2.2, t31_s0 v_.1 v_.2.1 v_.2.2))) (fun x_ => some (.inr (.exit 0, ofSlots E 21 [] [4, 5] [.undef, .own 1], [.box false (.val (.named 6) x_.1), .arr .live (.named 7) x_.2]))) i p l := by kernel_rfl
theorem q31_s0 : InsLp 21 [0, 5, 6] [] [] (stepOf E S31 L31 0 0 Tryz.f31) g31_s0 := by
  intro i p l out_ ho_
  obtain ⟨x_, h1_, h2_⟩ := Option.bind_eq_some_iff.1 ho_
  refine iter_loop (rs := [4, 5]) (step := N.made_Picks_Writes_s0) (hd := fun v_ => h31_s0 v_.1 v_.2.1 v_.2.2) (sv := fun v_ => t31_s0 v_.1 v_.2.1 v_.2.2) (ex := x31_s0) (fun v_ => ?_) N.fuel (i, p, l) h1_ h2_
  refine (f31_s0 v_.1 v_.2.1 v_.2.2).trans ((N.made_Picks_Writes_s0_bind _ _ v_.1 v_.2.1 v_.2.2).trans ?_)
  refine congrArg _ (funext fun s_ => ?_)
  rcases s_ with v_ | a <;> rfl
noncomputable def B31 : List (DVal E.T) → St E.T → Tree (Res E.T × St E.T) := tidyF (dbody E (lookS S31) (lookD []) L31 0 true Tryz.f31)
theorem B31_ok : FnOk Tryz.prog E 31 B31 := tidy_fn ok (bodyC_ok sound mix S31_ok (SD := []) trivial (L := L31) (N := 0) (keep := true) Tryz.func31 rfl (by
  intro k g hg fr st out ho
  match k, hg with
  | 0, hg => cases hg; exact lp_ok (allLp_cons q31_s0 (allLp_nil)) fr st out ho
  | _ + 1, hg => cases hg))
theorem F31 (most : Int) (p : N.Ttenancymade_Picks) : (B31 [.ptr 0 [], .val (.int .i64) most] [.box false (.val (.named 6) p)]).get = N.made_Picks_Writes_k N.fuel (fun x_ => some (.ret [.own 1], [.box false (.val (.named 6) x_.1), .arr .live (.named 7) x_.2])) most p := by kernel_rfl
noncomputable def i31 : Ins E (Res E.T × St E.T) := ⟨[.ptr 0 [], .v (.int .i64)], [.box false (.v (.named 6))], fun most p => .opt (N.made_Picks_Writes N.fuel most p) fun x_ => .ret (.ret [.own 1], [.box false (.val (.named 6) x_.1), .arr .live (.named 7) x_.2])⟩
theorem i31_ok : InsOk Tryz.prog 31 i31 := ⟨B31, B31_ok, by intro most p out_ h_; exact ((F31 most p).trans (N.made_Picks_Writes_bind N.fuel _ most p)).trans h_⟩
noncomputable def P31 : Nat × D.Spec E := (31, .full [.ptr, .data (.int .i64)] false (fullF [i31]))
theorem p31 : SpecOk Tryz.prog E P31.1 P31.2 := fullI_ok ok Tryz.call31 ⟨i31_ok, trivial⟩
noncomputable def S63 : List (Nat × D.Spec E) := []
theorem S63_ok : AllS Tryz.prog E S63 := trivial
noncomputable def L63 : Nat → LoopInfo E := clL E 24 [] []
noncomputable def B63 : List (DVal E.T) → St E.T → Tree (Res E.T × St E.T) := dbody E (lookS S63) (lookD []) L63 0 false Tryz.f63
theorem B63_ok : FnOk Tryz.prog E 63 B63 := bodyC_ok sound mix S63_ok (SD := []) trivial (L := L63) (N := 0) (keep := false) Tryz.func63 rfl (by
  intro k g hg fr st out ho
  match k, hg with
  | _, hg => cases hg)
theorem F63 (s : N.TState) (file : Int) : (B63 [.val (.named 4) s, .val (.int .i64) file] []).get = N.ref7_Is_k (fun x_ => some (.ret [.val .bool x_], [])) s file := by kernel_rfl
noncomputable def i63 : Ins E (Res E.T × St E.T) := ⟨[.v (.named 4), .v (.int .i64)], [], fun s file => .opt (N.ref7_Is s file) fun x_ => .ret (.ret [.val .bool x_], [])⟩
theorem i63_ok : InsOk Tryz.prog 63 i63 := ⟨B63, B63_ok, by intro s file out_ h_; exact ((F63 s file).trans (N.ref7_Is_bind _ s file)).trans h_⟩
noncomputable def P63 : Nat × D.Spec E := (63, .pure [(.named 4), (.int .i64)] (pureF [i63]))
theorem p63 : SpecOk Tryz.prog E P63.1 P63.2 := pureI_ok Tryz.call63 ⟨i63_ok, trivial⟩
end Go.Proofs.YtinbnobanikfmaaGreatDoor.S

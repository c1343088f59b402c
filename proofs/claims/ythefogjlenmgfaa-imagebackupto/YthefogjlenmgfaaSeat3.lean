/- The seat's functions, and the nice ones (1). -/
import Derived.Test.YthefogjlenmgfaaSeat1
import Derived.Test.YthefogjlenmgfaaSeat2
set_option linter.unusedVariables false
set_option maxRecDepth 100000
namespace Go.Proofs.Ythefogjlenmgfaa.I
open Go Go.Proofs.Ythefogjlenmgfaa.D

/-! tenancy/tenancyref7.NewState -/
noncomputable def S19 : List (Nat × D.Spec E) := []
theorem S19_ok : AllS Try.prog E S19 := trivial
noncomputable def L19 : Nat → LoopInfo E := clL E 4 [] []
noncomputable def B19 : List (DVal E.T) → St E.T → Tree (Res E.T × St E.T) := dbody E (lookS S19) (lookD []) L19 0 false Try.f19
theorem B19_ok : FnOk Try.prog E 19 B19 := bodyC_ok sound mix S19_ok (SD := []) trivial (L := L19) (N := 0) (keep := false) Try.func19 rfl (by
  intro k g hg fr st out ho
  match k, hg with
  | _, hg => cases hg)
theorem F19 : (B19 [] []).get = N.ref7_NewState_k (fun x_ => some (.ret [.val (.named 2) (N.TState.mk [(N.TFile.mk [] 0 []), (N.TFile.mk [] 0 []), (N.TFile.mk [] 0 []), (N.TFile.mk [] 0 []), (N.TFile.mk [] 0 []), (N.TFile.mk [] 0 [])] [(N.TMark.mk 0 0 0 0), (N.TMark.mk 0 0 0 0), (N.TMark.mk 0 0 0 0)] 0)], [])) := by kernel_rfl
noncomputable def i19 : Ins E (Res E.T × St E.T) := ⟨[], [], .ret (.ret [.val (.named 2) (N.TState.mk [(N.TFile.mk [] 0 []), (N.TFile.mk [] 0 []), (N.TFile.mk [] 0 []), (N.TFile.mk [] 0 []), (N.TFile.mk [] 0 []), (N.TFile.mk [] 0 [])] [(N.TMark.mk 0 0 0 0), (N.TMark.mk 0 0 0 0), (N.TMark.mk 0 0 0 0)] 0)], [])⟩
theorem i19_ok : InsOk Try.prog 19 i19 := ⟨B19, B19_ok, by intro out_ h_; exact ((F19).trans (N.ref7_NewState_bind _)).trans h_⟩
noncomputable def P19 : Nat × D.Spec E := (19, .pure [] (pureF [i19]))
theorem p19 : SpecOk Try.prog E P19.1 P19.2 := pureI_ok Try.call19 ⟨i19_ok, trivial⟩

/-! tenancy/state.number -/
noncomputable def S50 : List (Nat × D.Spec E) := []
theorem S50_ok : AllS Try.prog E S50 := trivial
noncomputable def L50 : Nat → LoopInfo E := clL E 9 [] []
noncomputable def B50 : List (DVal E.T) → St E.T → Tree (Res E.T × St E.T) := dbody E (lookS S50) (lookD []) L50 0 false Try.f50
theorem B50_ok : FnOk Try.prog E 50 B50 := bodyC_ok sound mix S50_ok (SD := []) trivial (L := L50) (N := 0) (keep := false) Try.func50 rfl (by
  intro k g hg fr st out ho
  match k, hg with
  | _, hg => cases hg)
theorem F50 (v : Int) : (B50 [.val (.int .i64) v] []).get = N.state_number_k (fun x_ => some (.ret [.val .bool x_], [])) v := by kernel_rfl
noncomputable def i50 : Ins E (Res E.T × St E.T) := ⟨[.v (.int .i64)], [], fun v => .ret (.ret [.val .bool (N.state_number v)], [])⟩
theorem i50_ok : InsOk Try.prog 50 i50 := ⟨B50, B50_ok, by intro v out_ h_; exact ((F50 v).trans (N.state_number_bind _ v)).trans h_⟩
noncomputable def P50 : Nat × D.Spec E := (50, .pure [(.int .i64)] (pureF [i50]))
theorem p50 : SpecOk Try.prog E P50.1 P50.2 := pureI_ok Try.call50 ⟨i50_ok, trivial⟩

/-! tenancy/dir.May -/
noncomputable def S68 : List (Nat × D.Spec E) := []
theorem S68_ok : AllS Try.prog E S68 := trivial
abbrev h68_s0 (name : List UInt8) (t7 : Int) (r0 : List UInt8) (t8 : Int) : Fr E.T := ofSlots E 27 [] [0, 6, 7, 8] [.val .str name, .own 0, .val (.int .i64) t7, .val (.int .i64) t8]
abbrev t68_s0 (name : List UInt8) (t7 : Int) (r0 : List UInt8) (t8 : Int) : St E.T := [.arr .live (.int .u8) r0]
def x68_s0 (name : List UInt8) (t7 : Int) (r0 : List UInt8) (x_ : Unit ⊕ Unit) : Tree (CodeOut E) := altT x_ (fun u0_ => .ret (.ret, ofSlots E 27 [] [0, 2] [.val .str name, .val .bool false], [.arr .live (.int .u8) r0])) (fun w0_ => .ret (.exit 0, ofSlots E 27 [] [0, 2] [.val .str name, .undef], [.arr .live (.int .u8) r0]))
noncomputable def g68_s0 : Ins E (CodeOut E) := ⟨[.v .str, .own 0, .v (.int .i64), .v (.int .i64)], [.arr .live (.int .u8)], fun name t7 t8 r0 => .opt (N.dir_May_l0 N.fuel name t7 r0 t8) (x68_s0 name t7 r0)⟩
noncomputable def L68 : Nat → LoopInfo E := clL E 27 [{ ks := [0, 6, 7, 8], mvs := [], pro := [], d := [], g := some (insF [g68_s0]) }] []
theorem f68_s0 (name : List UInt8) (t7 : Int) (r0 : List UInt8) (t8 : Int) : ((stepOf E S68 L68 0 0 Try.f68 (h68_s0 name t7 r0 t8) (t68_s0 name t7 r0 t8)).bind (nx E [0, 6, 7, 8] [] [0, 2] 1)).get = N.dir_May_s0k name t7 r0 (fun v_ => some (.inl (h68_s0 name t7 r0 v_, t68_s0 name t7 r0 v_))) (fun x_ => some (.inr (.ret, ofSlots E 27 [] [0, 2] [.val .str name, .val .bool false], [.arr .live (.int .u8) r0]))) (fun x_ => some (.inr (.exit 0, ofSlots E 27 [] [0, 2] [.val .str name, .undef], [.arr .live (.int .u8) r0]))) t8 := by kernel_rfl
theorem q68_s0 : InsLp 27 [0, 6, 7, 8] [] [] (stepOf E S68 L68 0 0 Try.f68) g68_s0 := by
  intro name t7 t8 r0 out_ ho_
  obtain ⟨x_, h1_, h2_⟩ := Option.bind_eq_some_iff.1 ho_
  refine iter_loop (rs := [0, 2]) (step := N.dir_May_s0 name t7 r0) (hd := fun v_ => h68_s0 name t7 r0 v_) (sv := fun v_ => t68_s0 name t7 r0 v_) (ex := x68_s0 name t7 r0) (fun v_ => ?_) N.fuel t8 h1_ h2_
  refine (f68_s0 name t7 r0 v_).trans ((N.dir_May_s0_bind name t7 r0 _ _ _ v_).trans ?_)
  refine congrArg _ (funext fun s_ => ?_)
  rcases s_ with v_ | a | a <;> rfl
noncomputable def B68 : List (DVal E.T) → St E.T → Tree (Res E.T × St E.T) := dbody E (lookS S68) (lookD []) L68 0 false Try.f68
theorem B68_ok : FnOk Try.prog E 68 B68 := bodyC_ok sound mix S68_ok (SD := []) trivial (L := L68) (N := 0) (keep := false) Try.func68 rfl (by
  intro k g hg fr st out ho
  match k, hg with
  | 0, hg => cases hg; exact lp_ok (allLp_cons q68_s0 (allLp_nil)) fr st out ho
  | _ + 1, hg => cases hg)
theorem F68 (name : List UInt8) : (B68 [.val .str name] []).get = N.dir_May_k N.fuel (fun x_ => some (.ret [.val .bool x_], [])) name := by kernel_rfl
noncomputable def i68 : Ins E (Res E.T × St E.T) := ⟨[.v .str], [], fun name => .opt (N.dir_May N.fuel name) fun x_ => .ret (.ret [.val .bool x_], [])⟩
theorem i68_ok : InsOk Try.prog 68 i68 := ⟨B68, B68_ok, by intro name out_ h_; exact ((F68 name).trans (N.dir_May_bind N.fuel _ name)).trans h_⟩
noncomputable def P68 : Nat × D.Spec E := (68, .pure [.str] (pureF [i68]))
theorem p68 : SpecOk Try.prog E P68.1 P68.2 := pureI_ok Try.call68 ⟨i68_ok, trivial⟩

/-! tenancy/state.mayFile -/
noncomputable def S52 : List (Nat × D.Spec E) := [P50, P68]
theorem S52_ok : AllS Try.prog E S52 := ⟨p50, p68, trivial⟩
noncomputable def L52 : Nat → LoopInfo E := clL E 28 [] []
noncomputable def B52 : List (DVal E.T) → St E.T → Tree (Res E.T × St E.T) := dbody E (lookS S52) (lookD []) L52 0 false Try.f52
theorem B52_ok : FnOk Try.prog E 52 B52 := bodyC_ok sound mix S52_ok (SD := []) trivial (L := L52) (N := 0) (keep := false) Try.func52 rfl (by
  intro k g hg fr st out ho
  match k, hg with
  | _, hg => cases hg)
theorem F52 (f : N.TFile) : (B52 [.val (.named 0) f] []).get = N.state_mayFile_k N.fuel (fun x_ => some (.ret [.val .bool x_], [])) f := by kernel_rfl
noncomputable def i52 : Ins E (Res E.T × St E.T) := ⟨[.v (.named 0)], [], fun f => .opt (N.state_mayFile N.fuel f) fun x_ => .ret (.ret [.val .bool x_], [])⟩
theorem i52_ok : InsOk Try.prog 52 i52 := ⟨B52, B52_ok, by intro f out_ h_; exact ((F52 f).trans (N.state_mayFile_bind N.fuel _ f)).trans h_⟩
noncomputable def P52 : Nat × D.Spec E := (52, .pure [(.named 0)] (pureF [i52]))
theorem p52 : SpecOk Try.prog E P52.1 P52.2 := pureI_ok Try.call52 ⟨i52_ok, trivial⟩

/-! tenancy/state.May$1 -/
noncomputable def S51 : List (Nat × D.Spec E) := []
theorem S51_ok : AllS Try.prog E S51 := trivial
noncomputable def L51 : Nat → LoopInfo E := clL E 14 [] []
noncomputable def B51 : List (DVal E.T) → St E.T → Tree (Res E.T × St E.T) := dbody E (lookS S51) (lookD []) L51 0 false Try.f51
theorem B51_ok : FnOk Try.prog E 51 B51 := bodyC_ok sound mix S51_ok (SD := []) trivial (L := L51) (N := 0) (keep := false) Try.func51 rfl (by
  intro k g hg fr st out ho
  match k, hg with
  | _, hg => cases hg)
theorem F51 (g : N.TFile) (o0 : N.TFile) : (B51 [.val (.named 0) g, .ptr 0 []] [.box true (.val (.named 0) o0)]).get = N.state_May_c1_k (fun x_ => some (.ret [.val .bool x_], [.box true (.val (.named 0) o0)])) g o0 := by kernel_rfl
noncomputable def i51 : Ins E (Res E.T × St E.T) := ⟨[.v (.named 0), .ptr 0 []], [.box true (.v (.named 0))], fun g o0 => .ret (.ret [.val .bool (N.state_May_c1 g o0)], [.box true (.val (.named 0) o0)])⟩
theorem i51_ok : InsOk Try.prog 51 i51 := ⟨B51, B51_ok, by intro g o0 out_ h_; exact ((F51 g o0).trans (N.state_May_c1_bind _ g o0)).trans h_⟩
noncomputable def P51 : Nat × D.Spec E := (51, .full [.data (.named 0), .ptr] true (fullF [i51]))
theorem p51 : SpecOk Try.prog E P51.1 P51.2 := fullI_ok ok Try.call51 ⟨i51_ok, trivial⟩

/-! slices.IndexFunc[[]tenancy/api.File,tenancy/api.File] -/
noncomputable def S69 : List (Nat × D.Spec E) := [P51]
theorem S69_ok : AllS Try.prog E S69 := ⟨p51, trivial⟩
abbrev h69_s0 (s : List N.TFile) (t7 : Int) (o0 : N.TFile) (t8 : Int) : Fr E.T := ofSlots E 19 [] [0, 1, 7, 8] [.val (.slice (.named 0)) s, .fn 51 [.ptr 0 []], .val (.int .i64) t7, .val (.int .i64) t8]
abbrev t69_s0 (s : List N.TFile) (t7 : Int) (o0 : N.TFile) (t8 : Int) : St E.T := [.box true (.val (.named 0) o0)]
def x69_s0 (s : List N.TFile) (t7 : Int) (o0 : N.TFile) (x_ : Int ⊕ Unit) : Tree (CodeOut E) := altT x_ (fun u0_ => .ret (.ret, ofSlots E 19 [] [4] [.val (.int .i64) u0_], [.box true (.val (.named 0) o0)])) (fun w0_ => .ret (.exit 0, ofSlots E 19 [] [4] [.undef], [.box true (.val (.named 0) o0)]))
noncomputable def g69_s0 : Ins E (CodeOut E) := ⟨[.v (.slice (.named 0)), .fn 51 [.ptr 0 []], .v (.int .i64), .v (.int .i64)], [.box true (.v (.named 0))], fun s t7 t8 o0 => .opt (N.slices_IndexFunc_File_l0 N.fuel s t7 o0 t8) (x69_s0 s t7 o0)⟩
noncomputable def L69 : Nat → LoopInfo E := clL E 19 [{ ks := [0, 1, 7, 8], mvs := [], pro := [], d := [], g := some (insF [g69_s0]) }] []
theorem f69_s0 (s : List N.TFile) (t7 : Int) (o0 : N.TFile) (t8 : Int) : ((stepOf E S69 L69 0 0 Try.f69 (h69_s0 s t7 o0 t8) (t69_s0 s t7 o0 t8)).bind (nx E [0, 1, 7, 8] [] [4] 1)).get = N.slices_IndexFunc_File_s0k s t7 o0 (fun v_ => some (.inl (h69_s0 s t7 o0 v_, t69_s0 s t7 o0 v_))) (fun x_ => some (.inr (.ret, ofSlots E 19 [] [4] [.val (.int .i64) x_], [.box true (.val (.named 0) o0)]))) (fun x_ => some (.inr (.exit 0, ofSlots E 19 [] [4] [.undef], [.box true (.val (.named 0) o0)]))) t8 := by kernel_rfl
theorem q69_s0 : InsLp 19 [0, 1, 7, 8] [] [] (stepOf E S69 L69 0 0 Try.f69) g69_s0 := by
  intro s t7 t8 o0 out_ ho_
  obtain ⟨x_, h1_, h2_⟩ := Option.bind_eq_some_iff.1 ho_
  refine iter_loop (rs := [4]) (step := N.slices_IndexFunc_File_s0 s t7 o0) (hd := fun v_ => h69_s0 s t7 o0 v_) (sv := fun v_ => t69_s0 s t7 o0 v_) (ex := x69_s0 s t7 o0) (fun v_ => ?_) N.fuel t8 h1_ h2_
  refine (f69_s0 s t7 o0 v_).trans ((N.slices_IndexFunc_File_s0_bind s t7 o0 _ _ _ v_).trans ?_)
  refine congrArg _ (funext fun s_ => ?_)
  rcases s_ with v_ | a | a <;> rfl
noncomputable def B69 : List (DVal E.T) → St E.T → Tree (Res E.T × St E.T) := dbody E (lookS S69) (lookD []) L69 0 false Try.f69
theorem B69_ok : FnOk Try.prog E 69 B69 := bodyC_ok sound mix S69_ok (SD := []) trivial (L := L69) (N := 0) (keep := false) Try.func69 rfl (by
  intro k g hg fr st out ho
  match k, hg with
  | 0, hg => cases hg; exact lp_ok (allLp_cons q69_s0 (allLp_nil)) fr st out ho
  | _ + 1, hg => cases hg)
theorem F69 (s : List N.TFile) (o0 : N.TFile) : (B69 [.val (.slice (.named 0)) s, .fn 51 [.ptr 0 []]] [.box true (.val (.named 0) o0)]).get = N.slices_IndexFunc_File_k N.fuel (fun x_ => some (.ret [.val (.int .i64) x_], [.box true (.val (.named 0) o0)])) s o0 := by kernel_rfl
noncomputable def i69 : Ins E (Res E.T × St E.T) := ⟨[.v (.slice (.named 0)), .fn 51 [.ptr 0 []]], [.box true (.v (.named 0))], fun s o0 => .opt (N.slices_IndexFunc_File N.fuel s o0) fun x_ => .ret (.ret [.val (.int .i64) x_], [.box true (.val (.named 0) o0)])⟩
theorem i69_ok : InsOk Try.prog 69 i69 := ⟨B69, B69_ok, by intro s o0 out_ h_; exact ((F69 s o0).trans (N.slices_IndexFunc_File_bind N.fuel _ s o0)).trans h_⟩
noncomputable def P69 : Nat × D.Spec E := (69, .full [.data (.slice (.named 0)), .func] true (fullF [i69]))
theorem p69 : SpecOk Try.prog E P69.1 P69.2 := fullI_ok ok Try.call69 ⟨i69_ok, trivial⟩

/-! slices.ContainsFunc[[]tenancy/api.File,tenancy/api.File] -/
noncomputable def S53 : List (Nat × D.Spec E) := [P69]
theorem S53_ok : AllS Try.prog E S53 := ⟨p69, trivial⟩
noncomputable def L53 : Nat → LoopInfo E := clL E 9 [] []
noncomputable def B53 : List (DVal E.T) → St E.T → Tree (Res E.T × St E.T) := dbody E (lookS S53) (lookD []) L53 0 false Try.f53
theorem B53_ok : FnOk Try.prog E 53 B53 := bodyC_ok sound mix S53_ok (SD := []) trivial (L := L53) (N := 0) (keep := false) Try.func53 rfl (by
  intro k g hg fr st out ho
  match k, hg with
  | _, hg => cases hg)
theorem F53 (s : List N.TFile) (o0 : N.TFile) : (B53 [.val (.slice (.named 0)) s, .fn 51 [.ptr 0 []]] [.box true (.val (.named 0) o0)]).get = N.slices_ContainsFunc_File_k N.fuel (fun x_ => some (.ret [.val .bool x_], [.box true (.val (.named 0) o0)])) s o0 := by kernel_rfl
noncomputable def i53 : Ins E (Res E.T × St E.T) := ⟨[.v (.slice (.named 0)), .fn 51 [.ptr 0 []]], [.box true (.v (.named 0))], fun s o0 => .opt (N.slices_ContainsFunc_File N.fuel s o0) fun x_ => .ret (.ret [.val .bool x_], [.box true (.val (.named 0) o0)])⟩
theorem i53_ok : InsOk Try.prog 53 i53 := ⟨B53, B53_ok, by intro s o0 out_ h_; exact ((F53 s o0).trans (N.slices_ContainsFunc_File_bind N.fuel _ s o0)).trans h_⟩
noncomputable def P53 : Nat × D.Spec E := (53, .full [.data (.slice (.named 0)), .func] true (fullF [i53]))
theorem p53 : SpecOk Try.prog E P53.1 P53.2 := fullI_ok ok Try.call53 ⟨i53_ok, trivial⟩

/-! tenancy/state.mayMark -/
noncomputable def S56 : List (Nat × D.Spec E) := [P50]
theorem S56_ok : AllS Try.prog E S56 := ⟨p50, trivial⟩
noncomputable def L56 : Nat → LoopInfo E := clL E 31 [] []
noncomputable def B56 : List (DVal E.T) → St E.T → Tree (Res E.T × St E.T) := dbody E (lookS S56) (lookD []) L56 0 false Try.f56
theorem B56_ok : FnOk Try.prog E 56 B56 := bodyC_ok sound mix S56_ok (SD := []) trivial (L := L56) (N := 0) (keep := false) Try.func56 rfl (by
  intro k g hg fr st out ho
  match k, hg with
  | _, hg => cases hg)
theorem F56 (m : N.TMark) : (B56 [.val (.named 1) m] []).get = N.state_mayMark_k (fun x_ => some (.ret [.val .bool x_], [])) m := by kernel_rfl
noncomputable def i56 : Ins E (Res E.T × St E.T) := ⟨[.v (.named 1)], [], fun m => .ret (.ret [.val .bool (N.state_mayMark m)], [])⟩
theorem i56_ok : InsOk Try.prog 56 i56 := ⟨B56, B56_ok, by intro m out_ h_; exact ((F56 m).trans (N.state_mayMark_bind _ m)).trans h_⟩
noncomputable def P56 : Nat × D.Spec E := (56, .pure [(.named 1)] (pureF [i56]))
theorem p56 : SpecOk Try.prog E P56.1 P56.2 := pureI_ok Try.call56 ⟨i56_ok, trivial⟩

/-! tenancy/state.May$2 -/
noncomputable def S55 : List (Nat × D.Spec E) := [P56]
theorem S55_ok : AllS Try.prog E S55 := ⟨p56, trivial⟩
noncomputable def L55 : Nat → LoopInfo E := clL E 6 [] []
noncomputable def B55 : List (DVal E.T) → St E.T → Tree (Res E.T × St E.T) := dbody E (lookS S55) (lookD []) L55 0 false Try.f55
theorem B55_ok : FnOk Try.prog E 55 B55 := bodyC_ok sound mix S55_ok (SD := []) trivial (L := L55) (N := 0) (keep := false) Try.func55 rfl (by
  intro k g hg fr st out ho
  match k, hg with
  | _, hg => cases hg)
theorem F55 (m : N.TMark) : (B55 [.val (.named 1) m] []).get = N.state_May_c2_k (fun x_ => some (.ret [.val .bool x_], [])) m := by kernel_rfl
noncomputable def i55 : Ins E (Res E.T × St E.T) := ⟨[.v (.named 1)], [], fun m => .ret (.ret [.val .bool (N.state_May_c2 m)], [])⟩
theorem i55_ok : InsOk Try.prog 55 i55 := ⟨B55, B55_ok, by intro m out_ h_; exact ((F55 m).trans (N.state_May_c2_bind _ m)).trans h_⟩
noncomputable def P55 : Nat × D.Spec E := (55, .pure [(.named 1)] (pureF [i55]))
theorem p55 : SpecOk Try.prog E P55.1 P55.2 := pureI_ok Try.call55 ⟨i55_ok, trivial⟩

/-! slices.IndexFunc[[]tenancy/api.Mark,tenancy/api.Mark] -/
noncomputable def S70 : List (Nat × D.Spec E) := [P55]
theorem S70_ok : AllS Try.prog E S70 := ⟨p55, trivial⟩
abbrev h70_s0 (s : List N.TMark) (t7 : Int) (t8 : Int) : Fr E.T := ofSlots E 19 [] [0, 1, 7, 8] [.val (.slice (.named 1)) s, .fn 55 [], .val (.int .i64) t7, .val (.int .i64) t8]
abbrev t70_s0 (s : List N.TMark) (t7 : Int) (t8 : Int) : St E.T := []
def x70_s0 (s : List N.TMark) (t7 : Int) (x_ : Int ⊕ Unit) : Tree (CodeOut E) := altT x_ (fun u0_ => .ret (.ret, ofSlots E 19 [] [4] [.val (.int .i64) u0_], [])) (fun w0_ => .ret (.exit 0, ofSlots E 19 [] [4] [.undef], []))
noncomputable def g70_s0 : Ins E (CodeOut E) := ⟨[.v (.slice (.named 1)), .fn 55 [], .v (.int .i64), .v (.int .i64)], [], fun s t7 t8 => .opt (N.slices_IndexFunc_Mark_l0 N.fuel s t7 t8) (x70_s0 s t7)⟩
noncomputable def L70 : Nat → LoopInfo E := clL E 19 [{ ks := [0, 1, 7, 8], mvs := [], pro := [], d := [], g := some (insF [g70_s0]) }] []
theorem f70_s0 (s : List N.TMark) (t7 : Int) (t8 : Int) : ((stepOf E S70 L70 0 0 Try.f70 (h70_s0 s t7 t8) (t70_s0 s t7 t8)).bind (nx E [0, 1, 7, 8] [] [4] 0)).get = N.slices_IndexFunc_Mark_s0k s t7 (fun v_ => some (.inl (h70_s0 s t7 v_, t70_s0 s t7 v_))) (fun x_ => some (.inr (.ret, ofSlots E 19 [] [4] [.val (.int .i64) x_], []))) (fun x_ => some (.inr (.exit 0, ofSlots E 19 [] [4] [.undef], []))) t8 := by kernel_rfl
theorem q70_s0 : InsLp 19 [0, 1, 7, 8] [] [] (stepOf E S70 L70 0 0 Try.f70) g70_s0 := by
  intro s t7 t8 out_ ho_
  obtain ⟨x_, h1_, h2_⟩ := Option.bind_eq_some_iff.1 ho_
  refine iter_loop (rs := [4]) (step := N.slices_IndexFunc_Mark_s0 s t7) (hd := fun v_ => h70_s0 s t7 v_) (sv := fun v_ => t70_s0 s t7 v_) (ex := x70_s0 s t7) (fun v_ => ?_) N.fuel t8 h1_ h2_
  refine (f70_s0 s t7 v_).trans ((N.slices_IndexFunc_Mark_s0_bind s t7 _ _ _ v_).trans ?_)
  refine congrArg _ (funext fun s_ => ?_)
  rcases s_ with v_ | a | a <;> rfl
noncomputable def B70 : List (DVal E.T) → St E.T → Tree (Res E.T × St E.T) := dbody E (lookS S70) (lookD []) L70 0 false Try.f70
theorem B70_ok : FnOk Try.prog E 70 B70 := bodyC_ok sound mix S70_ok (SD := []) trivial (L := L70) (N := 0) (keep := false) Try.func70 rfl (by
  intro k g hg fr st out ho
  match k, hg with
  | 0, hg => cases hg; exact lp_ok (allLp_cons q70_s0 (allLp_nil)) fr st out ho
  | _ + 1, hg => cases hg)
theorem F70 (s : List N.TMark) : (B70 [.val (.slice (.named 1)) s, .fn 55 []] []).get = N.slices_IndexFunc_Mark_k N.fuel (fun x_ => some (.ret [.val (.int .i64) x_], [])) s := by kernel_rfl
noncomputable def i70 : Ins E (Res E.T × St E.T) := ⟨[.v (.slice (.named 1)), .fn 55 []], [], fun s => .opt (N.slices_IndexFunc_Mark N.fuel s) fun x_ => .ret (.ret [.val (.int .i64) x_], [])⟩
theorem i70_ok : InsOk Try.prog 70 i70 := ⟨B70, B70_ok, by intro s out_ h_; exact ((F70 s).trans (N.slices_IndexFunc_Mark_bind N.fuel _ s)).trans h_⟩
noncomputable def P70 : Nat × D.Spec E := (70, .full [.data (.slice (.named 1)), .func] true (fullF [i70]))
theorem p70 : SpecOk Try.prog E P70.1 P70.2 := fullI_ok ok Try.call70 ⟨i70_ok, trivial⟩

/-! slices.ContainsFunc[[]tenancy/api.Mark,tenancy/api.Mark] -/
noncomputable def S54 : List (Nat × D.Spec E) := [P70]
theorem S54_ok : AllS Try.prog E S54 := ⟨p70, trivial⟩
noncomputable def L54 : Nat → LoopInfo E := clL E 9 [] []
noncomputable def B54 : List (DVal E.T) → St E.T → Tree (Res E.T × St E.T) := dbody E (lookS S54) (lookD []) L54 0 false Try.f54
theorem B54_ok : FnOk Try.prog E 54 B54 := bodyC_ok sound mix S54_ok (SD := []) trivial (L := L54) (N := 0) (keep := false) Try.func54 rfl (by
  intro k g hg fr st out ho
  match k, hg with
  | _, hg => cases hg)
theorem F54 (s : List N.TMark) : (B54 [.val (.slice (.named 1)) s, .fn 55 []] []).get = N.slices_ContainsFunc_Mark_k N.fuel (fun x_ => some (.ret [.val .bool x_], [])) s := by kernel_rfl
noncomputable def i54 : Ins E (Res E.T × St E.T) := ⟨[.v (.slice (.named 1)), .fn 55 []], [], fun s => .opt (N.slices_ContainsFunc_Mark N.fuel s) fun x_ => .ret (.ret [.val .bool x_], [])⟩
theorem i54_ok : InsOk Try.prog 54 i54 := ⟨B54, B54_ok, by intro s out_ h_; exact ((F54 s).trans (N.slices_ContainsFunc_Mark_bind N.fuel _ s)).trans h_⟩
noncomputable def P54 : Nat × D.Spec E := (54, .full [.data (.slice (.named 1)), .func] true (fullF [i54]))
theorem p54 : SpecOk Try.prog E P54.1 P54.2 := fullI_ok ok Try.call54 ⟨i54_ok, trivial⟩

/-! tenancy/state.May -/
noncomputable def S28 : List (Nat × D.Spec E) := [P50, P52, P53, P54]
theorem S28_ok : AllS Try.prog E S28 := ⟨p50, p52, p53, p54, trivial⟩
abbrev h28_s0 (t23 : List N.TFile) (t24 : Int) (s : N.TState) (t25 : Int) : Fr E.T := ofSlots E 47 [] [1, 23, 24, 25] [.ptr 0 [], .val (.slice (.named 0)) t23, .val (.int .i64) t24, .val (.int .i64) t25]
abbrev t28_s0 (t23 : List N.TFile) (t24 : Int) (s : N.TState) (t25 : Int) : St E.T := [.box false (.val (.named 2) s)]
def x28_s0 (t23 : List N.TFile) (t24 : Int) (s : N.TState) (x_ : N.TFile ⊕ Unit) : Tree (CodeOut E) := altT x_ (fun u0_ => .ret (.ret, ofSlots E 47 [] [1, 2] [.ptr 0 [], .val .bool false], [.box false (.val (.named 2) s), .box false (.val (.named 0) u0_)])) (fun w0_ => .ret (.exit 0, ofSlots E 47 [] [1, 2] [.ptr 0 [], .undef], [.box false (.val (.named 2) s)]))
noncomputable def g28_s0 : Ins E (CodeOut E) := ⟨[.ptr 0 [], .v (.slice (.named 0)), .v (.int .i64), .v (.int .i64)], [.box false (.v (.named 2))], fun t23 t24 t25 s => .opt (N.state_May_l0 N.fuel t23 t24 s t25) (x28_s0 t23 t24 s)⟩
noncomputable def L28 : Nat → LoopInfo E := clL E 47 [{ ks := [1, 23, 24, 25], mvs := [], pro := [], d := [], g := some (insF [g28_s0]) }] []
theorem f28_s0 (t23 : List N.TFile) (t24 : Int) (s : N.TState) (t25 : Int) : ((stepOf E S28 L28 0 0 Try.f28 (h28_s0 t23 t24 s t25) (t28_s0 t23 t24 s t25)).bind (nx E [1, 23, 24, 25] [] [1, 2] 1)).get = N.state_May_s0k N.fuel t23 t24 s (fun v_ => some (.inl (h28_s0 t23 t24 s v_, t28_s0 t23 t24 s v_))) (fun x_ => some (.inr (.ret, ofSlots E 47 [] [1, 2] [.ptr 0 [], .val .bool false], [.box false (.val (.named 2) s), .box false (.val (.named 0) x_)]))) (fun x_ => some (.inr (.exit 0, ofSlots E 47 [] [1, 2] [.ptr 0 [], .undef], [.box false (.val (.named 2) s)]))) t25 := by kernel_rfl
theorem q28_s0 : InsLp 47 [1, 23, 24, 25] [] [] (stepOf E S28 L28 0 0 Try.f28) g28_s0 := by
  intro t23 t24 t25 s out_ ho_
  obtain ⟨x_, h1_, h2_⟩ := Option.bind_eq_some_iff.1 ho_
  refine iter_loop (rs := [1, 2]) (step := N.state_May_s0 N.fuel t23 t24 s) (hd := fun v_ => h28_s0 t23 t24 s v_) (sv := fun v_ => t28_s0 t23 t24 s v_) (ex := x28_s0 t23 t24 s) (fun v_ => ?_) N.fuel t25 h1_ h2_
  refine (f28_s0 t23 t24 s v_).trans ((N.state_May_s0_bind N.fuel t23 t24 s _ _ _ v_).trans ?_)
  refine congrArg _ (funext fun s_ => ?_)
  rcases s_ with v_ | a | a <;> rfl
noncomputable def B28 : List (DVal E.T) → St E.T → Tree (Res E.T × St E.T) := dbody E (lookS S28) (lookD []) L28 0 false Try.f28
theorem B28_ok : FnOk Try.prog E 28 B28 := bodyC_ok sound mix S28_ok (SD := []) trivial (L := L28) (N := 0) (keep := false) Try.func28 rfl (by
  intro k g hg fr st out ho
  match k, hg with
  | 0, hg => cases hg; exact lp_ok (allLp_cons q28_s0 (allLp_nil)) fr st out ho
  | _ + 1, hg => cases hg)
theorem F28 (s : N.TState) : (B28 [.val (.named 2) s] []).get = N.state_May_k N.fuel (fun x_ => some (.ret [.val .bool x_], [])) s := by kernel_rfl
noncomputable def i28 : Ins E (Res E.T × St E.T) := ⟨[.v (.named 2)], [], fun s => .opt (N.state_May N.fuel s) fun x_ => .ret (.ret [.val .bool x_], [])⟩
theorem i28_ok : InsOk Try.prog 28 i28 := ⟨B28, B28_ok, by intro s out_ h_; exact ((F28 s).trans (N.state_May_bind N.fuel _ s)).trans h_⟩
noncomputable def P28 : Nat × D.Spec E := (28, .pure [(.named 2)] (pureF [i28]))
theorem p28 : SpecOk Try.prog E P28.1 P28.2 := pureI_ok Try.call28 ⟨i28_ok, trivial⟩

/-! slices.Clone[[]byte,byte] -/
def B57 : List (DVal E.T) → St E.T → Tree (Res E.T × St E.T) := cloneF E (.int .u8)
noncomputable def P57 : Nat × D.Spec E := (57, .full [.data (.slice (.int .u8))] false B57)
theorem cf57 : ∃ R0 C R id o1 o2, Try.f57.body = some (.seq R0 (.seq (.seq (.region id #[o1, o2] false) C) R)) ∧ (o1.op = .move (.tmp 0) ∧ o1.dst = some 3 ∧ o1.guard = none) ∧ (o2.op = .binOp .eql 22 (.tmp 3) (.const (.slice none 0 0)) 22 ∧ o2.dst = some 4 ∧ o2.guard = none) ∧
    CloneFacts E Try.f57 (.int .u8) R0 C R (fun xs => put E (frame E Try.f57 [.val (.slice (.int .u8)) xs]) (some 2) .nils) (fun xs => put E (put E (put E (put E (frame E Try.f57 [.val (.slice (.int .u8)) xs]) (some 2) .nils) (some 3) (.val (.slice (.int .u8)) xs)) (some 4) (.val .bool true)) (some 2) .nils) (fun xs n => put E (put E (put E (put E (put E (put E (put E (frame E Try.f57 [.val (.slice (.int .u8)) xs]) (some 2) .nils) (some 3) (.val (.slice (.int .u8)) xs)) (some 4) (.val .bool false)) (some 5) .nils) (some 6) (.val (.slice (.int .u8)) xs)) (some 7) (.own n)) (some 2) (.own n)) :=
  ⟨_, _, _, _, _, _, rfl, ⟨rfl, rfl, rfl⟩, ⟨rfl, rfl, rfl⟩, by
    constructor
    all_goals intros
    all_goals kernel_rfl⟩
theorem p57 : SpecOk Try.prog E P57.1 P57.2 := by
  obtain ⟨R0, C, R, id, o1, o2, hb, h1, h2, hF⟩ := cf57
  exact ⟨Try.call57, clone_fn sound mix Try.func57 hb h1 h2 ⟨_, Try.underlying22⟩ hF⟩

/-! tenancy/bits.Put -/
noncomputable def S29 : List (Nat × D.Spec E) := [P57]
theorem S29_ok : AllS Try.prog E S29 := ⟨p57, trivial⟩
abbrev h29_s0 (v : Int) (n : Int) (b : List UInt8) : Fr E.T := ofSlots E 31 [] [0, 1, 2] [.own 0, .val (.int .i64) v, .val (.int .i64) n]
abbrev t29_s0 (v : Int) (n : Int) (b : List UInt8) : St E.T := [.arr .live (.int .u8) b]
def x29_s0 (v : Int) (x_ : List UInt8) : Tree (CodeOut E) := .ret (.exit 0, ofSlots E 31 [] [0, 6] [.own 0, .undef], [.arr .live (.int .u8) x_])
noncomputable def g29_s0 : Ins E (CodeOut E) := ⟨[.own 0, .v (.int .i64), .v (.int .i64)], [.arr .live (.int .u8)], fun v n b => .opt (N.bits_Put_l0 N.fuel v n b) (x29_s0 v)⟩
noncomputable def L29 : Nat → LoopInfo E := clL E 31 [{ ks := [0, 1, 2], mvs := [], pro := [], d := [], g := some (insF [g29_s0]) }] []
theorem f29_s0 (v : Int) (n : Int) (b : List UInt8) : ((stepOf E S29 L29 0 0 Try.f29 (h29_s0 v n b) (t29_s0 v n b)).bind (nx E [0, 1, 2] [] [0, 6] 1)).get = N.bits_Put_s0k v (fun v_ => some (.inl (h29_s0 v v_.1 v_.2, t29_s0 v v_.1 v_.2))) (fun x_ => some (.inr (.exit 0, ofSlots E 31 [] [0, 6] [.own 0, .undef], [.arr .live (.int .u8) x_]))) n b := by kernel_rfl
theorem q29_s0 : InsLp 31 [0, 1, 2] [] [] (stepOf E S29 L29 0 0 Try.f29) g29_s0 := by
  intro v n b out_ ho_
  obtain ⟨x_, h1_, h2_⟩ := Option.bind_eq_some_iff.1 ho_
  refine iter_loop (rs := [0, 6]) (step := N.bits_Put_s0 v) (hd := fun v_ => h29_s0 v v_.1 v_.2) (sv := fun v_ => t29_s0 v v_.1 v_.2) (ex := x29_s0 v) (fun v_ => ?_) N.fuel (n, b) h1_ h2_
  refine (f29_s0 v v_.1 v_.2).trans ((N.bits_Put_s0_bind v _ _ v_.1 v_.2).trans ?_)
  refine congrArg _ (funext fun s_ => ?_)
  rcases s_ with v_ | a <;> rfl
noncomputable def B29 : List (DVal E.T) → St E.T → Tree (Res E.T × St E.T) := tidyF (dbody E (lookS S29) (lookD []) L29 0 true Try.f29)
theorem B29_ok : FnOk Try.prog E 29 B29 := tidy_fn ok (bodyC_ok sound mix S29_ok (SD := []) trivial (L := L29) (N := 0) (keep := true) Try.func29 rfl (by
  intro k g hg fr st out ho
  match k, hg with
  | 0, hg => cases hg; exact lp_ok (allLp_cons q29_s0 (allLp_nil)) fr st out ho
  | _ + 1, hg => cases hg))
theorem F29 (b : List UInt8) (v : Int) (n : Int) : (B29 [.val (.slice (.int .u8)) b, .val (.int .i64) v, .val (.int .i64) n] []).get = N.bits_Put_k N.fuel (fun x_ => some (.ret [.own 0], [.arr .live (.int .u8) x_])) b v n := by kernel_rfl
noncomputable def i29 : Ins E (Res E.T × St E.T) := ⟨[.v (.slice (.int .u8)), .v (.int .i64), .v (.int .i64)], [], fun b v n => .opt (N.bits_Put N.fuel b v n) fun x_ => .ret (.ret [.own 0], [.arr .live (.int .u8) x_])⟩
theorem i29_ok : InsOk Try.prog 29 i29 := ⟨B29, B29_ok, by intro b v n out_ h_; exact ((F29 b v n).trans (N.bits_Put_bind N.fuel _ b v n)).trans h_⟩
noncomputable def P29 : Nat × D.Spec E := (29, .full [.data (.slice (.int .u8)), .data (.int .i64), .data (.int .i64)] false (fullF [i29]))
theorem p29 : SpecOk Try.prog E P29.1 P29.2 := fullI_ok ok Try.call29 ⟨i29_ok, trivial⟩

/-! tenancy/bits.Text -/
noncomputable def S58 : List (Nat × D.Spec E) := [P57]
theorem S58_ok : AllS Try.prog E S58 := ⟨p57, trivial⟩
noncomputable def L58 : Nat → LoopInfo E := clL E 19 [] []
noncomputable def B58 : List (DVal E.T) → St E.T → Tree (Res E.T × St E.T) := tidyF (dbody E (lookS S58) (lookD []) L58 0 true Try.f58)
theorem B58_ok : FnOk Try.prog E 58 B58 := tidy_fn ok (bodyC_ok sound mix S58_ok (SD := []) trivial (L := L58) (N := 0) (keep := true) Try.func58 rfl (by
  intro k g hg fr st out ho
  match k, hg with
  | _, hg => cases hg))
theorem F58 (b : List UInt8) (s : List UInt8) : (B58 [.val (.slice (.int .u8)) b, .val .str s] []).get = N.bits_Text_k (fun x_ => some (.ret [.own 0], [.arr .live (.int .u8) x_])) b s := by kernel_rfl
noncomputable def i58 : Ins E (Res E.T × St E.T) := ⟨[.v (.slice (.int .u8)), .v .str], [], fun b s => .opt (N.bits_Text b s) fun x_ => .ret (.ret [.own 0], [.arr .live (.int .u8) x_])⟩
theorem i58_ok : InsOk Try.prog 58 i58 := ⟨B58, B58_ok, by intro b s out_ h_; exact ((F58 b s).trans (N.bits_Text_bind _ b s)).trans h_⟩
noncomputable def P58 : Nat × D.Spec E := (58, .full [.data (.slice (.int .u8)), .data .str] false (fullF [i58]))
theorem p58 : SpecOk Try.prog E P58.1 P58.2 := fullI_ok ok Try.call58 ⟨i58_ok, trivial⟩

/-! tenancy/image.padded -/
noncomputable def S30 : List (Nat × D.Spec E) := [P58]
theorem S30_ok : AllS Try.prog E S30 := ⟨p58, trivial⟩
noncomputable def L30 : Nat → LoopInfo E := clL E 16 [] []
noncomputable def B30 : List (DVal E.T) → St E.T → Tree (Res E.T × St E.T) := tidyF (dbody E (lookS S30) (lookD []) L30 0 true Try.f30)
theorem B30_ok : FnOk Try.prog E 30 B30 := tidy_fn ok (bodyC_ok sound mix S30_ok (SD := []) trivial (L := L30) (N := 0) (keep := true) Try.func30 rfl (by
  intro k g hg fr st out ho
  match k, hg with
  | _, hg => cases hg))
theorem F30 (b : List UInt8) (s : List UInt8) (n : Int) : (B30 [.val (.slice (.int .u8)) b, .val .str s, .val (.int .i64) n] []).get = N.image_padded_k (fun x_ => some (.ret [.own 0], [.arr .live (.int .u8) x_])) b s n := by kernel_rfl
noncomputable def i30 : Ins E (Res E.T × St E.T) := ⟨[.v (.slice (.int .u8)), .v .str, .v (.int .i64)], [], fun b s n => .opt (N.image_padded b s n) fun x_ => .ret (.ret [.own 0], [.arr .live (.int .u8) x_])⟩
theorem i30_ok : InsOk Try.prog 30 i30 := ⟨B30, B30_ok, by intro b s n out_ h_; exact ((F30 b s n).trans (N.image_padded_bind _ b s n)).trans h_⟩
noncomputable def P30 : Nat × D.Spec E := (30, .full [.data (.slice (.int .u8)), .data .str, .data (.int .i64)] false (fullF [i30]))
theorem p30 : SpecOk Try.prog E P30.1 P30.2 := fullI_ok ok Try.call30 ⟨i30_ok, trivial⟩

/-! tenancy/image.Put -/
noncomputable def S10 : List (Nat × D.Spec E) := [P28, P29, P30]
theorem S10_ok : AllS Try.prog E S10 := ⟨p28, p29, p30, trivial⟩
abbrev h10_s0 (t18 : List N.TMark) (t19 : Int) (s : N.TState) (t20 : Int) (b : List UInt8) : Fr E.T := ofSlots E 74 [] [1, 2, 3, 18, 19, 20] [.ptr 0 [], .nils, .own 1, .val (.slice (.named 1)) t18, .val (.int .i64) t19, .val (.int .i64) t20]
abbrev t10_s0 (t18 : List N.TMark) (t19 : Int) (s : N.TState) (t20 : Int) (b : List UInt8) : St E.T := [.box false (.val (.named 2) s), .arr .live (.int .u8) b]
def x10_s0 (t18 : List N.TMark) (t19 : Int) (s : N.TState) (x_ : List UInt8) : Tree (CodeOut E) := .ret (.exit 0, ofSlots E 74 [] [1, 2, 3] [.ptr 0 [], .nils, .own 1], [.box false (.val (.named 2) s), .arr .live (.int .u8) x_])
noncomputable def g10_s0 : Ins E (CodeOut E) := ⟨[.ptr 0 [], .nils, .own 1, .v (.slice (.named 1)), .v (.int .i64), .v (.int .i64)], [.box false (.v (.named 2)), .arr .live (.int .u8)], fun t18 t19 t20 s b => .opt (N.image_Put_l0 N.fuel t18 t19 s t20 b) (x10_s0 t18 t19 s)⟩
abbrev h10_s1 (t39 : List N.TFile) (t40 : Int) (o0 : N.TState) (t41 : Int) (b : List UInt8) : Fr E.T := ofSlots E 74 [] [2, 3, 39, 40, 41] [.nils, .own 1, .val (.slice (.named 0)) t39, .val (.int .i64) t40, .val (.int .i64) t41]
abbrev t10_s1 (t39 : List N.TFile) (t40 : Int) (o0 : N.TState) (t41 : Int) (b : List UInt8) : St E.T := [.box false (.val (.named 2) o0), .arr .live (.int .u8) b]
def x10_s1 (t39 : List N.TFile) (t40 : Int) (o0 : N.TState) (x_ : List UInt8) : Tree (CodeOut E) := .ret (.exit 2, ofSlots E 74 [] [2, 3] [.nils, .own 1], [.box false (.val (.named 2) o0), .arr .live (.int .u8) x_])
noncomputable def g10_s1 : Ins E (CodeOut E) := ⟨[.nils, .own 1, .v (.slice (.named 0)), .v (.int .i64), .v (.int .i64)], [.box false (.v (.named 2)), .arr .live (.int .u8)], fun t39 t40 t41 o0 b => .opt (N.image_Put_l1 N.fuel t39 t40 o0 t41 b) (x10_s1 t39 t40 o0)⟩
noncomputable def L10 : Nat → LoopInfo E := clL E 74 [{ ks := [1, 2, 3, 18, 19, 20], mvs := [(3, 1)], pro := [], d := [], g := some (insF [g10_s0]) }, { ks := [2, 3, 39, 40, 41], mvs := [(3, 1)], pro := [], d := [], g := some (insF [g10_s1]) }] []
theorem f10_s0 (t18 : List N.TMark) (t19 : Int) (s : N.TState) (t20 : Int) (b : List UInt8) : ((stepOf E S10 L10 0 0 Try.f10 (h10_s0 t18 t19 s t20 b) (t10_s0 t18 t19 s t20 b)).bind (nx E [1, 2, 3, 18, 19, 20] [(3, 1)] [1, 2, 3] 2)).get = N.image_Put_s0k N.fuel t18 t19 s (fun v_ => some (.inl (h10_s0 t18 t19 s v_.1 v_.2, t10_s0 t18 t19 s v_.1 v_.2))) (fun x_ => some (.inr (.exit 0, ofSlots E 74 [] [1, 2, 3] [.ptr 0 [], .nils, .own 1], [.box false (.val (.named 2) s), .arr .live (.int .u8) x_]))) t20 b := by kernel_rfl
theorem q10_s0 : InsLp 74 [1, 2, 3, 18, 19, 20] [(3, 1)] [] (stepOf E S10 L10 0 0 Try.f10) g10_s0 := by
  intro t18 t19 t20 s b out_ ho_
  obtain ⟨x_, h1_, h2_⟩ := Option.bind_eq_some_iff.1 ho_
  refine iter_loop (rs := [1, 2, 3]) (step := N.image_Put_s0 N.fuel t18 t19 s) (hd := fun v_ => h10_s0 t18 t19 s v_.1 v_.2) (sv := fun v_ => t10_s0 t18 t19 s v_.1 v_.2) (ex := x10_s0 t18 t19 s) (fun v_ => ?_) N.fuel (t20, b) h1_ h2_
  refine (f10_s0 t18 t19 s v_.1 v_.2).trans ((N.image_Put_s0_bind N.fuel t18 t19 s _ _ v_.1 v_.2).trans ?_)
  refine congrArg _ (funext fun s_ => ?_)
  rcases s_ with v_ | a <;> rfl
theorem f10_s1 (t39 : List N.TFile) (t40 : Int) (o0 : N.TState) (t41 : Int) (b : List UInt8) : ((stepOf E S10 L10 0 1 Try.f10 (h10_s1 t39 t40 o0 t41 b) (t10_s1 t39 t40 o0 t41 b)).bind (nx E [2, 3, 39, 40, 41] [(3, 1)] [2, 3] 2)).get = N.image_Put_s1k N.fuel t39 t40 o0 (fun v_ => some (.inl (h10_s1 t39 t40 o0 v_.1 v_.2, t10_s1 t39 t40 o0 v_.1 v_.2))) (fun x_ => some (.inr (.exit 2, ofSlots E 74 [] [2, 3] [.nils, .own 1], [.box false (.val (.named 2) o0), .arr .live (.int .u8) x_]))) t41 b := by kernel_rfl
theorem q10_s1 : InsLp 74 [2, 3, 39, 40, 41] [(3, 1)] [] (stepOf E S10 L10 0 1 Try.f10) g10_s1 := by
  intro t39 t40 t41 o0 b out_ ho_
  obtain ⟨x_, h1_, h2_⟩ := Option.bind_eq_some_iff.1 ho_
  refine iter_loop (rs := [2, 3]) (step := N.image_Put_s1 N.fuel t39 t40 o0) (hd := fun v_ => h10_s1 t39 t40 o0 v_.1 v_.2) (sv := fun v_ => t10_s1 t39 t40 o0 v_.1 v_.2) (ex := x10_s1 t39 t40 o0) (fun v_ => ?_) N.fuel (t41, b) h1_ h2_
  refine (f10_s1 t39 t40 o0 v_.1 v_.2).trans ((N.image_Put_s1_bind N.fuel t39 t40 o0 _ _ v_.1 v_.2).trans ?_)
  refine congrArg _ (funext fun s_ => ?_)
  rcases s_ with v_ | a <;> rfl
noncomputable def B10 : List (DVal E.T) → St E.T → Tree (Res E.T × St E.T) := dbodyR E (lookS S10) L10 0 6 3 Try.f10
theorem B10_ok : FnOk Try.prog E 10 B10 := dbodyR_ok sound mix S10_ok (L := L10) (N := 0) (m := 6) (q := 3) Try.func10 rfl (by kernel_rfl) (by
  intro k g hg fr st out ho
  match k, hg with
  | 0, hg => cases hg; exact lp_ok (allLp_cons q10_s0 (allLp_nil)) fr st out ho
  | 1, hg => cases hg; exact lp_ok (allLp_cons q10_s1 (allLp_nil)) fr st out ho
  | _ + 2, hg => cases hg) tailPut
theorem F10 (s : N.TState) : (B10 [.val (.named 2) s] []).get = N.image_Put_k N.fuel (fun x_ => some (.ret [.val (.slice .str) x_], [])) s := by kernel_rfl
noncomputable def i10 : Ins E (Res E.T × St E.T) := ⟨[.v (.named 2)], [], fun s => .opt (N.image_Put N.fuel s) fun x_ => .ret (.ret [.val (.slice .str) x_], [])⟩
theorem i10_ok : InsOk Try.prog 10 i10 := ⟨B10, B10_ok, by intro s out_ h_; exact ((F10 s).trans (N.image_Put_bind N.fuel _ s)).trans h_⟩
noncomputable def P10 : Nat × D.Spec E := (10, .pure [(.named 2)] (pureF [i10]))
theorem p10 : SpecOk Try.prog E P10.1 P10.2 := pureI_ok Try.call10 ⟨i10_ok, trivial⟩

/-! tenancy/bits.front -/
noncomputable def S78 : List (Nat × D.Spec E) := []
theorem S78_ok : AllS Try.prog E S78 := trivial
noncomputable def L78 : Nat → LoopInfo E := clL E 14 [] []
noncomputable def B78 : List (DVal E.T) → St E.T → Tree (Res E.T × St E.T) := dbody E (lookS S78) (lookD []) L78 0 false Try.f78
theorem B78_ok : FnOk Try.prog E 78 B78 := bodyC_ok sound mix S78_ok (SD := []) trivial (L := L78) (N := 0) (keep := false) Try.func78 rfl (by
  intro k g hg fr st out ho
  match k, hg with
  | _, hg => cases hg)
theorem F78 (b : List UInt8) (n : Int) : (B78 [.val (.slice (.int .u8)) b, .val (.int .i64) n] []).get = N.bits_front_k (fun x_ => some (.ret [.val (.slice (.int .u8)) x_], [])) (fun x_ => some (.panic (.ifc 122 (.val (.named 6) N.TNil0.mk)), [])) b n := by kernel_rfl
noncomputable def i78 : Ins E (Res E.T × St E.T) := ⟨[.v (.slice (.int .u8)), .v (.int .i64)], [], fun b n => .opt (N.bits_front b n) fun x_ => altT x_ (fun u0_ => .ret (.ret [.val (.slice (.int .u8)) u0_], [])) (fun w0_ => .ret (.panic (.ifc 122 (.val (.named 6) N.TNil0.mk)), []))⟩
theorem i78_ok : InsOk Try.prog 78 i78 := ⟨B78, B78_ok, by intro b n out_ h_; exact ((F78 b n).trans (N.bits_front_bind _ _ b n)).trans h_⟩
noncomputable def P78 : Nat × D.Spec E := (78, .pure [(.slice (.int .u8)), (.int .i64)] (pureF [i78]))
theorem p78 : SpecOk Try.prog E P78.1 P78.2 := pureI_ok Try.call78 ⟨i78_ok, trivial⟩

/-! tenancy/bits.caught -/
noncomputable def S77 : List (Nat × D.Spec E) := []
theorem S77_ok : AllS Try.prog E S77 := trivial
noncomputable def L77 : Nat → LoopInfo E := clL E 18 [] []
noncomputable def B77 : DSpec E := dbodyD E (lookS S77) L77 0 Try.f77
theorem p77 : DSpecOk Try.prog E 77 B77 := dfullD_ok sound mix S77_ok (L := L77) (fun _ => rfl) Try.call77 Try.func77 rfl

/-! tenancy/bits.Take -/
noncomputable def S73 : List (Nat × D.Spec E) := [P78]
theorem S73_ok : AllS Try.prog E S73 := ⟨p78, trivial⟩
noncomputable def D73 : List (Nat × DSpec E) := [(77, B77)]
theorem D73_ok : AllD Try.prog E D73 := ⟨p77, trivial⟩
abbrev h73_s0 (t16 : List UInt8) (t17 : Int) (ok : Bool) (v : Int) (t18 : Int) : Fr E.T := ofSlots E 29 [(77, [.ptr 0 []])] [4, 5, 16, 17, 18] [.val (.int .i64) v, .ptr 0 [], .val (.slice (.int .u8)) t16, .val (.int .i64) t17, .val (.int .i64) t18]
abbrev t73_s0 (t16 : List UInt8) (t17 : Int) (ok : Bool) (v : Int) (t18 : Int) : St E.T := [.box false (.val .bool ok)]
def x73_s0 (t16 : List UInt8) (t17 : Int) (ok : Bool) (x_ : Int) : Tree (CodeOut E) := .ret (.exit 0, ofSlots E 29 [(77, [.ptr 0 []])] [4, 5] [.val (.int .i64) x_, .ptr 0 []], [.box false (.val .bool ok)])
noncomputable def g73_s0 : Ins E (CodeOut E) := ⟨[.v (.int .i64), .ptr 0 [], .v (.slice (.int .u8)), .v (.int .i64), .v (.int .i64)], [.box false (.v .bool)], fun v t16 t17 t18 ok => .opt (N.bits_Take_l0 N.fuel t16 t17 ok v t18) (x73_s0 t16 t17 ok)⟩
noncomputable def L73 : Nat → LoopInfo E := clL E 29 [{ ks := [4, 5, 16, 17, 18], mvs := [], pro := [], d := [(77, [.ptr 0 []])], g := some (insF [g73_s0]) }] []
theorem f73_s0 (t16 : List UInt8) (t17 : Int) (ok : Bool) (v : Int) (t18 : Int) : ((stepOf E S73 L73 0 0 Try.f73 (h73_s0 t16 t17 ok v t18) (t73_s0 t16 t17 ok v t18)).bind (nx E [4, 5, 16, 17, 18] [] [4, 5] 1)).get = N.bits_Take_s0k t16 t17 ok (fun v_ => some (.inl (h73_s0 t16 t17 ok v_.1 v_.2, t73_s0 t16 t17 ok v_.1 v_.2))) (fun x_ => some (.inr (.exit 0, ofSlots E 29 [(77, [.ptr 0 []])] [4, 5] [.val (.int .i64) x_, .ptr 0 []], [.box false (.val .bool ok)]))) v t18 := by kernel_rfl
theorem q73_s0 : InsLp 29 [4, 5, 16, 17, 18] [] [(77, [.ptr 0 []])] (stepOf E S73 L73 0 0 Try.f73) g73_s0 := by
  intro v t16 t17 t18 ok out_ ho_
  obtain ⟨x_, h1_, h2_⟩ := Option.bind_eq_some_iff.1 ho_
  refine iter_loop (rs := [4, 5]) (step := N.bits_Take_s0 t16 t17 ok) (hd := fun v_ => h73_s0 t16 t17 ok v_.1 v_.2) (sv := fun v_ => t73_s0 t16 t17 ok v_.1 v_.2) (ex := x73_s0 t16 t17 ok) (fun v_ => ?_) N.fuel (v, t18) h1_ h2_
  refine (f73_s0 t16 t17 ok v_.1 v_.2).trans ((N.bits_Take_s0_bind t16 t17 ok _ _ v_.1 v_.2).trans ?_)
  refine congrArg _ (funext fun s_ => ?_)
  rcases s_ with v_ | a <;> rfl
noncomputable def B73 : List (DVal E.T) → St E.T → Tree (Res E.T × St E.T) := dbody E (lookS S73) (lookD D73) L73 0 false Try.f73
theorem B73_ok : FnOk Try.prog E 73 B73 := bodyC_ok sound mix S73_ok (SD := D73) D73_ok (L := L73) (N := 0) (keep := false) Try.func73 rfl (by
  intro k g hg fr st out ho
  match k, hg with
  | 0, hg => cases hg; exact lp_ok (allLp_cons q73_s0 (allLp_nil)) fr st out ho
  | _ + 1, hg => cases hg)
theorem F73 (b : List UInt8) (n : Int) : (B73 [.val (.slice (.int .u8)) b, .val (.int .i64) n] []).get = N.bits_Take_k N.fuel (fun x_ => some (.ret [.val (.int .i64) x_.1, .val .bool x_.2], [])) b n := by kernel_rfl
noncomputable def i73 : Ins E (Res E.T × St E.T) := ⟨[.v (.slice (.int .u8)), .v (.int .i64)], [], fun b n => .opt (N.bits_Take N.fuel b n) fun x_ => .ret (.ret [.val (.int .i64) x_.1, .val .bool x_.2], [])⟩
theorem i73_ok : InsOk Try.prog 73 i73 := ⟨B73, B73_ok, by intro b n out_ h_; exact ((F73 b n).trans (N.bits_Take_bind N.fuel _ b n)).trans h_⟩
noncomputable def P73 : Nat × D.Spec E := (73, .pure [(.slice (.int .u8)), (.int .i64)] (pureF [i73]))
theorem p73 : SpecOk Try.prog E P73.1 P73.2 := pureI_ok Try.call73 ⟨i73_ok, trivial⟩

/-! (*tenancy/image.reader).num -/
noncomputable def S64 : List (Nat × D.Spec E) := [P73]
theorem S64_ok : AllS Try.prog E S64 := ⟨p73, trivial⟩
noncomputable def L64 : Nat → LoopInfo E := clL E 30 [] []
noncomputable def B64 : List (DVal E.T) → St E.T → Tree (Res E.T × St E.T) := tidyF (dbody E (lookS S64) (lookD []) L64 0 false Try.f64)
theorem B64_ok : FnOk Try.prog E 64 B64 := tidy_fn ok (bodyC_ok sound mix S64_ok (SD := []) trivial (L := L64) (N := 0) (keep := false) Try.func64 rfl (by
  intro k g hg fr st out ho
  match k, hg with
  | _, hg => cases hg))
theorem F64 (n : Int) (a1_ : List UInt8) : (B64 [.ptr 0 [], .val (.int .i64) n] [.box false (.agg 7 [.own 1]), .arr .live (.int .u8) a1_]).get = N.image_reader_num_k N.fuel (fun x_ => some (.ret [.val (.int .i64) x_.1], [.box false (.val (.named 7) x_.2.1), .arr .froz (.int .u8) x_.2.2])) (fun x_ => some (.panic (.ifc 73 (.val (.named 6) N.TNil0.mk)), [.box false (.agg 7 [.own 1]), .arr .live (.int .u8) a1_])) n (N.Timage_reader.mk a1_) := by kernel_rfl
noncomputable def i64 : Ins E (Res E.T × St E.T) := ⟨[.ptr 0 [], .v (.int .i64)], [.box false (.agg 7 [.own 1]), .arr .live (.int .u8)], fun n a1_ => .opt (N.image_reader_num N.fuel n (N.Timage_reader.mk a1_)) fun x_ => altT x_ (fun u0_ => .ret (.ret [.val (.int .i64) u0_.1], [.box false (.val (.named 7) u0_.2.1), .arr .froz (.int .u8) u0_.2.2])) (fun w0_ => .ret (.panic (.ifc 73 (.val (.named 6) N.TNil0.mk)), [.box false (.agg 7 [.own 1]), .arr .live (.int .u8) a1_]))⟩
theorem i64_ok : InsOk Try.prog 64 i64 := ⟨B64, B64_ok, by intro n a1_ out_ h_; exact ((F64 n a1_).trans (N.image_reader_num_bind N.fuel _ _ n (N.Timage_reader.mk a1_))).trans h_⟩
noncomputable def S64a : List (Nat × D.Spec E) := [P73]
theorem S64a_ok : AllS Try.prog E S64a := ⟨p73, trivial⟩
noncomputable def L64a : Nat → LoopInfo E := clL E 30 [] []
noncomputable def B64a : List (DVal E.T) → St E.T → Tree (Res E.T × St E.T) := tidyF (dbody E (lookS S64a) (lookD []) L64a 0 false Try.f64)
theorem B64a_ok : FnOk Try.prog E 64 B64a := tidy_fn ok (bodyC_ok sound mix S64a_ok (SD := []) trivial (L := L64a) (N := 0) (keep := false) Try.func64 rfl (by
  intro k g hg fr st out ho
  match k, hg with
  | _, hg => cases hg))
theorem F64a (n : Int) (r : N.Timage_reader) : (B64a [.ptr 0 [], .val (.int .i64) n] [.box false (.val (.named 7) r)]).get = N.image_reader_num_2_k N.fuel (fun x_ => some (.ret [.val (.int .i64) x_.1], [.box false (.val (.named 7) x_.2)])) (fun x_ => some (.panic (.ifc 73 (.val (.named 6) N.TNil0.mk)), [.box false (.val (.named 7) r)])) n r := by kernel_rfl
noncomputable def i64a : Ins E (Res E.T × St E.T) := ⟨[.ptr 0 [], .v (.int .i64)], [.box false (.v (.named 7))], fun n r => .opt (N.image_reader_num_2 N.fuel n r) fun x_ => altT x_ (fun u0_ => .ret (.ret [.val (.int .i64) u0_.1], [.box false (.val (.named 7) u0_.2)])) (fun w0_ => .ret (.panic (.ifc 73 (.val (.named 6) N.TNil0.mk)), [.box false (.val (.named 7) r)]))⟩
theorem i64a_ok : InsOk Try.prog 64 i64a := ⟨B64a, B64a_ok, by intro n r out_ h_; exact ((F64a n r).trans (N.image_reader_num_2_bind N.fuel _ _ n r)).trans h_⟩
noncomputable def P64 : Nat × D.Spec E := (64, .full [.ptr, .data (.int .i64)] false (fullF [i64, i64a]))
theorem p64 : SpecOk Try.prog E P64.1 P64.2 := fullI_ok ok Try.call64 ⟨i64_ok, i64a_ok, trivial⟩

/-! tenancy/bits.TakeText -/
noncomputable def S74 : List (Nat × D.Spec E) := [P78]
theorem S74_ok : AllS Try.prog E S74 := ⟨p78, trivial⟩
noncomputable def D74 : List (Nat × DSpec E) := [(77, B77)]
theorem D74_ok : AllD Try.prog E D74 := ⟨p77, trivial⟩
noncomputable def L74 : Nat → LoopInfo E := clL E 20 [] []
noncomputable def B74 : List (DVal E.T) → St E.T → Tree (Res E.T × St E.T) := dbody E (lookS S74) (lookD D74) L74 0 false Try.f74
theorem B74_ok : FnOk Try.prog E 74 B74 := bodyC_ok sound mix S74_ok (SD := D74) D74_ok (L := L74) (N := 0) (keep := false) Try.func74 rfl (by
  intro k g hg fr st out ho
  match k, hg with
  | _, hg => cases hg)
theorem F74 (b : List UInt8) : (B74 [.val (.slice (.int .u8)) b] []).get = N.bits_TakeText_k (fun x_ => some (.ret [.val .str x_.1, .val (.int .i64) x_.2.1, .val .bool x_.2.2], [])) b := by kernel_rfl
noncomputable def i74 : Ins E (Res E.T × St E.T) := ⟨[.v (.slice (.int .u8))], [], fun b => .opt (N.bits_TakeText b) fun x_ => .ret (.ret [.val .str x_.1, .val (.int .i64) x_.2.1, .val .bool x_.2.2], [])⟩
theorem i74_ok : InsOk Try.prog 74 i74 := ⟨B74, B74_ok, by intro b out_ h_; exact ((F74 b).trans (N.bits_TakeText_bind _ b)).trans h_⟩
noncomputable def P74 : Nat × D.Spec E := (74, .pure [(.slice (.int .u8))] (pureF [i74]))
theorem p74 : SpecOk Try.prog E P74.1 P74.2 := pureI_ok Try.call74 ⟨i74_ok, trivial⟩

/-! (*tenancy/image.reader).text -/
noncomputable def S65 : List (Nat × D.Spec E) := [P74]
theorem S65_ok : AllS Try.prog E S65 := ⟨p74, trivial⟩
noncomputable def L65 : Nat → LoopInfo E := clL E 45 [] []
noncomputable def B65 : List (DVal E.T) → St E.T → Tree (Res E.T × St E.T) := tidyF (dbody E (lookS S65) (lookD []) L65 0 false Try.f65)
theorem B65_ok : FnOk Try.prog E 65 B65 := tidy_fn ok (bodyC_ok sound mix S65_ok (SD := []) trivial (L := L65) (N := 0) (keep := false) Try.func65 rfl (by
  intro k g hg fr st out ho
  match k, hg with
  | _, hg => cases hg))
theorem F65 (n : Int) (r : N.Timage_reader) : (B65 [.ptr 0 [], .val (.int .i64) n] [.box false (.val (.named 7) r)]).get = N.image_reader_text_k (fun x_ => some (.ret [.val .str x_.1], [.box false (.val (.named 7) x_.2)])) (fun x_ => some (.panic (.ifc 73 (.val (.named 6) N.TNil0.mk)), [.box false (.val (.named 7) r)])) n r := by kernel_rfl
noncomputable def i65 : Ins E (Res E.T × St E.T) := ⟨[.ptr 0 [], .v (.int .i64)], [.box false (.v (.named 7))], fun n r => .opt (N.image_reader_text n r) fun x_ => altT x_ (fun u0_ => .ret (.ret [.val .str u0_.1], [.box false (.val (.named 7) u0_.2)])) (fun w0_ => .ret (.panic (.ifc 73 (.val (.named 6) N.TNil0.mk)), [.box false (.val (.named 7) r)]))⟩
theorem i65_ok : InsOk Try.prog 65 i65 := ⟨B65, B65_ok, by intro n r out_ h_; exact ((F65 n r).trans (N.image_reader_text_bind _ _ n r)).trans h_⟩
noncomputable def P65 : Nat × D.Spec E := (65, .full [.ptr, .data (.int .i64)] false (fullF [i65]))
theorem p65 : SpecOk Try.prog E P65.1 P65.2 := fullI_ok ok Try.call65 ⟨i65_ok, trivial⟩

/-! (*tenancy/image.reader).read -/
noncomputable def S37 : List (Nat × D.Spec E) := [P64, P65]
theorem S37_ok : AllS Try.prog E S37 := ⟨p64, p65, trivial⟩
abbrev h37_s0 (r1 : List UInt8) (t7 : Int) (r : N.Timage_reader) (s : N.TState) : Fr E.T := ofSlots E 42 [] [0, 2, 7] [.ptr 0 [], .ptr 2 [], .val (.int .i64) t7]
abbrev t37_s0 (r1 : List UInt8) (t7 : Int) (r : N.Timage_reader) (s : N.TState) : St E.T := [.box false (.val (.named 7) r), .arr .froz (.int .u8) r1, .box false (.agg 2 [.nils, .own 3, .val (.int .i64) s.Epoch]), .arr .live (.named 1) s.Marks]
def x37_s0 (r1 : List UInt8) (x_ : (N.Timage_reader × N.TState) ⊕ (N.Timage_reader × N.TState)) : Tree (CodeOut E) := altT x_ (fun u0_ => .ret (.panic (.ifc 73 (.val (.named 6) N.TNil0.mk)), ofSlots E 42 [] [0, 2] [.ptr 0 [], .ptr 2 []], [.box false (.val (.named 7) u0_.1), .arr .froz (.int .u8) r1, .box false (.agg 2 [.nils, .own 3, .val (.int .i64) u0_.2.Epoch]), .arr .live (.named 1) u0_.2.Marks])) (fun w0_ => .ret (.exit 0, ofSlots E 42 [] [0, 2] [.ptr 0 [], .ptr 2 []], [.box false (.val (.named 7) w0_.1), .arr .froz (.int .u8) r1, .box false (.agg 2 [.nils, .own 3, .val (.int .i64) w0_.2.Epoch]), .arr .live (.named 1) w0_.2.Marks]))
noncomputable def g37_s0 : Ins E (CodeOut E) := ⟨[.ptr 0 [], .ptr 2 [], .v (.int .i64)], [.box false (.v (.named 7)), .arr .froz (.int .u8), .box false (.agg 2 [.nils, .own 3, .v (.int .i64)]), .arr .live (.named 1)], fun t7 r r1 s_Epoch a3_ => .opt (N.image_reader_read_l0 N.fuel r1 t7 r (N.TState.mk [] a3_ s_Epoch)) (x37_s0 r1)⟩
abbrev h37_s1 (r1 : List UInt8) (t24 : Int) (r : N.Timage_reader) (s : N.TState) : Fr E.T := ofSlots E 42 [] [0, 2, 24] [.ptr 0 [], .ptr 2 [], .val (.int .i64) t24]
abbrev t37_s1 (r1 : List UInt8) (t24 : Int) (r : N.Timage_reader) (s : N.TState) : St E.T := [.box false (.val (.named 7) r), .arr .froz (.int .u8) r1, .box false (.agg 2 [.own 4, .own 3, .val (.int .i64) s.Epoch]), .arr .live (.named 1) s.Marks, .arr .live (.named 0) s.Files]
def x37_s1 (r1 : List UInt8) (x_ : (N.Timage_reader × N.TState) ⊕ ((N.Timage_reader × N.TState × N.TFile) ⊕ (N.Timage_reader × N.TState))) : Tree (CodeOut E) := altT x_ (fun u0_ => .ret (.panic (.ifc 73 (.val (.named 6) N.TNil0.mk)), ofSlots E 42 [] [2] [.ptr 2 []], [.box false (.val (.named 7) u0_.1), .arr .froz (.int .u8) r1, .box false (.agg 2 [.own 4, .own 3, .val (.int .i64) u0_.2.Epoch]), .arr .live (.named 1) u0_.2.Marks, .arr .live (.named 0) u0_.2.Files])) (fun w0_ => altT w0_ (fun u1_ => .ret (.panic (.ifc 73 (.val (.named 6) N.TNil0.mk)), ofSlots E 42 [] [2] [.ptr 2 []], [.box false (.val (.named 7) u1_.1), .arr .froz (.int .u8) r1, .box false (.agg 2 [.own 4, .own 3, .val (.int .i64) u1_.2.1.Epoch]), .arr .live (.named 1) u1_.2.1.Marks, .arr .live (.named 0) u1_.2.1.Files, .box false (.agg 0 [.val .str u1_.2.2.Name, .val (.int .i64) u1_.2.2.Ver, .val .str u1_.2.2.Body])])) (fun w1_ => .ret (.exit 2, ofSlots E 42 [] [2] [.ptr 2 []], [.box false (.val (.named 7) w1_.1), .arr .froz (.int .u8) r1, .box false (.agg 2 [.own 4, .own 3, .val (.int .i64) w1_.2.Epoch]), .arr .live (.named 1) w1_.2.Marks, .arr .live (.named 0) w1_.2.Files])))
noncomputable def g37_s1 : Ins E (CodeOut E) := ⟨[.ptr 0 [], .ptr 2 [], .v (.int .i64)], [.box false (.v (.named 7)), .arr .froz (.int .u8), .box false (.agg 2 [.own 4, .own 3, .v (.int .i64)]), .arr .live (.named 1), .arr .live (.named 0)], fun t24 r r1 s_Epoch a3_ a4_ => .opt (N.image_reader_read_l1 N.fuel r1 t24 r (N.TState.mk a4_ a3_ s_Epoch)) (x37_s1 r1)⟩
noncomputable def L37 : Nat → LoopInfo E := clL E 42 [{ ks := [0, 2, 7], mvs := [], pro := [.pro (.obj 2) [1] (.named 1)], d := [], g := some (insF [g37_s0]) }, { ks := [0, 2, 24], mvs := [], pro := [.pro (.obj 2) [0] (.named 0)], d := [], g := some (insF [g37_s1]) }] []
theorem f37_s0 (r1 : List UInt8) (t7 : Int) (r : N.Timage_reader) (s : N.TState) : ((stepOf E S37 L37 0 0 Try.f37 (h37_s0 r1 t7 r s) (t37_s0 r1 t7 r s)).bind (nx E [0, 2, 7] [] [0, 2] 4)).get = N.image_reader_read_s0k N.fuel r1 (fun v_ => some (.inl (h37_s0 r1 v_.1 v_.2.1 v_.2.2, t37_s0 r1 v_.1 v_.2.1 v_.2.2))) (fun x_ => some (.inr (.panic (.ifc 73 (.val (.named 6) N.TNil0.mk)), ofSlots E 42 [] [0, 2] [.ptr 0 [], .ptr 2 []], [.box false (.val (.named 7) x_.1), .arr .froz (.int .u8) r1, .box false (.agg 2 [.nils, .own 3, .val (.int .i64) x_.2.Epoch]), .arr .live (.named 1) x_.2.Marks]))) (fun x_ => some (.inr (.exit 0, ofSlots E 42 [] [0, 2] [.ptr 0 [], .ptr 2 []], [.box false (.val (.named 7) x_.1), .arr .froz (.int .u8) r1, .box false (.agg 2 [.nils, .own 3, .val (.int .i64) x_.2.Epoch]), .arr .live (.named 1) x_.2.Marks]))) t7 r s := by kernel_rfl
theorem q37_s0 : InsLp 42 [0, 2, 7] [] [] (stepOf E S37 L37 0 0 Try.f37) g37_s0 := by
  intro t7 r r1 s_Epoch a3_ out_ ho_
  obtain ⟨x_, h1_, h2_⟩ := Option.bind_eq_some_iff.1 ho_
  refine iter_loop (rs := [0, 2]) (step := N.image_reader_read_s0 N.fuel r1) (hd := fun v_ => h37_s0 r1 v_.1 v_.2.1 v_.2.2) (sv := fun v_ => t37_s0 r1 v_.1 v_.2.1 v_.2.2) (ex := x37_s0 r1) (fun v_ => ?_) N.fuel (t7, r, (N.TState.mk [] a3_ s_Epoch)) h1_ h2_
  refine (f37_s0 r1 v_.1 v_.2.1 v_.2.2).trans ((N.image_reader_read_s0_bind N.fuel r1 _ _ _ v_.1 v_.2.1 v_.2.2).trans ?_)
  refine congrArg _ (funext fun s_ => ?_)
  rcases s_ with v_ | a | a <;> rfl
theorem f37_s1 (r1 : List UInt8) (t24 : Int) (r : N.Timage_reader) (s : N.TState) : ((stepOf E S37 L37 0 1 Try.f37 (h37_s1 r1 t24 r s) (t37_s1 r1 t24 r s)).bind (nx E [0, 2, 24] [] [2] 5)).get = N.image_reader_read_s1k N.fuel r1 (fun v_ => some (.inl (h37_s1 r1 v_.1 v_.2.1 v_.2.2, t37_s1 r1 v_.1 v_.2.1 v_.2.2))) (fun x_ => some (.inr (.panic (.ifc 73 (.val (.named 6) N.TNil0.mk)), ofSlots E 42 [] [2] [.ptr 2 []], [.box false (.val (.named 7) x_.1), .arr .froz (.int .u8) r1, .box false (.agg 2 [.own 4, .own 3, .val (.int .i64) x_.2.Epoch]), .arr .live (.named 1) x_.2.Marks, .arr .live (.named 0) x_.2.Files]))) (fun x_ => some (.inr (.panic (.ifc 73 (.val (.named 6) N.TNil0.mk)), ofSlots E 42 [] [2] [.ptr 2 []], [.box false (.val (.named 7) x_.1), .arr .froz (.int .u8) r1, .box false (.agg 2 [.own 4, .own 3, .val (.int .i64) x_.2.1.Epoch]), .arr .live (.named 1) x_.2.1.Marks, .arr .live (.named 0) x_.2.1.Files, .box false (.agg 0 [.val .str x_.2.2.Name, .val (.int .i64) x_.2.2.Ver, .val .str x_.2.2.Body])]))) (fun x_ => some (.inr (.exit 2, ofSlots E 42 [] [2] [.ptr 2 []], [.box false (.val (.named 7) x_.1), .arr .froz (.int .u8) r1, .box false (.agg 2 [.own 4, .own 3, .val (.int .i64) x_.2.Epoch]), .arr .live (.named 1) x_.2.Marks, .arr .live (.named 0) x_.2.Files]))) t24 r s := by kernel_rfl
theorem q37_s1 : InsLp 42 [0, 2, 24] [] [] (stepOf E S37 L37 0 1 Try.f37) g37_s1 := by
  intro t24 r r1 s_Epoch a3_ a4_ out_ ho_
  obtain ⟨x_, h1_, h2_⟩ := Option.bind_eq_some_iff.1 ho_
  refine iter_loop (rs := [2]) (step := N.image_reader_read_s1 N.fuel r1) (hd := fun v_ => h37_s1 r1 v_.1 v_.2.1 v_.2.2) (sv := fun v_ => t37_s1 r1 v_.1 v_.2.1 v_.2.2) (ex := x37_s1 r1) (fun v_ => ?_) N.fuel (t24, r, (N.TState.mk a4_ a3_ s_Epoch)) h1_ h2_
  refine (f37_s1 r1 v_.1 v_.2.1 v_.2.2).trans ((N.image_reader_read_s1_bind N.fuel r1 _ _ _ _ v_.1 v_.2.1 v_.2.2).trans ?_)
  refine congrArg _ (funext fun s_ => ?_)
  rcases s_ with v_ | a | a | a <;> rfl
noncomputable def B37 : List (DVal E.T) → St E.T → Tree (Res E.T × St E.T) := tidyF (dbody E (lookS S37) (lookD []) L37 0 false Try.f37)
theorem B37_ok : FnOk Try.prog E 37 B37 := tidy_fn ok (bodyC_ok sound mix S37_ok (SD := []) trivial (L := L37) (N := 0) (keep := false) Try.func37 rfl (by
  intro k g hg fr st out ho
  match k, hg with
  | 0, hg => cases hg; exact lp_ok (allLp_cons q37_s0 (allLp_nil)) fr st out ho
  | 1, hg => cases hg; exact lp_ok (allLp_cons q37_s1 (allLp_nil)) fr st out ho
  | _ + 2, hg => cases hg))
theorem F37 (a1_ : List UInt8) : (B37 [.ptr 0 []] [.box false (.agg 7 [.own 1]), .arr .live (.int .u8) a1_]).get = N.image_reader_read_k N.fuel (fun x_ => some (.ret [.val (.named 2) x_.1], [.box false (.val (.named 7) x_.2.1), .arr .froz (.int .u8) x_.2.2])) (fun x_ => some (.panic (.ifc 73 (.val (.named 6) N.TNil0.mk)), [.box false (.agg 7 [.own 1]), .arr .live (.int .u8) a1_])) (fun x_ => some (.panic (.ifc 73 (.val (.named 6) N.TNil0.mk)), [.box false (.val (.named 7) x_.1), .arr .froz (.int .u8) x_.2])) (N.Timage_reader.mk a1_) := by kernel_rfl
noncomputable def i37 : Ins E (Res E.T × St E.T) := ⟨[.ptr 0 []], [.box false (.agg 7 [.own 1]), .arr .live (.int .u8)], fun a1_ => .opt (N.image_reader_read N.fuel (N.Timage_reader.mk a1_)) fun x_ => altT x_ (fun u0_ => .ret (.ret [.val (.named 2) u0_.1], [.box false (.val (.named 7) u0_.2.1), .arr .froz (.int .u8) u0_.2.2])) (fun w0_ => altT w0_ (fun u1_ => .ret (.panic (.ifc 73 (.val (.named 6) N.TNil0.mk)), [.box false (.agg 7 [.own 1]), .arr .live (.int .u8) a1_])) (fun w1_ => .ret (.panic (.ifc 73 (.val (.named 6) N.TNil0.mk)), [.box false (.val (.named 7) w1_.1), .arr .froz (.int .u8) w1_.2])))⟩
theorem i37_ok : InsOk Try.prog 37 i37 := ⟨B37, B37_ok, by intro a1_ out_ h_; exact ((F37 a1_).trans (N.image_reader_read_bind N.fuel _ _ _ (N.Timage_reader.mk a1_))).trans h_⟩
noncomputable def P37 : Nat × D.Spec E := (37, .full [.ptr] false (fullF [i37]))
theorem p37 : SpecOk Try.prog E P37.1 P37.2 := fullI_ok ok Try.call37 ⟨i37_ok, trivial⟩

/-! slices.Equal[[]string,string] -/
noncomputable def S38 : List (Nat × D.Spec E) := []
theorem S38_ok : AllS Try.prog E S38 := trivial
abbrev h38_s0 (s1 : List (List UInt8)) (s2 : List (List UInt8)) (t12 : Int) (t13 : Int) : Fr E.T := ofSlots E 26 [] [0, 1, 12, 13] [.val (.slice .str) s1, .val (.slice .str) s2, .val (.int .i64) t12, .val (.int .i64) t13]
abbrev t38_s0 (s1 : List (List UInt8)) (s2 : List (List UInt8)) (t12 : Int) (t13 : Int) : St E.T := []
def x38_s0 (s1 : List (List UInt8)) (s2 : List (List UInt8)) (t12 : Int) (x_ : Unit ⊕ Unit) : Tree (CodeOut E) := altT x_ (fun u0_ => .ret (.ret, ofSlots E 26 [] [4] [.val .bool false], [])) (fun w0_ => .ret (.exit 0, ofSlots E 26 [] [4] [.undef], []))
noncomputable def g38_s0 : Ins E (CodeOut E) := ⟨[.v (.slice .str), .v (.slice .str), .v (.int .i64), .v (.int .i64)], [], fun s1 s2 t12 t13 => .opt (N.slices_Equal_string_l0 N.fuel s1 s2 t12 t13) (x38_s0 s1 s2 t12)⟩
noncomputable def L38 : Nat → LoopInfo E := clL E 26 [{ ks := [0, 1, 12, 13], mvs := [], pro := [], d := [], g := some (insF [g38_s0]) }] []
theorem f38_s0 (s1 : List (List UInt8)) (s2 : List (List UInt8)) (t12 : Int) (t13 : Int) : ((stepOf E S38 L38 0 0 Try.f38 (h38_s0 s1 s2 t12 t13) (t38_s0 s1 s2 t12 t13)).bind (nx E [0, 1, 12, 13] [] [4] 0)).get = N.slices_Equal_string_s0k s1 s2 t12 (fun v_ => some (.inl (h38_s0 s1 s2 t12 v_, t38_s0 s1 s2 t12 v_))) (fun x_ => some (.inr (.ret, ofSlots E 26 [] [4] [.val .bool false], []))) (fun x_ => some (.inr (.exit 0, ofSlots E 26 [] [4] [.undef], []))) t13 := by kernel_rfl
theorem q38_s0 : InsLp 26 [0, 1, 12, 13] [] [] (stepOf E S38 L38 0 0 Try.f38) g38_s0 := by
  intro s1 s2 t12 t13 out_ ho_
  obtain ⟨x_, h1_, h2_⟩ := Option.bind_eq_some_iff.1 ho_
  refine iter_loop (rs := [4]) (step := N.slices_Equal_string_s0 s1 s2 t12) (hd := fun v_ => h38_s0 s1 s2 t12 v_) (sv := fun v_ => t38_s0 s1 s2 t12 v_) (ex := x38_s0 s1 s2 t12) (fun v_ => ?_) N.fuel t13 h1_ h2_
  refine (f38_s0 s1 s2 t12 v_).trans ((N.slices_Equal_string_s0_bind s1 s2 t12 _ _ _ v_).trans ?_)
  refine congrArg _ (funext fun s_ => ?_)
  rcases s_ with v_ | a | a <;> rfl
noncomputable def B38 : List (DVal E.T) → St E.T → Tree (Res E.T × St E.T) := dbody E (lookS S38) (lookD []) L38 0 false Try.f38
theorem B38_ok : FnOk Try.prog E 38 B38 := bodyC_ok sound mix S38_ok (SD := []) trivial (L := L38) (N := 0) (keep := false) Try.func38 rfl (by
  intro k g hg fr st out ho
  match k, hg with
  | 0, hg => cases hg; exact lp_ok (allLp_cons q38_s0 (allLp_nil)) fr st out ho
  | _ + 1, hg => cases hg)
theorem F38 (s1 : List (List UInt8)) (s2 : List (List UInt8)) : (B38 [.val (.slice .str) s1, .val (.slice .str) s2] []).get = N.slices_Equal_string_k N.fuel (fun x_ => some (.ret [.val .bool x_], [])) s1 s2 := by kernel_rfl
noncomputable def i38 : Ins E (Res E.T × St E.T) := ⟨[.v (.slice .str), .v (.slice .str)], [], fun s1 s2 => .opt (N.slices_Equal_string N.fuel s1 s2) fun x_ => .ret (.ret [.val .bool x_], [])⟩
theorem i38_ok : InsOk Try.prog 38 i38 := ⟨B38, B38_ok, by intro s1 s2 out_ h_; exact ((F38 s1 s2).trans (N.slices_Equal_string_bind N.fuel _ s1 s2)).trans h_⟩
noncomputable def P38 : Nat × D.Spec E := (38, .pure [(.slice .str), (.slice .str)] (pureF [i38]))
theorem p38 : SpecOk Try.prog E P38.1 P38.2 := pureI_ok Try.call38 ⟨i38_ok, trivial⟩

-- LIB 36 strings.Join

/-! tenancy/image.Take$1 -/
noncomputable def S35 : List (Nat × D.Spec E) := []
theorem S35_ok : AllS Try.prog E S35 := trivial
noncomputable def L35 : Nat → LoopInfo E := clL E 17 [] []
noncomputable def B35 : DSpec E := dbodyD E (lookS S35) L35 0 Try.f35
theorem p35 : DSpecOk Try.prog E 35 B35 := dfullD_ok sound mix S35_ok (L := L35) (fun _ => rfl) Try.call35 Try.func35 rfl

/-! tenancy/image.Take -/
noncomputable def S13 : List (Nat × D.Spec E) := [P10, P28, P36, P37, P38]
theorem S13_ok : AllS Try.prog E S13 := ⟨p10, p28, p36, p37, p38, trivial⟩
noncomputable def D13 : List (Nat × DSpec E) := [(35, B35)]
theorem D13_ok : AllD Try.prog E D13 := ⟨p35, trivial⟩
noncomputable def L13 : Nat → LoopInfo E := clL E 26 [] []
noncomputable def B13 : List (DVal E.T) → St E.T → Tree (Res E.T × St E.T) := dbody E (lookS S13) (lookD D13) L13 0 false Try.f13
theorem B13_ok : FnOk Try.prog E 13 B13 := bodyC_ok sound mix S13_ok (SD := D13) D13_ok (L := L13) (N := 0) (keep := false) Try.func13 rfl (by
  intro k g hg fr st out ho
  match k, hg with
  | _, hg => cases hg)
theorem F13 (l : List (List UInt8)) : (B13 [.val (.slice .str) l] []).get = N.image_Take_k N.fuel (fun x_ => some (.ret [.val (.named 2) x_.1, .val .bool x_.2], [])) l := by kernel_rfl
noncomputable def i13 : Ins E (Res E.T × St E.T) := ⟨[.v (.slice .str)], [], fun l => .opt (N.image_Take N.fuel l) fun x_ => .ret (.ret [.val (.named 2) x_.1, .val .bool x_.2], [])⟩
theorem i13_ok : InsOk Try.prog 13 i13 := ⟨B13, B13_ok, by intro l out_ h_; exact ((F13 l).trans (N.image_Take_bind N.fuel _ l)).trans h_⟩
noncomputable def P13 : Nat × D.Spec E := (13, .pure [(.slice .str)] (pureF [i13]))
theorem p13 : SpecOk Try.prog E P13.1 P13.2 := pureI_ok Try.call13 ⟨i13_ok, trivial⟩

/-! tenancy/tenancyref7.SameMarks -/
noncomputable def S41 : List (Nat × D.Spec E) := []
theorem S41_ok : AllS Try.prog E S41 := trivial
abbrev h41_s0 (a : List N.TMark) (b : List N.TMark) (i : Int) : Fr E.T := ofSlots E 26 [] [0, 1, 5] [.val (.slice (.named 1)) a, .val (.slice (.named 1)) b, .val (.int .i64) i]
abbrev t41_s0 (a : List N.TMark) (b : List N.TMark) (i : Int) : St E.T := []
def x41_s0 (a : List N.TMark) (b : List N.TMark) (x_ : Unit ⊕ Unit) : Tree (CodeOut E) := altT x_ (fun u0_ => .ret (.ret, ofSlots E 26 [] [4] [.val .bool false], [])) (fun w0_ => .ret (.exit 0, ofSlots E 26 [] [4] [.undef], []))
noncomputable def g41_s0 : Ins E (CodeOut E) := ⟨[.v (.slice (.named 1)), .v (.slice (.named 1)), .v (.int .i64)], [], fun a b i => .opt (N.ref7_SameMarks_l0 N.fuel a b i) (x41_s0 a b)⟩
noncomputable def L41 : Nat → LoopInfo E := clL E 26 [{ ks := [0, 1, 5], mvs := [], pro := [], d := [], g := some (insF [g41_s0]) }] []
theorem f41_s0 (a : List N.TMark) (b : List N.TMark) (i : Int) : ((stepOf E S41 L41 0 0 Try.f41 (h41_s0 a b i) (t41_s0 a b i)).bind (nx E [0, 1, 5] [] [4] 0)).get = N.ref7_SameMarks_s0k a b (fun v_ => some (.inl (h41_s0 a b v_, t41_s0 a b v_))) (fun x_ => some (.inr (.ret, ofSlots E 26 [] [4] [.val .bool false], []))) (fun x_ => some (.inr (.exit 0, ofSlots E 26 [] [4] [.undef], []))) i := by kernel_rfl
theorem q41_s0 : InsLp 26 [0, 1, 5] [] [] (stepOf E S41 L41 0 0 Try.f41) g41_s0 := by
  intro a b i out_ ho_
  obtain ⟨x_, h1_, h2_⟩ := Option.bind_eq_some_iff.1 ho_
  refine iter_loop (rs := [4]) (step := N.ref7_SameMarks_s0 a b) (hd := fun v_ => h41_s0 a b v_) (sv := fun v_ => t41_s0 a b v_) (ex := x41_s0 a b) (fun v_ => ?_) N.fuel i h1_ h2_
  refine (f41_s0 a b v_).trans ((N.ref7_SameMarks_s0_bind a b _ _ _ v_).trans ?_)
  refine congrArg _ (funext fun s_ => ?_)
  rcases s_ with v_ | a | a <;> rfl
noncomputable def B41 : List (DVal E.T) → St E.T → Tree (Res E.T × St E.T) := dbody E (lookS S41) (lookD []) L41 0 false Try.f41
theorem B41_ok : FnOk Try.prog E 41 B41 := bodyC_ok sound mix S41_ok (SD := []) trivial (L := L41) (N := 0) (keep := false) Try.func41 rfl (by
  intro k g hg fr st out ho
  match k, hg with
  | 0, hg => cases hg; exact lp_ok (allLp_cons q41_s0 (allLp_nil)) fr st out ho
  | _ + 1, hg => cases hg)
theorem F41 (a : List N.TMark) (b : List N.TMark) : (B41 [.val (.slice (.named 1)) a, .val (.slice (.named 1)) b] []).get = N.ref7_SameMarks_k N.fuel (fun x_ => some (.ret [.val .bool x_], [])) a b := by kernel_rfl
noncomputable def i41 : Ins E (Res E.T × St E.T) := ⟨[.v (.slice (.named 1)), .v (.slice (.named 1))], [], fun a b => .opt (N.ref7_SameMarks N.fuel a b) fun x_ => .ret (.ret [.val .bool x_], [])⟩
theorem i41_ok : InsOk Try.prog 41 i41 := ⟨B41, B41_ok, by intro a b out_ h_; exact ((F41 a b).trans (N.ref7_SameMarks_bind N.fuel _ a b)).trans h_⟩
noncomputable def P41 : Nat × D.Spec E := (41, .pure [(.slice (.named 1)), (.slice (.named 1))] (pureF [i41]))
theorem p41 : SpecOk Try.prog E P41.1 P41.2 := pureI_ok Try.call41 ⟨i41_ok, trivial⟩

/-! tenancy/tenancyref7.SameState -/
noncomputable def S15 : List (Nat × D.Spec E) := [P41]
theorem S15_ok : AllS Try.prog E S15 := ⟨p41, trivial⟩
abbrev h15_s0 (a : N.TState) (b : N.TState) (i : Int) : Fr E.T := ofSlots E 46 [] [2, 3, 5] [.ptr 0 [], .ptr 1 [], .val (.int .i64) i]
abbrev t15_s0 (a : N.TState) (b : N.TState) (i : Int) : St E.T := [.box false (.val (.named 2) a), .box false (.val (.named 2) b)]
def x15_s0 (a : N.TState) (b : N.TState) (x_ : Unit ⊕ Unit) : Tree (CodeOut E) := altT x_ (fun u0_ => .ret (.ret, ofSlots E 46 [] [4] [.val .bool false], [.box false (.val (.named 2) a), .box false (.val (.named 2) b)])) (fun w0_ => .ret (.exit 0, ofSlots E 46 [] [4] [.undef], [.box false (.val (.named 2) a), .box false (.val (.named 2) b)]))
noncomputable def g15_s0 : Ins E (CodeOut E) := ⟨[.ptr 0 [], .ptr 1 [], .v (.int .i64)], [.box false (.v (.named 2)), .box false (.v (.named 2))], fun i a b => .opt (N.ref7_SameState_l0 N.fuel a b i) (x15_s0 a b)⟩
noncomputable def L15 : Nat → LoopInfo E := clL E 46 [{ ks := [2, 3, 5], mvs := [], pro := [], d := [], g := some (insF [g15_s0]) }] []
theorem f15_s0 (a : N.TState) (b : N.TState) (i : Int) : ((stepOf E S15 L15 0 0 Try.f15 (h15_s0 a b i) (t15_s0 a b i)).bind (nx E [2, 3, 5] [] [4] 2)).get = N.ref7_SameState_s0k a b (fun v_ => some (.inl (h15_s0 a b v_, t15_s0 a b v_))) (fun x_ => some (.inr (.ret, ofSlots E 46 [] [4] [.val .bool false], [.box false (.val (.named 2) a), .box false (.val (.named 2) b)]))) (fun x_ => some (.inr (.exit 0, ofSlots E 46 [] [4] [.undef], [.box false (.val (.named 2) a), .box false (.val (.named 2) b)]))) i := by kernel_rfl
theorem q15_s0 : InsLp 46 [2, 3, 5] [] [] (stepOf E S15 L15 0 0 Try.f15) g15_s0 := by
  intro i a b out_ ho_
  obtain ⟨x_, h1_, h2_⟩ := Option.bind_eq_some_iff.1 ho_
  refine iter_loop (rs := [4]) (step := N.ref7_SameState_s0 a b) (hd := fun v_ => h15_s0 a b v_) (sv := fun v_ => t15_s0 a b v_) (ex := x15_s0 a b) (fun v_ => ?_) N.fuel i h1_ h2_
  refine (f15_s0 a b v_).trans ((N.ref7_SameState_s0_bind a b _ _ _ v_).trans ?_)
  refine congrArg _ (funext fun s_ => ?_)
  rcases s_ with v_ | a | a <;> rfl
noncomputable def B15 : List (DVal E.T) → St E.T → Tree (Res E.T × St E.T) := dbody E (lookS S15) (lookD []) L15 0 false Try.f15
theorem B15_ok : FnOk Try.prog E 15 B15 := bodyC_ok sound mix S15_ok (SD := []) trivial (L := L15) (N := 0) (keep := false) Try.func15 rfl (by
  intro k g hg fr st out ho
  match k, hg with
  | 0, hg => cases hg; exact lp_ok (allLp_cons q15_s0 (allLp_nil)) fr st out ho
  | _ + 1, hg => cases hg)
theorem F15 (a : N.TState) (b : N.TState) : (B15 [.val (.named 2) a, .val (.named 2) b] []).get = N.ref7_SameState_k N.fuel (fun x_ => some (.ret [.val .bool x_], [])) a b := by kernel_rfl
noncomputable def i15 : Ins E (Res E.T × St E.T) := ⟨[.v (.named 2), .v (.named 2)], [], fun a b => .opt (N.ref7_SameState N.fuel a b) fun x_ => .ret (.ret [.val .bool x_], [])⟩
theorem i15_ok : InsOk Try.prog 15 i15 := ⟨B15, B15_ok, by intro a b out_ h_; exact ((F15 a b).trans (N.ref7_SameState_bind N.fuel _ a b)).trans h_⟩
noncomputable def P15 : Nat × D.Spec E := (15, .pure [(.named 2), (.named 2)] (pureF [i15]))
theorem p15 : SpecOk Try.prog E P15.1 P15.2 := pureI_ok Try.call15 ⟨i15_ok, trivial⟩

/-! tenancy/image.Diff -/
noncomputable def S17 : List (Nat × D.Spec E) := []
theorem S17_ok : AllS Try.prog E S17 := trivial
abbrev h17_s0 (a : List (List UInt8)) (t7 : List (List UInt8)) (t8 : Int) (t9 : Int) (l : List N.TPut) : Fr E.T := ofSlots E 34 [] [0, 4, 7, 8, 9] [.val (.slice .str) a, .own 0, .val (.slice .str) t7, .val (.int .i64) t8, .val (.int .i64) t9]
abbrev t17_s0 (a : List (List UInt8)) (t7 : List (List UInt8)) (t8 : Int) (t9 : Int) (l : List N.TPut) : St E.T := [.arr .live (.named 3) l]
def x17_s0 (a : List (List UInt8)) (t7 : List (List UInt8)) (t8 : Int) (x_ : List N.TPut) : Tree (CodeOut E) := .ret (.exit 0, ofSlots E 34 [] [4] [.own 0], [.arr .live (.named 3) x_])
noncomputable def g17_s0 : Ins E (CodeOut E) := ⟨[.v (.slice .str), .own 0, .v (.slice .str), .v (.int .i64), .v (.int .i64)], [.arr .live (.named 3)], fun a t7 t8 t9 l => .opt (N.image_Diff_l0 N.fuel a t7 t8 t9 l) (x17_s0 a t7 t8)⟩
noncomputable def L17 : Nat → LoopInfo E := clL E 34 [{ ks := [0, 4, 7, 8, 9], mvs := [], pro := [.pro (.slot 4) [] (.named 3)], d := [], g := some (insF [g17_s0]) }] []
theorem f17_s0 (a : List (List UInt8)) (t7 : List (List UInt8)) (t8 : Int) (t9 : Int) (l : List N.TPut) : ((stepOf E S17 L17 0 0 Try.f17 (h17_s0 a t7 t8 t9 l) (t17_s0 a t7 t8 t9 l)).bind (nx E [0, 4, 7, 8, 9] [] [4] 1)).get = N.image_Diff_s0k a t7 t8 (fun v_ => some (.inl (h17_s0 a t7 t8 v_.1 v_.2, t17_s0 a t7 t8 v_.1 v_.2))) (fun x_ => some (.inr (.exit 0, ofSlots E 34 [] [4] [.own 0], [.arr .live (.named 3) x_]))) t9 l := by kernel_rfl
theorem q17_s0 : InsLp 34 [0, 4, 7, 8, 9] [] [] (stepOf E S17 L17 0 0 Try.f17) g17_s0 := by
  intro a t7 t8 t9 l out_ ho_
  obtain ⟨x_, h1_, h2_⟩ := Option.bind_eq_some_iff.1 ho_
  refine iter_loop (rs := [4]) (step := N.image_Diff_s0 a t7 t8) (hd := fun v_ => h17_s0 a t7 t8 v_.1 v_.2) (sv := fun v_ => t17_s0 a t7 t8 v_.1 v_.2) (ex := x17_s0 a t7 t8) (fun v_ => ?_) N.fuel (t9, l) h1_ h2_
  refine (f17_s0 a t7 t8 v_.1 v_.2).trans ((N.image_Diff_s0_bind a t7 t8 _ _ v_.1 v_.2).trans ?_)
  refine congrArg _ (funext fun s_ => ?_)
  rcases s_ with v_ | a <;> rfl
noncomputable def B17 : List (DVal E.T) → St E.T → Tree (Res E.T × St E.T) := dbody E (lookS S17) (lookD []) L17 0 false Try.f17
theorem B17_ok : FnOk Try.prog E 17 B17 := bodyC_ok sound mix S17_ok (SD := []) trivial (L := L17) (N := 0) (keep := false) Try.func17 rfl (by
  intro k g hg fr st out ho
  match k, hg with
  | 0, hg => cases hg; exact lp_ok (allLp_cons q17_s0 (allLp_nil)) fr st out ho
  | _ + 1, hg => cases hg)
theorem F17 (a : List (List UInt8)) (b : List (List UInt8)) : (B17 [.val (.slice .str) a, .val (.slice .str) b] []).get = N.image_Diff_k N.fuel (fun x_ => some (.ret [.val (.slice (.named 3)) x_], [])) a b := by kernel_rfl
noncomputable def i17 : Ins E (Res E.T × St E.T) := ⟨[.v (.slice .str), .v (.slice .str)], [], fun a b => .opt (N.image_Diff N.fuel a b) fun x_ => .ret (.ret [.val (.slice (.named 3)) x_], [])⟩
theorem i17_ok : InsOk Try.prog 17 i17 := ⟨B17, B17_ok, by intro a b out_ h_; exact ((F17 a b).trans (N.image_Diff_bind N.fuel _ a b)).trans h_⟩
noncomputable def P17 : Nat × D.Spec E := (17, .pure [(.slice .str), (.slice .str)] (pureF [i17]))
theorem p17 : SpecOk Try.prog E P17.1 P17.2 := pureI_ok Try.call17 ⟨i17_ok, trivial⟩

/-! tenancy/tenancylaw11.begun -/
noncomputable def S7 : List (Nat × D.Spec E) := [P10, P13, P15, P17, P19]
theorem S7_ok : AllS Try.prog E S7 := ⟨p10, p13, p15, p17, p19, trivial⟩
noncomputable def L7 : Nat → LoopInfo E := clL E 39 [] []
noncomputable def B7 : List (DVal E.T) → St E.T → Tree (Res E.T × St E.T) := dbody E (lookS S7) (lookD []) L7 0 false Try.f7
theorem B7_ok : FnOk Try.prog E 7 B7 := bodyC_ok sound mix S7_ok (SD := []) trivial (L := L7) (N := 0) (keep := false) Try.func7 rfl (by
  intro k g hg fr st out ho
  match k, hg with
  | _, hg => cases hg)
theorem F7 : (B7 [] []).get = N.law11_begun_k N.fuel (fun x_ => some (.ret [.val .bool x_], [])) := by kernel_rfl
noncomputable def i7 : Ins E (Res E.T × St E.T) := ⟨[], [], .opt (N.law11_begun N.fuel) fun x_ => .ret (.ret [.val .bool x_], [])⟩
theorem i7_ok : InsOk Try.prog 7 i7 := ⟨B7, B7_ok, by intro out_ h_; exact ((F7).trans (N.law11_begun_bind N.fuel _)).trans h_⟩
noncomputable def P7 : Nat × D.Spec E := (7, .pure [] (pureF [i7]))
theorem p7 : SpecOk Try.prog E P7.1 P7.2 := pureI_ok Try.call7 ⟨i7_ok, trivial⟩

/-! tenancy/tenancymade.Made -/
noncomputable def S8 : List (Nat × D.Spec E) := []
theorem S8_ok : AllS Try.prog E S8 := trivial
noncomputable def L8 : Nat → LoopInfo E := clL E 6 [] []
noncomputable def B8 : List (DVal E.T) → St E.T → Tree (Res E.T × St E.T) := tidyF (dbody E (lookS S8) (lookD []) L8 0 true Try.f8)
theorem B8_ok : FnOk Try.prog E 8 B8 := tidy_fn ok (bodyC_ok sound mix S8_ok (SD := []) trivial (L := L8) (N := 0) (keep := true) Try.func8 rfl (by
  intro k g hg fr st out ho
  match k, hg with
  | _, hg => cases hg))
theorem F8 (l : List UInt8) : (B8 [.val (.slice (.int .u8)) l] []).get = N.made_Made_k (fun x_ => some (.ret [.ptr 0 []], [.box false (.val (.named 5) x_)])) l := by kernel_rfl
noncomputable def i8 : Ins E (Res E.T × St E.T) := ⟨[.v (.slice (.int .u8))], [], fun l => .ret (.ret [.ptr 0 []], [.box false (.val (.named 5) (N.made_Made l))])⟩
theorem i8_ok : InsOk Try.prog 8 i8 := ⟨B8, B8_ok, by intro l out_ h_; exact ((F8 l).trans (N.made_Made_bind _ l)).trans h_⟩
noncomputable def P8 : Nat × D.Spec E := (8, .full [.data (.slice (.int .u8))] false (fullF [i8]))
theorem p8 : SpecOk Try.prog E P8.1 P8.2 := fullI_ok ok Try.call8 ⟨i8_ok, trivial⟩

/-! (*tenancy/tenancymade.Picks).Over -/
noncomputable def S22 : List (Nat × D.Spec E) := []
theorem S22_ok : AllS Try.prog E S22 := trivial
noncomputable def L22 : Nat → LoopInfo E := clL E 13 [] []
noncomputable def B22 : List (DVal E.T) → St E.T → Tree (Res E.T × St E.T) := tidyF (dbody E (lookS S22) (lookD []) L22 0 false Try.f22)
theorem B22_ok : FnOk Try.prog E 22 B22 := tidy_fn ok (bodyC_ok sound mix S22_ok (SD := []) trivial (L := L22) (N := 0) (keep := false) Try.func22 rfl (by
  intro k g hg fr st out ho
  match k, hg with
  | _, hg => cases hg))
theorem F22 (p : N.Ttenancymade_Picks) : (B22 [.ptr 0 []] [.box false (.val (.named 5) p)]).get = N.made_Picks_Over_k (fun x_ => some (.ret [.val .bool x_], [.box false (.val (.named 5) p)])) p := by kernel_rfl
noncomputable def i22 : Ins E (Res E.T × St E.T) := ⟨[.ptr 0 []], [.box false (.v (.named 5))], fun p => .ret (.ret [.val .bool (N.made_Picks_Over p)], [.box false (.val (.named 5) p)])⟩
theorem i22_ok : InsOk Try.prog 22 i22 := ⟨B22, B22_ok, by intro p out_ h_; exact ((F22 p).trans (N.made_Picks_Over_bind _ p)).trans h_⟩
noncomputable def P22 : Nat × D.Spec E := (22, .full [.ptr] false (fullF [i22]))
theorem p22 : SpecOk Try.prog E P22.1 P22.2 := fullI_ok ok Try.call22 ⟨i22_ok, trivial⟩

/-! (*tenancy/tenancymade.Picks).Num -/
noncomputable def S23 : List (Nat × D.Spec E) := []
theorem S23_ok : AllS Try.prog E S23 := trivial
noncomputable def L23 : Nat → LoopInfo E := clL E 40 [] []
noncomputable def B23 : List (DVal E.T) → St E.T → Tree (Res E.T × St E.T) := tidyF (dbody E (lookS S23) (lookD []) L23 0 false Try.f23)
theorem B23_ok : FnOk Try.prog E 23 B23 := tidy_fn ok (bodyC_ok sound mix S23_ok (SD := []) trivial (L := L23) (N := 0) (keep := false) Try.func23 rfl (by
  intro k g hg fr st out ho
  match k, hg with
  | _, hg => cases hg))
theorem F23 (m : Int) (p : N.Ttenancymade_Picks) : (B23 [.ptr 0 [], .val (.int .i64) m] [.box false (.val (.named 5) p)]).get = N.made_Picks_Num_k (fun x_ => some (.ret [.val (.int .i64) x_.1], [.box false (.val (.named 5) x_.2)])) m p := by kernel_rfl
noncomputable def i23 : Ins E (Res E.T × St E.T) := ⟨[.ptr 0 [], .v (.int .i64)], [.box false (.v (.named 5))], fun m p => .opt (N.made_Picks_Num m p) fun x_ => .ret (.ret [.val (.int .i64) x_.1], [.box false (.val (.named 5) x_.2)])⟩
theorem i23_ok : InsOk Try.prog 23 i23 := ⟨B23, B23_ok, by intro m p out_ h_; exact ((F23 m p).trans (N.made_Picks_Num_bind _ m p)).trans h_⟩
noncomputable def P23 : Nat × D.Spec E := (23, .full [.ptr, .data (.int .i64)] false (fullF [i23]))
theorem p23 : SpecOk Try.prog E P23.1 P23.2 := fullI_ok ok Try.call23 ⟨i23_ok, trivial⟩

/-! (*tenancy/tenancymade.Picks).Name -/
noncomputable def S24 : List (Nat × D.Spec E) := [P23]
theorem S24_ok : AllS Try.prog E S24 := ⟨p23, trivial⟩
noncomputable def L24 : Nat → LoopInfo E := clL E 8 [] []
noncomputable def B24 : List (DVal E.T) → St E.T → Tree (Res E.T × St E.T) := tidyF (dbody E (lookS S24) (lookD []) L24 0 false Try.f24)
theorem B24_ok : FnOk Try.prog E 24 B24 := tidy_fn ok (bodyC_ok sound mix S24_ok (SD := []) trivial (L := L24) (N := 0) (keep := false) Try.func24 rfl (by
  intro k g hg fr st out ho
  match k, hg with
  | _, hg => cases hg))
theorem F24 (p : N.Ttenancymade_Picks) : (B24 [.ptr 0 []] [.box false (.val (.named 5) p)]).get = N.made_Picks_Name_k (fun x_ => some (.ret [.val .str x_.1], [.box false (.val (.named 5) x_.2)])) p := by kernel_rfl
noncomputable def i24 : Ins E (Res E.T × St E.T) := ⟨[.ptr 0 []], [.box false (.v (.named 5))], fun p => .opt (N.made_Picks_Name p) fun x_ => .ret (.ret [.val .str x_.1], [.box false (.val (.named 5) x_.2)])⟩
theorem i24_ok : InsOk Try.prog 24 i24 := ⟨B24, B24_ok, by intro p out_ h_; exact ((F24 p).trans (N.made_Picks_Name_bind _ p)).trans h_⟩
noncomputable def P24 : Nat × D.Spec E := (24, .full [.ptr] false (fullF [i24]))
theorem p24 : SpecOk Try.prog E P24.1 P24.2 := fullI_ok ok Try.call24 ⟨i24_ok, trivial⟩

/-! tenancy/tenancyref7.MayName -/
noncomputable def S42 : List (Nat × D.Spec E) := []
theorem S42_ok : AllS Try.prog E S42 := trivial
abbrev h42_s0 (s : List UInt8) (i : Int) : Fr E.T := ofSlots E 28 [] [0, 3] [.val .str s, .val (.int .i64) i]
abbrev t42_s0 (s : List UInt8) (i : Int) : St E.T := []
def x42_s0 (s : List UInt8) (x_ : Unit ⊕ Unit) : Tree (CodeOut E) := altT x_ (fun u0_ => .ret (.ret, ofSlots E 28 [] [0, 2] [.val .str s, .val .bool false], [])) (fun w0_ => .ret (.exit 0, ofSlots E 28 [] [0, 2] [.val .str s, .undef], []))
noncomputable def g42_s0 : Ins E (CodeOut E) := ⟨[.v .str, .v (.int .i64)], [], fun s i => .opt (N.ref7_MayName_l0 N.fuel s i) (x42_s0 s)⟩
noncomputable def L42 : Nat → LoopInfo E := clL E 28 [{ ks := [0, 3], mvs := [], pro := [], d := [], g := some (insF [g42_s0]) }] []
theorem f42_s0 (s : List UInt8) (i : Int) : ((stepOf E S42 L42 0 0 Try.f42 (h42_s0 s i) (t42_s0 s i)).bind (nx E [0, 3] [] [0, 2] 0)).get = N.ref7_MayName_s0k s (fun v_ => some (.inl (h42_s0 s v_, t42_s0 s v_))) (fun x_ => some (.inr (.ret, ofSlots E 28 [] [0, 2] [.val .str s, .val .bool false], []))) (fun x_ => some (.inr (.exit 0, ofSlots E 28 [] [0, 2] [.val .str s, .undef], []))) i := by kernel_rfl
theorem q42_s0 : InsLp 28 [0, 3] [] [] (stepOf E S42 L42 0 0 Try.f42) g42_s0 := by
  intro s i out_ ho_
  obtain ⟨x_, h1_, h2_⟩ := Option.bind_eq_some_iff.1 ho_
  refine iter_loop (rs := [0, 2]) (step := N.ref7_MayName_s0 s) (hd := fun v_ => h42_s0 s v_) (sv := fun v_ => t42_s0 s v_) (ex := x42_s0 s) (fun v_ => ?_) N.fuel i h1_ h2_
  refine (f42_s0 s v_).trans ((N.ref7_MayName_s0_bind s _ _ _ v_).trans ?_)
  refine congrArg _ (funext fun s_ => ?_)
  rcases s_ with v_ | a | a <;> rfl
noncomputable def B42 : List (DVal E.T) → St E.T → Tree (Res E.T × St E.T) := dbody E (lookS S42) (lookD []) L42 0 false Try.f42
theorem B42_ok : FnOk Try.prog E 42 B42 := bodyC_ok sound mix S42_ok (SD := []) trivial (L := L42) (N := 0) (keep := false) Try.func42 rfl (by
  intro k g hg fr st out ho
  match k, hg with
  | 0, hg => cases hg; exact lp_ok (allLp_cons q42_s0 (allLp_nil)) fr st out ho
  | _ + 1, hg => cases hg)
theorem F42 (s : List UInt8) : (B42 [.val .str s] []).get = N.ref7_MayName_k N.fuel (fun x_ => some (.ret [.val .bool x_], [])) s := by kernel_rfl
noncomputable def i42 : Ins E (Res E.T × St E.T) := ⟨[.v .str], [], fun s => .opt (N.ref7_MayName N.fuel s) fun x_ => .ret (.ret [.val .bool x_], [])⟩
theorem i42_ok : InsOk Try.prog 42 i42 := ⟨B42, B42_ok, by intro s out_ h_; exact ((F42 s).trans (N.ref7_MayName_bind N.fuel _ s)).trans h_⟩
noncomputable def P42 : Nat × D.Spec E := (42, .pure [.str] (pureF [i42]))
theorem p42 : SpecOk Try.prog E P42.1 P42.2 := pureI_ok Try.call42 ⟨i42_ok, trivial⟩

/-! tenancy/tenancyref7.PutMark -/
noncomputable def S66 : List (Nat × D.Spec E) := []
theorem S66_ok : AllS Try.prog E S66 := trivial
noncomputable def L66 : Nat → LoopInfo E := clL E 36 [] []
noncomputable def B66 : List (DVal E.T) → St E.T → Tree (Res E.T × St E.T) := dbody E (lookS S66) (lookD []) L66 0 false Try.f66
theorem B66_ok : FnOk Try.prog E 66 B66 := bodyC_ok sound mix S66_ok (SD := []) trivial (L := L66) (N := 0) (keep := false) Try.func66 rfl (by
  intro k g hg fr st out ho
  match k, hg with
  | _, hg => cases hg)
theorem F66 (l : List N.TMark) (client : Int) (m : N.TMark) : (B66 [.val (.slice (.named 1)) l, .val (.int .i64) client, .val (.named 1) m] []).get = N.ref7_PutMark_k (fun x_ => some (.ret [.val (.slice (.named 1)) x_], [])) l client m := by kernel_rfl
noncomputable def i66 : Ins E (Res E.T × St E.T) := ⟨[.v (.slice (.named 1)), .v (.int .i64), .v (.named 1)], [], fun l client m => .opt (N.ref7_PutMark l client m) fun x_ => .ret (.ret [.val (.slice (.named 1)) x_], [])⟩
theorem i66_ok : InsOk Try.prog 66 i66 := ⟨B66, B66_ok, by intro l client m out_ h_; exact ((F66 l client m).trans (N.ref7_PutMark_bind _ l client m)).trans h_⟩
noncomputable def P66 : Nat × D.Spec E := (66, .pure [(.slice (.named 1)), (.int .i64), (.named 1)] (pureF [i66]))
theorem p66 : SpecOk Try.prog E P66.1 P66.2 := pureI_ok Try.call66 ⟨i66_ok, trivial⟩

/-! tenancy/tenancyref7.marked -/
noncomputable def S43 : List (Nat × D.Spec E) := [P66]
theorem S43_ok : AllS Try.prog E S43 := ⟨p66, trivial⟩
noncomputable def L43 : Nat → LoopInfo E := clL E 33 [] []
noncomputable def B43 : List (DVal E.T) → St E.T → Tree (Res E.T × St E.T) := dbody E (lookS S43) (lookD []) L43 0 false Try.f43
theorem B43_ok : FnOk Try.prog E 43 B43 := bodyC_ok sound mix S43_ok (SD := []) trivial (L := L43) (N := 0) (keep := false) Try.func43 rfl (by
  intro k g hg fr st out ho
  match k, hg with
  | _, hg => cases hg)
theorem F43 (s : N.TState) (client : Int) (m : N.TMark) (at_ : Int) (f : N.TFile) : (B43 [.val (.named 2) s, .val (.int .i64) client, .val (.named 1) m, .val (.int .i64) at_, .val (.named 0) f] []).get = N.ref7_marked_k (fun x_ => some (.ret [.val (.named 2) x_, .val (.named 1) m], [])) s client m at_ f := by kernel_rfl
noncomputable def i43 : Ins E (Res E.T × St E.T) := ⟨[.v (.named 2), .v (.int .i64), .v (.named 1), .v (.int .i64), .v (.named 0)], [], fun s client m at_ f => .opt (N.ref7_marked s client m at_ f) fun x_ => .ret (.ret [.val (.named 2) x_, .val (.named 1) m], [])⟩
theorem i43_ok : InsOk Try.prog 43 i43 := ⟨B43, B43_ok, by intro s client m at_ f out_ h_; exact ((F43 s client m at_ f).trans (N.ref7_marked_bind _ s client m at_ f)).trans h_⟩
noncomputable def P43 : Nat × D.Spec E := (43, .pure [(.named 2), (.int .i64), (.named 1), (.int .i64), (.named 0)] (pureF [i43]))
theorem p43 : SpecOk Try.prog E P43.1 P43.2 := pureI_ok Try.call43 ⟨i43_ok, trivial⟩

/-! tenancy/tenancyref7.Find -/
noncomputable def S44 : List (Nat × D.Spec E) := [P42]
theorem S44_ok : AllS Try.prog E S44 := ⟨p42, trivial⟩
abbrev h44_s0 (l : List N.TFile) (name : List UInt8) (i : Int) : Fr E.T := ofSlots E 26 [] [0, 1, 6] [.val (.slice (.named 0)) l, .val .str name, .val (.int .i64) i]
abbrev t44_s0 (l : List N.TFile) (name : List UInt8) (i : Int) : St E.T := []
def x44_s0 (l : List N.TFile) (name : List UInt8) (x_ : Int ⊕ Unit) : Tree (CodeOut E) := altT x_ (fun u0_ => .ret (.ret, ofSlots E 26 [] [4, 5] [.val (.int .i64) u0_, .val .bool true], [])) (fun w0_ => .ret (.exit 0, ofSlots E 26 [] [4, 5] [.undef, .undef], []))
noncomputable def g44_s0 : Ins E (CodeOut E) := ⟨[.v (.slice (.named 0)), .v .str, .v (.int .i64)], [], fun l name i => .opt (N.ref7_Find_l0 N.fuel l name i) (x44_s0 l name)⟩
noncomputable def L44 : Nat → LoopInfo E := clL E 26 [{ ks := [0, 1, 6], mvs := [], pro := [], d := [], g := some (insF [g44_s0]) }] []
theorem f44_s0 (l : List N.TFile) (name : List UInt8) (i : Int) : ((stepOf E S44 L44 0 0 Try.f44 (h44_s0 l name i) (t44_s0 l name i)).bind (nx E [0, 1, 6] [] [4, 5] 0)).get = N.ref7_Find_s0k N.fuel l name (fun v_ => some (.inl (h44_s0 l name v_, t44_s0 l name v_))) (fun x_ => some (.inr (.ret, ofSlots E 26 [] [4, 5] [.val (.int .i64) x_, .val .bool true], []))) (fun x_ => some (.inr (.exit 0, ofSlots E 26 [] [4, 5] [.undef, .undef], []))) i := by kernel_rfl
theorem q44_s0 : InsLp 26 [0, 1, 6] [] [] (stepOf E S44 L44 0 0 Try.f44) g44_s0 := by
  intro l name i out_ ho_
  obtain ⟨x_, h1_, h2_⟩ := Option.bind_eq_some_iff.1 ho_
  refine iter_loop (rs := [4, 5]) (step := N.ref7_Find_s0 N.fuel l name) (hd := fun v_ => h44_s0 l name v_) (sv := fun v_ => t44_s0 l name v_) (ex := x44_s0 l name) (fun v_ => ?_) N.fuel i h1_ h2_
  refine (f44_s0 l name v_).trans ((N.ref7_Find_s0_bind N.fuel l name _ _ _ v_).trans ?_)
  refine congrArg _ (funext fun s_ => ?_)
  rcases s_ with v_ | a | a <;> rfl
noncomputable def B44 : List (DVal E.T) → St E.T → Tree (Res E.T × St E.T) := dbody E (lookS S44) (lookD []) L44 0 false Try.f44
theorem B44_ok : FnOk Try.prog E 44 B44 := bodyC_ok sound mix S44_ok (SD := []) trivial (L := L44) (N := 0) (keep := false) Try.func44 rfl (by
  intro k g hg fr st out ho
  match k, hg with
  | 0, hg => cases hg; exact lp_ok (allLp_cons q44_s0 (allLp_nil)) fr st out ho
  | _ + 1, hg => cases hg)
theorem F44 (l : List N.TFile) (name : List UInt8) : (B44 [.val (.slice (.named 0)) l, .val .str name] []).get = N.ref7_Find_k N.fuel (fun x_ => some (.ret [.val (.int .i64) x_.1, .val .bool x_.2], [])) l name := by kernel_rfl
noncomputable def i44 : Ins E (Res E.T × St E.T) := ⟨[.v (.slice (.named 0)), .v .str], [], fun l name => .opt (N.ref7_Find N.fuel l name) fun x_ => .ret (.ret [.val (.int .i64) x_.1, .val .bool x_.2], [])⟩
theorem i44_ok : InsOk Try.prog 44 i44 := ⟨B44, B44_ok, by intro l name out_ h_; exact ((F44 l name).trans (N.ref7_Find_bind N.fuel _ l name)).trans h_⟩
noncomputable def P44 : Nat × D.Spec E := (44, .pure [(.slice (.named 0)), .str] (pureF [i44]))
theorem p44 : SpecOk Try.prog E P44.1 P44.2 := pureI_ok Try.call44 ⟨i44_ok, trivial⟩

/-! tenancy/tenancyref7.Room -/
noncomputable def S45 : List (Nat × D.Spec E) := []
theorem S45_ok : AllS Try.prog E S45 := trivial
abbrev h45_s0 (l : List N.TFile) (i : Int) : Fr E.T := ofSlots E 19 [] [0, 4] [.val (.slice (.named 0)) l, .val (.int .i64) i]
abbrev t45_s0 (l : List N.TFile) (i : Int) : St E.T := []
def x45_s0 (l : List N.TFile) (x_ : Int ⊕ Unit) : Tree (CodeOut E) := altT x_ (fun u0_ => .ret (.ret, ofSlots E 19 [] [2, 3] [.val (.int .i64) u0_, .val .bool true], [])) (fun w0_ => .ret (.exit 0, ofSlots E 19 [] [2, 3] [.undef, .undef], []))
noncomputable def g45_s0 : Ins E (CodeOut E) := ⟨[.v (.slice (.named 0)), .v (.int .i64)], [], fun l i => .opt (N.ref7_Room_l0 N.fuel l i) (x45_s0 l)⟩
noncomputable def L45 : Nat → LoopInfo E := clL E 19 [{ ks := [0, 4], mvs := [], pro := [], d := [], g := some (insF [g45_s0]) }] []
theorem f45_s0 (l : List N.TFile) (i : Int) : ((stepOf E S45 L45 0 0 Try.f45 (h45_s0 l i) (t45_s0 l i)).bind (nx E [0, 4] [] [2, 3] 0)).get = N.ref7_Room_s0k l (fun v_ => some (.inl (h45_s0 l v_, t45_s0 l v_))) (fun x_ => some (.inr (.ret, ofSlots E 19 [] [2, 3] [.val (.int .i64) x_, .val .bool true], []))) (fun x_ => some (.inr (.exit 0, ofSlots E 19 [] [2, 3] [.undef, .undef], []))) i := by kernel_rfl
theorem q45_s0 : InsLp 19 [0, 4] [] [] (stepOf E S45 L45 0 0 Try.f45) g45_s0 := by
  intro l i out_ ho_
  obtain ⟨x_, h1_, h2_⟩ := Option.bind_eq_some_iff.1 ho_
  refine iter_loop (rs := [2, 3]) (step := N.ref7_Room_s0 l) (hd := fun v_ => h45_s0 l v_) (sv := fun v_ => t45_s0 l v_) (ex := x45_s0 l) (fun v_ => ?_) N.fuel i h1_ h2_
  refine (f45_s0 l v_).trans ((N.ref7_Room_s0_bind l _ _ _ v_).trans ?_)
  refine congrArg _ (funext fun s_ => ?_)
  rcases s_ with v_ | a | a <;> rfl
noncomputable def B45 : List (DVal E.T) → St E.T → Tree (Res E.T × St E.T) := dbody E (lookS S45) (lookD []) L45 0 false Try.f45
theorem B45_ok : FnOk Try.prog E 45 B45 := bodyC_ok sound mix S45_ok (SD := []) trivial (L := L45) (N := 0) (keep := false) Try.func45 rfl (by
  intro k g hg fr st out ho
  match k, hg with
  | 0, hg => cases hg; exact lp_ok (allLp_cons q45_s0 (allLp_nil)) fr st out ho
  | _ + 1, hg => cases hg)
theorem F45 (l : List N.TFile) : (B45 [.val (.slice (.named 0)) l] []).get = N.ref7_Room_k N.fuel (fun x_ => some (.ret [.val (.int .i64) x_.1, .val .bool x_.2], [])) l := by kernel_rfl
noncomputable def i45 : Ins E (Res E.T × St E.T) := ⟨[.v (.slice (.named 0))], [], fun l => .opt (N.ref7_Room N.fuel l) fun x_ => .ret (.ret [.val (.int .i64) x_.1, .val .bool x_.2], [])⟩
theorem i45_ok : InsOk Try.prog 45 i45 := ⟨B45, B45_ok, by intro l out_ h_; exact ((F45 l).trans (N.ref7_Room_bind N.fuel _ l)).trans h_⟩
noncomputable def P45 : Nat × D.Spec E := (45, .pure [(.slice (.named 0))] (pureF [i45]))
theorem p45 : SpecOk Try.prog E P45.1 P45.2 := pureI_ok Try.call45 ⟨i45_ok, trivial⟩

/-! tenancy/tenancyref7.Open -/
noncomputable def S20 : List (Nat × D.Spec E) := [P42, P43, P44, P45]
theorem S20_ok : AllS Try.prog E S20 := ⟨p42, p43, p44, p45, trivial⟩
noncomputable def L20 : Nat → LoopInfo E := clL E 79 [] []
noncomputable def B20 : List (DVal E.T) → St E.T → Tree (Res E.T × St E.T) := dbody E (lookS S20) (lookD []) L20 0 false Try.f20
theorem B20_ok : FnOk Try.prog E 20 B20 := bodyC_ok sound mix S20_ok (SD := []) trivial (L := L20) (N := 0) (keep := false) Try.func20 rfl (by
  intro k g hg fr st out ho
  match k, hg with
  | _, hg => cases hg)
theorem F20 (s : N.TState) (client : Int) (seq : Int) (name : List UInt8) : (B20 [.val (.named 2) s, .val (.int .i64) client, .val (.int .i64) seq, .val .str name] []).get = N.ref7_Open_k N.fuel (fun x_ => some (.ret [.val (.named 2) x_.1, .val (.named 1) x_.2], [])) s client seq name := by kernel_rfl
noncomputable def i20 : Ins E (Res E.T × St E.T) := ⟨[.v (.named 2), .v (.int .i64), .v (.int .i64), .v .str], [], fun s client seq name => .opt (N.ref7_Open N.fuel s client seq name) fun x_ => .ret (.ret [.val (.named 2) x_.1, .val (.named 1) x_.2], [])⟩
theorem i20_ok : InsOk Try.prog 20 i20 := ⟨B20, B20_ok, by intro s client seq name out_ h_; exact ((F20 s client seq name).trans (N.ref7_Open_bind N.fuel _ s client seq name)).trans h_⟩
noncomputable def P20 : Nat × D.Spec E := (20, .pure [(.named 2), (.int .i64), (.int .i64), .str] (pureF [i20]))
theorem p20 : SpecOk Try.prog E P20.1 P20.2 := pureI_ok Try.call20 ⟨i20_ok, trivial⟩

/-! tenancy/tenancyref7.Boot -/
noncomputable def S27 : List (Nat × D.Spec E) := []
theorem S27_ok : AllS Try.prog E S27 := trivial
noncomputable def L27 : Nat → LoopInfo E := clL E 9 [] []
noncomputable def B27 : List (DVal E.T) → St E.T → Tree (Res E.T × St E.T) := dbody E (lookS S27) (lookD []) L27 0 false Try.f27
theorem B27_ok : FnOk Try.prog E 27 B27 := bodyC_ok sound mix S27_ok (SD := []) trivial (L := L27) (N := 0) (keep := false) Try.func27 rfl (by
  intro k g hg fr st out ho
  match k, hg with
  | _, hg => cases hg)
theorem F27 (s : N.TState) : (B27 [.val (.named 2) s] []).get = N.ref7_Boot_k (fun x_ => some (.ret [.val (.named 2) x_], [])) s := by kernel_rfl
noncomputable def i27 : Ins E (Res E.T × St E.T) := ⟨[.v (.named 2)], [], fun s => .ret (.ret [.val (.named 2) (N.ref7_Boot s)], [])⟩
theorem i27_ok : InsOk Try.prog 27 i27 := ⟨B27, B27_ok, by intro s out_ h_; exact ((F27 s).trans (N.ref7_Boot_bind _ s)).trans h_⟩
noncomputable def P27 : Nat × D.Spec E := (27, .pure [(.named 2)] (pureF [i27]))
theorem p27 : SpecOk Try.prog E P27.1 P27.2 := pureI_ok Try.call27 ⟨i27_ok, trivial⟩

/-! (*tenancy/tenancymade.Picks).Write -/
noncomputable def S49 : List (Nat × D.Spec E) := [P23]
theorem S49_ok : AllS Try.prog E S49 := ⟨p23, trivial⟩
noncomputable def L49 : Nat → LoopInfo E := clL E 11 [] []
noncomputable def B49 : List (DVal E.T) → St E.T → Tree (Res E.T × St E.T) := tidyF (dbody E (lookS S49) (lookD []) L49 0 false Try.f49)
theorem B49_ok : FnOk Try.prog E 49 B49 := tidy_fn ok (bodyC_ok sound mix S49_ok (SD := []) trivial (L := L49) (N := 0) (keep := false) Try.func49 rfl (by
  intro k g hg fr st out ho
  match k, hg with
  | _, hg => cases hg))
theorem F49 (p : N.Ttenancymade_Picks) : (B49 [.ptr 0 []] [.box false (.val (.named 5) p)]).get = N.made_Picks_Write_k (fun x_ => some (.ret [.val (.named 4) x_.1], [.box false (.val (.named 5) x_.2)])) p := by kernel_rfl
noncomputable def i49 : Ins E (Res E.T × St E.T) := ⟨[.ptr 0 []], [.box false (.v (.named 5))], fun p => .opt (N.made_Picks_Write p) fun x_ => .ret (.ret [.val (.named 4) x_.1], [.box false (.val (.named 5) x_.2)])⟩
theorem i49_ok : InsOk Try.prog 49 i49 := ⟨B49, B49_ok, by intro p out_ h_; exact ((F49 p).trans (N.made_Picks_Write_bind _ p)).trans h_⟩
noncomputable def P49 : Nat × D.Spec E := (49, .full [.ptr] false (fullF [i49]))
theorem p49 : SpecOk Try.prog E P49.1 P49.2 := fullI_ok ok Try.call49 ⟨i49_ok, trivial⟩

end Go.Proofs.Ythefogjlenmgfaa.I

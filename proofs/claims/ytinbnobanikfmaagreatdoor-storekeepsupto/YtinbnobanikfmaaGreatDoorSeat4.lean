/- The seat's functions, and the nice ones (1). -/
import Derived.Test.YtinbnobanikfmaaGreatDoorSeat1
import Derived.Test.YtinbnobanikfmaaGreatDoorSeat3
import Derived.Test.YtinbnobanikfmaaGreatDoorSeat2
set_option linter.unusedVariables false
set_option maxRecDepth 100000
namespace Go.Proofs.YtinbnobanikfmaaGreatDoor.S
open Go Go.Proofs.YtinbnobanikfmaaGreatDoor.D
noncomputable def S53 : List (Nat × D.Spec E) := []
theorem S53_ok : AllS Tryz.prog E S53 := trivial
noncomputable def L53 : Nat → LoopInfo E := clL E 7 [] []
noncomputable def B53 : List (DVal E.T) → St E.T → Tree (Res E.T × St E.T) := dbody E (lookS S53) (lookD []) L53 0 false Tryz.f53
theorem B53_ok : FnOk Tryz.prog E 53 B53 := bodyC_ok sound mix S53_ok (SD := []) trivial (L := L53) (N := 0) (keep := false) Tryz.func53 rfl (by
  intro k g hg fr st out ho
  match k, hg with
  | _, hg => cases hg)
theorem F53 (n : Int) : (B53 [.val (.int .i64) n] []).get = N.mark_New_k (fun x_ => some (.ret [.val (.slice (.named 3)) x_], [])) n := by kernel_rfl
noncomputable def i53 : Ins E (Res E.T × St E.T) := ⟨[.v (.int .i64)], [], fun n => .opt (N.mark_New n) fun x_ => .ret (.ret [.val (.slice (.named 3)) x_], [])⟩
theorem i53_ok : InsOk Tryz.prog 53 i53 := ⟨B53, B53_ok, by intro n out_ h_; exact ((F53 n).trans (N.mark_New_bind _ n)).trans h_⟩
noncomputable def P53 : Nat × D.Spec E := (53, .pure [(.int .i64)] (pureF [i53]))
theorem p53 : SpecOk Tryz.prog E P53.1 P53.2 := pureI_ok Tryz.call53 ⟨i53_ok, trivial⟩
noncomputable def S20 : List (Nat × D.Spec E) := [P53]
theorem S20_ok : AllS Tryz.prog E S20 := ⟨p53, trivial⟩
noncomputable def L20 : Nat → LoopInfo E := clL E 4 [] []
noncomputable def B20 : List (DVal E.T) → St E.T → Tree (Res E.T × St E.T) := dbody E (lookS S20) (lookD []) L20 0 false Tryz.f20
theorem B20_ok : FnOk Tryz.prog E 20 B20 := bodyC_ok sound mix S20_ok (SD := []) trivial (L := L20) (N := 0) (keep := false) Tryz.func20 rfl (by
  intro k g hg fr st out ho
  match k, hg with
  | _, hg => cases hg)
theorem F20 : (B20 [] []).get = N.state_New_k (fun x_ => some (.ret [.val (.named 4) x_], [])) := by kernel_rfl
noncomputable def i20 : Ins E (Res E.T × St E.T) := ⟨[], [], .opt (N.state_New) fun x_ => .ret (.ret [.val (.named 4) x_], [])⟩
theorem i20_ok : InsOk Tryz.prog 20 i20 := ⟨B20, B20_ok, by intro out_ h_; exact ((F20).trans (N.state_New_bind _)).trans h_⟩
noncomputable def P20 : Nat × D.Spec E := (20, .pure [] (pureF [i20]))
theorem p20 : SpecOk Tryz.prog E P20.1 P20.2 := pureI_ok Tryz.call20 ⟨i20_ok, trivial⟩
noncomputable def S93 : List (Nat × D.Spec E) := []
theorem S93_ok : AllS Tryz.prog E S93 := trivial
noncomputable def L93 : Nat → LoopInfo E := clL E 9 [] []
noncomputable def B93 : List (DVal E.T) → St E.T → Tree (Res E.T × St E.T) := dbody E (lookS S93) (lookD []) L93 0 false Tryz.f93
theorem B93_ok : FnOk Tryz.prog E 93 B93 := bodyC_ok sound mix S93_ok (SD := []) trivial (L := L93) (N := 0) (keep := false) Tryz.func93 rfl (by
  intro k g hg fr st out ho
  match k, hg with
  | _, hg => cases hg)
theorem F93 (v : Int) : (B93 [.val (.int .i64) v] []).get = N.state_number_k (fun x_ => some (.ret [.val .bool x_], [])) v := by kernel_rfl
noncomputable def i93 : Ins E (Res E.T × St E.T) := ⟨[.v (.int .i64)], [], fun v => .ret (.ret [.val .bool (N.state_number v)], [])⟩
theorem i93_ok : InsOk Tryz.prog 93 i93 := ⟨B93, B93_ok, by intro v out_ h_; exact ((F93 v).trans (N.state_number_bind _ v)).trans h_⟩
noncomputable def P93 : Nat × D.Spec E := (93, .pure [(.int .i64)] (pureF [i93]))
theorem p93 : SpecOk Tryz.prog E P93.1 P93.2 := pureI_ok Tryz.call93 ⟨i93_ok, trivial⟩
noncomputable def S114 : List (Nat × D.Spec E) := []
theorem S114_ok : AllS Tryz.prog E S114 := trivial
abbrev h114_s0 (name : List UInt8) (t7 : Int) (r0 : List UInt8) (t8 : Int) : Fr E.T := ofSlots E 27 [] [0, 6, 7, 8] [.val .str name, .own 0, .val (.int .i64) t7, .val (.int .i64) t8]
abbrev t114_s0 (name : List UInt8) (t7 : Int) (r0 : List UInt8) (t8 : Int) : St E.T := [.arr .live (.int .u8) r0]
def x114_s0 (name : List UInt8) (t7 : Int) (r0 : List UInt8) (x_ : Unit ⊕ Unit) : Tree (CodeOut E) := altT x_ (fun u0_ => .ret (.ret, ofSlots E 27 [] [0, 2] [.val .str name, .val .bool false], [.arr .live (.int .u8) r0])) (fun w0_ => .ret (.exit 0, ofSlots E 27 [] [0, 2] [.val .str name, .undef], [.arr .live (.int .u8) r0]))
noncomputable def g114_s0 : Ins E (CodeOut E) := ⟨[.v .str, .own 0, .v (.int .i64), .v (.int .i64)], [.arr .live (.int .u8)], fun name t7 t8 r0 => .opt (N.dir_May_l0 N.fuel name t7 r0 t8) (x114_s0 name t7 r0)⟩
noncomputable def L114 : Nat → LoopInfo E := clL E 27 [{ ks := [0, 6, 7, 8], mvs := [], pro := [], d := [], g := some (insF [g114_s0]) }] []
theorem f114_s0 (name : List UInt8) (t7 : Int) (r0 : List UInt8) (t8 : Int) : ((stepOf E S114 L114 0 0 Tryz.f114 (h114_s0 name t7 r0 t8) (t114_s0 name t7 r0 t8)).bind (nx E [0, 6, 7, 8] [] [0, 2] 1)).get = N.dir_May_s0k name t7 r0 (fun v_ => some (.inl (h114_s0 name t7 r0 v_, t114_s0 name t7 r0 v_))) (fun x_ => some (.inr (.ret, ofSlots E 27 [] [0, 2] [.val .str name, .val .bool false], [.arr .live (.int .u8) r0]))) (fun x_ => some (.inr (.exit 0, ofSlots E 27 [] [0, 2] [.val .str name, .undef], [.arr .live (.int .u8) r0]))) t8 := by kernel_rfl
theorem q114_s0 : InsLp 27 [0, 6, 7, 8] [] [] (stepOf E S114 L114 0 0 Tryz.f114) g114_s0 := by
  intro name t7 t8 r0 out_ ho_
  obtain ⟨x_, h1_, h2_⟩ := Option.bind_eq_some_iff.1 ho_
  refine iter_loop (rs := [0, 2]) (step := N.dir_May_s0 name t7 r0) (hd := fun v_ => h114_s0 name t7 r0 v_) (sv := fun v_ => t114_s0 name t7 r0 v_) (ex := x114_s0 name t7 r0) (fun v_ => ?_) N.fuel t8 h1_ h2_
  refine (f114_s0 name t7 r0 v_).trans ((N.dir_May_s0_bind name t7 r0 _ _ _ v_).trans ?_)
  refine congrArg _ (funext fun s_ => ?_)
  rcases s_ with v_ | a | a <;> rfl
noncomputable def B114 : List (DVal E.T) → St E.T → Tree (Res E.T × St E.T) := dbody E (lookS S114) (lookD []) L114 0 false Tryz.f114
theorem B114_ok : FnOk Tryz.prog E 114 B114 := bodyC_ok sound mix S114_ok (SD := []) trivial (L := L114) (N := 0) (keep := false) Tryz.func114 rfl (by
  intro k g hg fr st out ho
  match k, hg with
  | 0, hg => cases hg; exact lp_ok (allLp_cons q114_s0 (allLp_nil)) fr st out ho
  | _ + 1, hg => cases hg)
theorem F114 (name : List UInt8) : (B114 [.val .str name] []).get = N.dir_May_k N.fuel (fun x_ => some (.ret [.val .bool x_], [])) name := by kernel_rfl
noncomputable def i114 : Ins E (Res E.T × St E.T) := ⟨[.v .str], [], fun name => .opt (N.dir_May N.fuel name) fun x_ => .ret (.ret [.val .bool x_], [])⟩
theorem i114_ok : InsOk Tryz.prog 114 i114 := ⟨B114, B114_ok, by intro name out_ h_; exact ((F114 name).trans (N.dir_May_bind N.fuel _ name)).trans h_⟩
noncomputable def P114 : Nat × D.Spec E := (114, .pure [.str] (pureF [i114]))
theorem p114 : SpecOk Tryz.prog E P114.1 P114.2 := pureI_ok Tryz.call114 ⟨i114_ok, trivial⟩
noncomputable def S95 : List (Nat × D.Spec E) := [P114, P93]
theorem S95_ok : AllS Tryz.prog E S95 := ⟨p114, p93, trivial⟩
noncomputable def L95 : Nat → LoopInfo E := clL E 28 [] []
noncomputable def B95 : List (DVal E.T) → St E.T → Tree (Res E.T × St E.T) := dbody E (lookS S95) (lookD []) L95 0 false Tryz.f95
theorem B95_ok : FnOk Tryz.prog E 95 B95 := bodyC_ok sound mix S95_ok (SD := []) trivial (L := L95) (N := 0) (keep := false) Tryz.func95 rfl (by
  intro k g hg fr st out ho
  match k, hg with
  | _, hg => cases hg)
theorem F95 (f : N.TFile) : (B95 [.val (.named 2) f] []).get = N.state_mayFile_k N.fuel (fun x_ => some (.ret [.val .bool x_], [])) f := by kernel_rfl
noncomputable def i95 : Ins E (Res E.T × St E.T) := ⟨[.v (.named 2)], [], fun f => .opt (N.state_mayFile N.fuel f) fun x_ => .ret (.ret [.val .bool x_], [])⟩
theorem i95_ok : InsOk Tryz.prog 95 i95 := ⟨B95, B95_ok, by intro f out_ h_; exact ((F95 f).trans (N.state_mayFile_bind N.fuel _ f)).trans h_⟩
noncomputable def P95 : Nat × D.Spec E := (95, .pure [(.named 2)] (pureF [i95]))
theorem p95 : SpecOk Tryz.prog E P95.1 P95.2 := pureI_ok Tryz.call95 ⟨i95_ok, trivial⟩
noncomputable def S94 : List (Nat × D.Spec E) := []
theorem S94_ok : AllS Tryz.prog E S94 := trivial
noncomputable def L94 : Nat → LoopInfo E := clL E 14 [] []
noncomputable def B94 : List (DVal E.T) → St E.T → Tree (Res E.T × St E.T) := dbody E (lookS S94) (lookD []) L94 0 false Tryz.f94
theorem B94_ok : FnOk Tryz.prog E 94 B94 := bodyC_ok sound mix S94_ok (SD := []) trivial (L := L94) (N := 0) (keep := false) Tryz.func94 rfl (by
  intro k g hg fr st out ho
  match k, hg with
  | _, hg => cases hg)
theorem F94 (g : N.TFile) (o0 : N.TFile) : (B94 [.val (.named 2) g, .ptr 0 []] [.box true (.val (.named 2) o0)]).get = N.state_May_c1_k (fun x_ => some (.ret [.val .bool x_], [.box true (.val (.named 2) o0)])) g o0 := by kernel_rfl
noncomputable def i94 : Ins E (Res E.T × St E.T) := ⟨[.v (.named 2), .ptr 0 []], [.box true (.v (.named 2))], fun g o0 => .ret (.ret [.val .bool (N.state_May_c1 g o0)], [.box true (.val (.named 2) o0)])⟩
theorem i94_ok : InsOk Tryz.prog 94 i94 := ⟨B94, B94_ok, by intro g o0 out_ h_; exact ((F94 g o0).trans (N.state_May_c1_bind _ g o0)).trans h_⟩
noncomputable def P94 : Nat × D.Spec E := (94, .full [.data (.named 2), .ptr] true (fullF [i94]))
theorem p94 : SpecOk Tryz.prog E P94.1 P94.2 := fullI_ok ok Tryz.call94 ⟨i94_ok, trivial⟩
noncomputable def S115 : List (Nat × D.Spec E) := [P94]
theorem S115_ok : AllS Tryz.prog E S115 := ⟨p94, trivial⟩
abbrev h115_s0 (s : List N.TFile) (t7 : Int) (o0 : N.TFile) (t8 : Int) : Fr E.T := ofSlots E 19 [] [0, 1, 7, 8] [.val (.slice (.named 2)) s, .fn 94 [.ptr 0 []], .val (.int .i64) t7, .val (.int .i64) t8]
abbrev t115_s0 (s : List N.TFile) (t7 : Int) (o0 : N.TFile) (t8 : Int) : St E.T := [.box true (.val (.named 2) o0)]
def x115_s0 (s : List N.TFile) (t7 : Int) (o0 : N.TFile) (x_ : Int ⊕ Unit) : Tree (CodeOut E) := altT x_ (fun u0_ => .ret (.ret, ofSlots E 19 [] [4] [.val (.int .i64) u0_], [.box true (.val (.named 2) o0)])) (fun w0_ => .ret (.exit 0, ofSlots E 19 [] [4] [.undef], [.box true (.val (.named 2) o0)]))
noncomputable def g115_s0 : Ins E (CodeOut E) := ⟨[.v (.slice (.named 2)), .fn 94 [.ptr 0 []], .v (.int .i64), .v (.int .i64)], [.box true (.v (.named 2))], fun s t7 t8 o0 => .opt (N.slices_IndexFunc_File_l0 N.fuel s t7 o0 t8) (x115_s0 s t7 o0)⟩
noncomputable def L115 : Nat → LoopInfo E := clL E 19 [{ ks := [0, 1, 7, 8], mvs := [], pro := [], d := [], g := some (insF [g115_s0]) }] []
theorem f115_s0 (s : List N.TFile) (t7 : Int) (o0 : N.TFile) (t8 : Int) : ((stepOf E S115 L115 0 0 Tryz.f115 (h115_s0 s t7 o0 t8) (t115_s0 s t7 o0 t8)).bind (nx E [0, 1, 7, 8] [] [4] 1)).get = N.slices_IndexFunc_File_s0k s t7 o0 (fun v_ => some (.inl (h115_s0 s t7 o0 v_, t115_s0 s t7 o0 v_))) (fun x_ => some (.inr (.ret, ofSlots E 19 [] [4] [.val (.int .i64) x_], [.box true (.val (.named 2) o0)]))) (fun x_ => some (.inr (.exit 0, ofSlots E 19 [] [4] [.undef], [.box true (.val (.named 2) o0)]))) t8 := by kernel_rfl
theorem q115_s0 : InsLp 19 [0, 1, 7, 8] [] [] (stepOf E S115 L115 0 0 Tryz.f115) g115_s0 := by
  intro s t7 t8 o0 out_ ho_
  obtain ⟨x_, h1_, h2_⟩ := Option.bind_eq_some_iff.1 ho_
  refine iter_loop (rs := [4]) (step := N.slices_IndexFunc_File_s0 s t7 o0) (hd := fun v_ => h115_s0 s t7 o0 v_) (sv := fun v_ => t115_s0 s t7 o0 v_) (ex := x115_s0 s t7 o0) (fun v_ => ?_) N.fuel t8 h1_ h2_
  refine (f115_s0 s t7 o0 v_).trans ((N.slices_IndexFunc_File_s0_bind s t7 o0 _ _ _ v_).trans ?_)
  refine congrArg _ (funext fun s_ => ?_)
  rcases s_ with v_ | a | a <;> rfl
noncomputable def B115 : List (DVal E.T) → St E.T → Tree (Res E.T × St E.T) := dbody E (lookS S115) (lookD []) L115 0 false Tryz.f115
theorem B115_ok : FnOk Tryz.prog E 115 B115 := bodyC_ok sound mix S115_ok (SD := []) trivial (L := L115) (N := 0) (keep := false) Tryz.func115 rfl (by
  intro k g hg fr st out ho
  match k, hg with
  | 0, hg => cases hg; exact lp_ok (allLp_cons q115_s0 (allLp_nil)) fr st out ho
  | _ + 1, hg => cases hg)
theorem F115 (s : List N.TFile) (o0 : N.TFile) : (B115 [.val (.slice (.named 2)) s, .fn 94 [.ptr 0 []]] [.box true (.val (.named 2) o0)]).get = N.slices_IndexFunc_File_k N.fuel (fun x_ => some (.ret [.val (.int .i64) x_], [.box true (.val (.named 2) o0)])) s o0 := by kernel_rfl
noncomputable def i115 : Ins E (Res E.T × St E.T) := ⟨[.v (.slice (.named 2)), .fn 94 [.ptr 0 []]], [.box true (.v (.named 2))], fun s o0 => .opt (N.slices_IndexFunc_File N.fuel s o0) fun x_ => .ret (.ret [.val (.int .i64) x_], [.box true (.val (.named 2) o0)])⟩
theorem i115_ok : InsOk Tryz.prog 115 i115 := ⟨B115, B115_ok, by intro s o0 out_ h_; exact ((F115 s o0).trans (N.slices_IndexFunc_File_bind N.fuel _ s o0)).trans h_⟩
noncomputable def P115 : Nat × D.Spec E := (115, .full [.data (.slice (.named 2)), .func] true (fullF [i115]))
theorem p115 : SpecOk Tryz.prog E P115.1 P115.2 := fullI_ok ok Tryz.call115 ⟨i115_ok, trivial⟩
noncomputable def S96 : List (Nat × D.Spec E) := [P115]
theorem S96_ok : AllS Tryz.prog E S96 := ⟨p115, trivial⟩
noncomputable def L96 : Nat → LoopInfo E := clL E 9 [] []
noncomputable def B96 : List (DVal E.T) → St E.T → Tree (Res E.T × St E.T) := dbody E (lookS S96) (lookD []) L96 0 false Tryz.f96
theorem B96_ok : FnOk Tryz.prog E 96 B96 := bodyC_ok sound mix S96_ok (SD := []) trivial (L := L96) (N := 0) (keep := false) Tryz.func96 rfl (by
  intro k g hg fr st out ho
  match k, hg with
  | _, hg => cases hg)
theorem F96 (s : List N.TFile) (o0 : N.TFile) : (B96 [.val (.slice (.named 2)) s, .fn 94 [.ptr 0 []]] [.box true (.val (.named 2) o0)]).get = N.slices_ContainsFunc_File_k N.fuel (fun x_ => some (.ret [.val .bool x_], [.box true (.val (.named 2) o0)])) s o0 := by kernel_rfl
noncomputable def i96 : Ins E (Res E.T × St E.T) := ⟨[.v (.slice (.named 2)), .fn 94 [.ptr 0 []]], [.box true (.v (.named 2))], fun s o0 => .opt (N.slices_ContainsFunc_File N.fuel s o0) fun x_ => .ret (.ret [.val .bool x_], [.box true (.val (.named 2) o0)])⟩
theorem i96_ok : InsOk Tryz.prog 96 i96 := ⟨B96, B96_ok, by intro s o0 out_ h_; exact ((F96 s o0).trans (N.slices_ContainsFunc_File_bind N.fuel _ s o0)).trans h_⟩
noncomputable def P96 : Nat × D.Spec E := (96, .full [.data (.slice (.named 2)), .func] true (fullF [i96]))
theorem p96 : SpecOk Tryz.prog E P96.1 P96.2 := fullI_ok ok Tryz.call96 ⟨i96_ok, trivial⟩
noncomputable def S99 : List (Nat × D.Spec E) := [P93]
theorem S99_ok : AllS Tryz.prog E S99 := ⟨p93, trivial⟩
noncomputable def L99 : Nat → LoopInfo E := clL E 31 [] []
noncomputable def B99 : List (DVal E.T) → St E.T → Tree (Res E.T × St E.T) := dbody E (lookS S99) (lookD []) L99 0 false Tryz.f99
theorem B99_ok : FnOk Tryz.prog E 99 B99 := bodyC_ok sound mix S99_ok (SD := []) trivial (L := L99) (N := 0) (keep := false) Tryz.func99 rfl (by
  intro k g hg fr st out ho
  match k, hg with
  | _, hg => cases hg)
theorem F99 (m : N.TMark) : (B99 [.val (.named 3) m] []).get = N.state_mayMark_k (fun x_ => some (.ret [.val .bool x_], [])) m := by kernel_rfl
noncomputable def i99 : Ins E (Res E.T × St E.T) := ⟨[.v (.named 3)], [], fun m => .ret (.ret [.val .bool (N.state_mayMark m)], [])⟩
theorem i99_ok : InsOk Tryz.prog 99 i99 := ⟨B99, B99_ok, by intro m out_ h_; exact ((F99 m).trans (N.state_mayMark_bind _ m)).trans h_⟩
noncomputable def P99 : Nat × D.Spec E := (99, .pure [(.named 3)] (pureF [i99]))
theorem p99 : SpecOk Tryz.prog E P99.1 P99.2 := pureI_ok Tryz.call99 ⟨i99_ok, trivial⟩
noncomputable def S98 : List (Nat × D.Spec E) := [P99]
theorem S98_ok : AllS Tryz.prog E S98 := ⟨p99, trivial⟩
noncomputable def L98 : Nat → LoopInfo E := clL E 6 [] []
noncomputable def B98 : List (DVal E.T) → St E.T → Tree (Res E.T × St E.T) := dbody E (lookS S98) (lookD []) L98 0 false Tryz.f98
theorem B98_ok : FnOk Tryz.prog E 98 B98 := bodyC_ok sound mix S98_ok (SD := []) trivial (L := L98) (N := 0) (keep := false) Tryz.func98 rfl (by
  intro k g hg fr st out ho
  match k, hg with
  | _, hg => cases hg)
theorem F98 (m : N.TMark) : (B98 [.val (.named 3) m] []).get = N.state_May_c2_k (fun x_ => some (.ret [.val .bool x_], [])) m := by kernel_rfl
noncomputable def i98 : Ins E (Res E.T × St E.T) := ⟨[.v (.named 3)], [], fun m => .ret (.ret [.val .bool (N.state_May_c2 m)], [])⟩
theorem i98_ok : InsOk Tryz.prog 98 i98 := ⟨B98, B98_ok, by intro m out_ h_; exact ((F98 m).trans (N.state_May_c2_bind _ m)).trans h_⟩
noncomputable def P98 : Nat × D.Spec E := (98, .pure [(.named 3)] (pureF [i98]))
theorem p98 : SpecOk Tryz.prog E P98.1 P98.2 := pureI_ok Tryz.call98 ⟨i98_ok, trivial⟩
noncomputable def S116 : List (Nat × D.Spec E) := [P98]
theorem S116_ok : AllS Tryz.prog E S116 := ⟨p98, trivial⟩
abbrev h116_s0 (s : List N.TMark) (t7 : Int) (t8 : Int) : Fr E.T := ofSlots E 19 [] [0, 1, 7, 8] [.val (.slice (.named 3)) s, .fn 98 [], .val (.int .i64) t7, .val (.int .i64) t8]
abbrev t116_s0 (s : List N.TMark) (t7 : Int) (t8 : Int) : St E.T := []
def x116_s0 (s : List N.TMark) (t7 : Int) (x_ : Int ⊕ Unit) : Tree (CodeOut E) := altT x_ (fun u0_ => .ret (.ret, ofSlots E 19 [] [4] [.val (.int .i64) u0_], [])) (fun w0_ => .ret (.exit 0, ofSlots E 19 [] [4] [.undef], []))
noncomputable def g116_s0 : Ins E (CodeOut E) := ⟨[.v (.slice (.named 3)), .fn 98 [], .v (.int .i64), .v (.int .i64)], [], fun s t7 t8 => .opt (N.slices_IndexFunc_Mark_l0 N.fuel s t7 t8) (x116_s0 s t7)⟩
noncomputable def L116 : Nat → LoopInfo E := clL E 19 [{ ks := [0, 1, 7, 8], mvs := [], pro := [], d := [], g := some (insF [g116_s0]) }] []
theorem f116_s0 (s : List N.TMark) (t7 : Int) (t8 : Int) : ((stepOf E S116 L116 0 0 Tryz.f116 (h116_s0 s t7 t8) (t116_s0 s t7 t8)).bind (nx E [0, 1, 7, 8] [] [4] 0)).get = N.slices_IndexFunc_Mark_s0k s t7 (fun v_ => some (.inl (h116_s0 s t7 v_, t116_s0 s t7 v_))) (fun x_ => some (.inr (.ret, ofSlots E 19 [] [4] [.val (.int .i64) x_], []))) (fun x_ => some (.inr (.exit 0, ofSlots E 19 [] [4] [.undef], []))) t8 := by kernel_rfl
theorem q116_s0 : InsLp 19 [0, 1, 7, 8] [] [] (stepOf E S116 L116 0 0 Tryz.f116) g116_s0 := by
  intro s t7 t8 out_ ho_
  obtain ⟨x_, h1_, h2_⟩ := Option.bind_eq_some_iff.1 ho_
  refine iter_loop (rs := [4]) (step := N.slices_IndexFunc_Mark_s0 s t7) (hd := fun v_ => h116_s0 s t7 v_) (sv := fun v_ => t116_s0 s t7 v_) (ex := x116_s0 s t7) (fun v_ => ?_) N.fuel t8 h1_ h2_
  refine (f116_s0 s t7 v_).trans ((N.slices_IndexFunc_Mark_s0_bind s t7 _ _ _ v_).trans ?_)
  refine congrArg _ (funext fun s_ => ?_)
  rcases s_ with v_ | a | a <;> rfl
noncomputable def B116 : List (DVal E.T) → St E.T → Tree (Res E.T × St E.T) := dbody E (lookS S116) (lookD []) L116 0 false Tryz.f116
theorem B116_ok : FnOk Tryz.prog E 116 B116 := bodyC_ok sound mix S116_ok (SD := []) trivial (L := L116) (N := 0) (keep := false) Tryz.func116 rfl (by
  intro k g hg fr st out ho
  match k, hg with
  | 0, hg => cases hg; exact lp_ok (allLp_cons q116_s0 (allLp_nil)) fr st out ho
  | _ + 1, hg => cases hg)
theorem F116 (s : List N.TMark) : (B116 [.val (.slice (.named 3)) s, .fn 98 []] []).get = N.slices_IndexFunc_Mark_k N.fuel (fun x_ => some (.ret [.val (.int .i64) x_], [])) s := by kernel_rfl
noncomputable def i116 : Ins E (Res E.T × St E.T) := ⟨[.v (.slice (.named 3)), .fn 98 []], [], fun s => .opt (N.slices_IndexFunc_Mark N.fuel s) fun x_ => .ret (.ret [.val (.int .i64) x_], [])⟩
theorem i116_ok : InsOk Tryz.prog 116 i116 := ⟨B116, B116_ok, by intro s out_ h_; exact ((F116 s).trans (N.slices_IndexFunc_Mark_bind N.fuel _ s)).trans h_⟩
noncomputable def P116 : Nat × D.Spec E := (116, .full [.data (.slice (.named 3)), .func] true (fullF [i116]))
theorem p116 : SpecOk Tryz.prog E P116.1 P116.2 := fullI_ok ok Tryz.call116 ⟨i116_ok, trivial⟩
noncomputable def S97 : List (Nat × D.Spec E) := [P116]
theorem S97_ok : AllS Tryz.prog E S97 := ⟨p116, trivial⟩
noncomputable def L97 : Nat → LoopInfo E := clL E 9 [] []
noncomputable def B97 : List (DVal E.T) → St E.T → Tree (Res E.T × St E.T) := dbody E (lookS S97) (lookD []) L97 0 false Tryz.f97
theorem B97_ok : FnOk Tryz.prog E 97 B97 := bodyC_ok sound mix S97_ok (SD := []) trivial (L := L97) (N := 0) (keep := false) Tryz.func97 rfl (by
  intro k g hg fr st out ho
  match k, hg with
  | _, hg => cases hg)
theorem F97 (s : List N.TMark) : (B97 [.val (.slice (.named 3)) s, .fn 98 []] []).get = N.slices_ContainsFunc_Mark_k N.fuel (fun x_ => some (.ret [.val .bool x_], [])) s := by kernel_rfl
noncomputable def i97 : Ins E (Res E.T × St E.T) := ⟨[.v (.slice (.named 3)), .fn 98 []], [], fun s => .opt (N.slices_ContainsFunc_Mark N.fuel s) fun x_ => .ret (.ret [.val .bool x_], [])⟩
theorem i97_ok : InsOk Tryz.prog 97 i97 := ⟨B97, B97_ok, by intro s out_ h_; exact ((F97 s).trans (N.slices_ContainsFunc_Mark_bind N.fuel _ s)).trans h_⟩
noncomputable def P97 : Nat × D.Spec E := (97, .full [.data (.slice (.named 3)), .func] true (fullF [i97]))
theorem p97 : SpecOk Tryz.prog E P97.1 P97.2 := fullI_ok ok Tryz.call97 ⟨i97_ok, trivial⟩
noncomputable def S56 : List (Nat × D.Spec E) := [P93, P95, P96, P97]
theorem S56_ok : AllS Tryz.prog E S56 := ⟨p93, p95, p96, p97, trivial⟩
abbrev h56_s0 (t23 : List N.TFile) (t24 : Int) (s : N.TState) (t25 : Int) : Fr E.T := ofSlots E 47 [] [1, 23, 24, 25] [.ptr 0 [], .val (.slice (.named 2)) t23, .val (.int .i64) t24, .val (.int .i64) t25]
abbrev t56_s0 (t23 : List N.TFile) (t24 : Int) (s : N.TState) (t25 : Int) : St E.T := [.box false (.val (.named 4) s)]
def x56_s0 (t23 : List N.TFile) (t24 : Int) (s : N.TState) (x_ : N.TFile ⊕ Unit) : Tree (CodeOut E) := altT x_ (fun u0_ => .ret (.ret, ofSlots E 47 [] [1, 2] [.ptr 0 [], .val .bool false], [.box false (.val (.named 4) s), .box false (.val (.named 2) u0_)])) (fun w0_ => .ret (.exit 0, ofSlots E 47 [] [1, 2] [.ptr 0 [], .undef], [.box false (.val (.named 4) s)]))
noncomputable def g56_s0 : Ins E (CodeOut E) := ⟨[.ptr 0 [], .v (.slice (.named 2)), .v (.int .i64), .v (.int .i64)], [.box false (.v (.named 4))], fun t23 t24 t25 s => .opt (N.state_May_l0 N.fuel t23 t24 s t25) (x56_s0 t23 t24 s)⟩
noncomputable def L56 : Nat → LoopInfo E := clL E 47 [{ ks := [1, 23, 24, 25], mvs := [], pro := [], d := [], g := some (insF [g56_s0]) }] []
theorem f56_s0 (t23 : List N.TFile) (t24 : Int) (s : N.TState) (t25 : Int) : ((stepOf E S56 L56 0 0 Tryz.f56 (h56_s0 t23 t24 s t25) (t56_s0 t23 t24 s t25)).bind (nx E [1, 23, 24, 25] [] [1, 2] 1)).get = N.state_May_s0k N.fuel t23 t24 s (fun v_ => some (.inl (h56_s0 t23 t24 s v_, t56_s0 t23 t24 s v_))) (fun x_ => some (.inr (.ret, ofSlots E 47 [] [1, 2] [.ptr 0 [], .val .bool false], [.box false (.val (.named 4) s), .box false (.val (.named 2) x_)]))) (fun x_ => some (.inr (.exit 0, ofSlots E 47 [] [1, 2] [.ptr 0 [], .undef], [.box false (.val (.named 4) s)]))) t25 := by kernel_rfl
theorem q56_s0 : InsLp 47 [1, 23, 24, 25] [] [] (stepOf E S56 L56 0 0 Tryz.f56) g56_s0 := by
  intro t23 t24 t25 s out_ ho_
  obtain ⟨x_, h1_, h2_⟩ := Option.bind_eq_some_iff.1 ho_
  refine iter_loop (rs := [1, 2]) (step := N.state_May_s0 N.fuel t23 t24 s) (hd := fun v_ => h56_s0 t23 t24 s v_) (sv := fun v_ => t56_s0 t23 t24 s v_) (ex := x56_s0 t23 t24 s) (fun v_ => ?_) N.fuel t25 h1_ h2_
  refine (f56_s0 t23 t24 s v_).trans ((N.state_May_s0_bind N.fuel t23 t24 s _ _ _ v_).trans ?_)
  refine congrArg _ (funext fun s_ => ?_)
  rcases s_ with v_ | a | a <;> rfl
noncomputable def B56 : List (DVal E.T) → St E.T → Tree (Res E.T × St E.T) := dbody E (lookS S56) (lookD []) L56 0 false Tryz.f56
theorem B56_ok : FnOk Tryz.prog E 56 B56 := bodyC_ok sound mix S56_ok (SD := []) trivial (L := L56) (N := 0) (keep := false) Tryz.func56 rfl (by
  intro k g hg fr st out ho
  match k, hg with
  | 0, hg => cases hg; exact lp_ok (allLp_cons q56_s0 (allLp_nil)) fr st out ho
  | _ + 1, hg => cases hg)
theorem F56 (s : N.TState) : (B56 [.val (.named 4) s] []).get = N.state_May_k N.fuel (fun x_ => some (.ret [.val .bool x_], [])) s := by kernel_rfl
noncomputable def i56 : Ins E (Res E.T × St E.T) := ⟨[.v (.named 4)], [], fun s => .opt (N.state_May N.fuel s) fun x_ => .ret (.ret [.val .bool x_], [])⟩
theorem i56_ok : InsOk Tryz.prog 56 i56 := ⟨B56, B56_ok, by intro s out_ h_; exact ((F56 s).trans (N.state_May_bind N.fuel _ s)).trans h_⟩
noncomputable def P56 : Nat × D.Spec E := (56, .pure [(.named 4)] (pureF [i56]))
theorem p56 : SpecOk Tryz.prog E P56.1 P56.2 := pureI_ok Tryz.call56 ⟨i56_ok, trivial⟩
def B100 : List (DVal E.T) → St E.T → Tree (Res E.T × St E.T) := cloneF E (.int .u8)
noncomputable def P100 : Nat × D.Spec E := (100, .full [.data (.slice (.int .u8))] false B100)
theorem cf100 : ∃ R0 C R id o1 o2, Tryz.f100.body = some (.seq R0 (.seq (.seq (.region id #[o1, o2] false) C) R)) ∧ (o1.op = .move (.tmp 0) ∧ o1.dst = some 3 ∧ o1.guard = none) ∧ (o2.op = .binOp .eql 39 (.tmp 3) (.const (.slice none 0 0)) 39 ∧ o2.dst = some 4 ∧ o2.guard = none) ∧
    CloneFacts E Tryz.f100 (.int .u8) R0 C R (fun xs => put E (frame E Tryz.f100 [.val (.slice (.int .u8)) xs]) (some 2) .nils) (fun xs => put E (put E (put E (put E (frame E Tryz.f100 [.val (.slice (.int .u8)) xs]) (some 2) .nils) (some 3) (.val (.slice (.int .u8)) xs)) (some 4) (.val .bool true)) (some 2) .nils) (fun xs n => put E (put E (put E (put E (put E (put E (put E (frame E Tryz.f100 [.val (.slice (.int .u8)) xs]) (some 2) .nils) (some 3) (.val (.slice (.int .u8)) xs)) (some 4) (.val .bool false)) (some 5) .nils) (some 6) (.val (.slice (.int .u8)) xs)) (some 7) (.own n)) (some 2) (.own n)) :=
  ⟨_, _, _, _, _, _, rfl, ⟨rfl, rfl, rfl⟩, ⟨rfl, rfl, rfl⟩, by
    constructor
    all_goals intros
    all_goals kernel_rfl⟩
theorem p100 : SpecOk Tryz.prog E P100.1 P100.2 := by
  obtain ⟨R0, C, R, id, o1, o2, hb, h1, h2, hF⟩ := cf100
  exact ⟨Tryz.call100, clone_fn sound mix Tryz.func100 hb h1 h2 ⟨_, Tryz.underlying39⟩ hF⟩
noncomputable def S57 : List (Nat × D.Spec E) := [P100]
theorem S57_ok : AllS Tryz.prog E S57 := ⟨p100, trivial⟩
abbrev h57_s0 (v : Int) (n : Int) (b : List UInt8) : Fr E.T := ofSlots E 31 [] [0, 1, 2] [.own 0, .val (.int .i64) v, .val (.int .i64) n]
abbrev t57_s0 (v : Int) (n : Int) (b : List UInt8) : St E.T := [.arr .live (.int .u8) b]
def x57_s0 (v : Int) (x_ : List UInt8) : Tree (CodeOut E) := .ret (.exit 0, ofSlots E 31 [] [0, 6] [.own 0, .undef], [.arr .live (.int .u8) x_])
noncomputable def g57_s0 : Ins E (CodeOut E) := ⟨[.own 0, .v (.int .i64), .v (.int .i64)], [.arr .live (.int .u8)], fun v n b => .opt (N.bits_Put_l0 N.fuel v n b) (x57_s0 v)⟩
noncomputable def L57 : Nat → LoopInfo E := clL E 31 [{ ks := [0, 1, 2], mvs := [], pro := [], d := [], g := some (insF [g57_s0]) }] []
theorem f57_s0 (v : Int) (n : Int) (b : List UInt8) : ((stepOf E S57 L57 0 0 Tryz.f57 (h57_s0 v n b) (t57_s0 v n b)).bind (nx E [0, 1, 2] [] [0, 6] 1)).get = N.bits_Put_s0k v (fun v_ => some (.inl (h57_s0 v v_.1 v_.2, t57_s0 v v_.1 v_.2))) (fun x_ => some (.inr (.exit 0, ofSlots E 31 [] [0, 6] [.own 0, .undef], [.arr .live (.int .u8) x_]))) n b := by kernel_rfl
theorem q57_s0 : InsLp 31 [0, 1, 2] [] [] (stepOf E S57 L57 0 0 Tryz.f57) g57_s0 := by
  intro v n b out_ ho_
  obtain ⟨x_, h1_, h2_⟩ := Option.bind_eq_some_iff.1 ho_
  refine iter_loop (rs := [0, 6]) (step := N.bits_Put_s0 v) (hd := fun v_ => h57_s0 v v_.1 v_.2) (sv := fun v_ => t57_s0 v v_.1 v_.2) (ex := x57_s0 v) (fun v_ => ?_) N.fuel (n, b) h1_ h2_
  refine (f57_s0 v v_.1 v_.2).trans ((N.bits_Put_s0_bind v _ _ v_.1 v_.2).trans ?_)
  refine congrArg _ (funext fun s_ => ?_)
  rcases s_ with v_ | a <;> rfl
noncomputable def B57 : List (DVal E.T) → St E.T → Tree (Res E.T × St E.T) := tidyF (dbody E (lookS S57) (lookD []) L57 0 true Tryz.f57)
theorem B57_ok : FnOk Tryz.prog E 57 B57 := tidy_fn ok (bodyC_ok sound mix S57_ok (SD := []) trivial (L := L57) (N := 0) (keep := true) Tryz.func57 rfl (by
  intro k g hg fr st out ho
  match k, hg with
  | 0, hg => cases hg; exact lp_ok (allLp_cons q57_s0 (allLp_nil)) fr st out ho
  | _ + 1, hg => cases hg))
theorem F57 (b : List UInt8) (v : Int) (n : Int) : (B57 [.val (.slice (.int .u8)) b, .val (.int .i64) v, .val (.int .i64) n] []).get = N.bits_Put_k N.fuel (fun x_ => some (.ret [.own 0], [.arr .live (.int .u8) x_])) b v n := by kernel_rfl
noncomputable def i57 : Ins E (Res E.T × St E.T) := ⟨[.v (.slice (.int .u8)), .v (.int .i64), .v (.int .i64)], [], fun b v n => .opt (N.bits_Put N.fuel b v n) fun x_ => .ret (.ret [.own 0], [.arr .live (.int .u8) x_])⟩
theorem i57_ok : InsOk Tryz.prog 57 i57 := ⟨B57, B57_ok, by intro b v n out_ h_; exact ((F57 b v n).trans (N.bits_Put_bind N.fuel _ b v n)).trans h_⟩
noncomputable def P57 : Nat × D.Spec E := (57, .full [.data (.slice (.int .u8)), .data (.int .i64), .data (.int .i64)] false (fullF [i57]))
theorem p57 : SpecOk Tryz.prog E P57.1 P57.2 := fullI_ok ok Tryz.call57 ⟨i57_ok, trivial⟩
noncomputable def S101 : List (Nat × D.Spec E) := [P100]
theorem S101_ok : AllS Tryz.prog E S101 := ⟨p100, trivial⟩
noncomputable def L101 : Nat → LoopInfo E := clL E 19 [] []
noncomputable def B101 : List (DVal E.T) → St E.T → Tree (Res E.T × St E.T) := tidyF (dbody E (lookS S101) (lookD []) L101 0 true Tryz.f101)
theorem B101_ok : FnOk Tryz.prog E 101 B101 := tidy_fn ok (bodyC_ok sound mix S101_ok (SD := []) trivial (L := L101) (N := 0) (keep := true) Tryz.func101 rfl (by
  intro k g hg fr st out ho
  match k, hg with
  | _, hg => cases hg))
theorem F101 (b : List UInt8) (s : List UInt8) : (B101 [.val (.slice (.int .u8)) b, .val .str s] []).get = N.bits_Text_k (fun x_ => some (.ret [.own 0], [.arr .live (.int .u8) x_])) b s := by kernel_rfl
noncomputable def i101 : Ins E (Res E.T × St E.T) := ⟨[.v (.slice (.int .u8)), .v .str], [], fun b s => .opt (N.bits_Text b s) fun x_ => .ret (.ret [.own 0], [.arr .live (.int .u8) x_])⟩
theorem i101_ok : InsOk Tryz.prog 101 i101 := ⟨B101, B101_ok, by intro b s out_ h_; exact ((F101 b s).trans (N.bits_Text_bind _ b s)).trans h_⟩
noncomputable def P101 : Nat × D.Spec E := (101, .full [.data (.slice (.int .u8)), .data .str] false (fullF [i101]))
theorem p101 : SpecOk Tryz.prog E P101.1 P101.2 := fullI_ok ok Tryz.call101 ⟨i101_ok, trivial⟩
noncomputable def S58 : List (Nat × D.Spec E) := [P101]
theorem S58_ok : AllS Tryz.prog E S58 := ⟨p101, trivial⟩
noncomputable def L58 : Nat → LoopInfo E := clL E 16 [] []
noncomputable def B58 : List (DVal E.T) → St E.T → Tree (Res E.T × St E.T) := tidyF (dbody E (lookS S58) (lookD []) L58 0 true Tryz.f58)
theorem B58_ok : FnOk Tryz.prog E 58 B58 := tidy_fn ok (bodyC_ok sound mix S58_ok (SD := []) trivial (L := L58) (N := 0) (keep := true) Tryz.func58 rfl (by
  intro k g hg fr st out ho
  match k, hg with
  | _, hg => cases hg))
theorem F58 (b : List UInt8) (s : List UInt8) (n : Int) : (B58 [.val (.slice (.int .u8)) b, .val .str s, .val (.int .i64) n] []).get = N.image_padded_k (fun x_ => some (.ret [.own 0], [.arr .live (.int .u8) x_])) b s n := by kernel_rfl
noncomputable def i58 : Ins E (Res E.T × St E.T) := ⟨[.v (.slice (.int .u8)), .v .str, .v (.int .i64)], [], fun b s n => .opt (N.image_padded b s n) fun x_ => .ret (.ret [.own 0], [.arr .live (.int .u8) x_])⟩
theorem i58_ok : InsOk Tryz.prog 58 i58 := ⟨B58, B58_ok, by intro b s n out_ h_; exact ((F58 b s n).trans (N.image_padded_bind _ b s n)).trans h_⟩
noncomputable def P58 : Nat × D.Spec E := (58, .full [.data (.slice (.int .u8)), .data .str, .data (.int .i64)] false (fullF [i58]))
theorem p58 : SpecOk Tryz.prog E P58.1 P58.2 := fullI_ok ok Tryz.call58 ⟨i58_ok, trivial⟩
noncomputable def S23 : List (Nat × D.Spec E) := [P56, P57, P58]
theorem S23_ok : AllS Tryz.prog E S23 := ⟨p56, p57, p58, trivial⟩
abbrev h23_s0 (t18 : List N.TMark) (t19 : Int) (s : N.TState) (t20 : Int) (b : List UInt8) : Fr E.T := ofSlots E 74 [] [1, 2, 3, 18, 19, 20] [.ptr 0 [], .nils, .own 1, .val (.slice (.named 3)) t18, .val (.int .i64) t19, .val (.int .i64) t20]
abbrev t23_s0 (t18 : List N.TMark) (t19 : Int) (s : N.TState) (t20 : Int) (b : List UInt8) : St E.T := [.box false (.val (.named 4) s), .arr .live (.int .u8) b]
def x23_s0 (t18 : List N.TMark) (t19 : Int) (s : N.TState) (x_ : List UInt8) : Tree (CodeOut E) := .ret (.exit 0, ofSlots E 74 [] [1, 2, 3] [.ptr 0 [], .nils, .own 1], [.box false (.val (.named 4) s), .arr .live (.int .u8) x_])
noncomputable def g23_s0 : Ins E (CodeOut E) := ⟨[.ptr 0 [], .nils, .own 1, .v (.slice (.named 3)), .v (.int .i64), .v (.int .i64)], [.box false (.v (.named 4)), .arr .live (.int .u8)], fun t18 t19 t20 s b => .opt (N.image_Put_l0 N.fuel t18 t19 s t20 b) (x23_s0 t18 t19 s)⟩
abbrev h23_s1 (t39 : List N.TFile) (t40 : Int) (o0 : N.TState) (t41 : Int) (b : List UInt8) : Fr E.T := ofSlots E 74 [] [2, 3, 39, 40, 41] [.nils, .own 1, .val (.slice (.named 2)) t39, .val (.int .i64) t40, .val (.int .i64) t41]
abbrev t23_s1 (t39 : List N.TFile) (t40 : Int) (o0 : N.TState) (t41 : Int) (b : List UInt8) : St E.T := [.box false (.val (.named 4) o0), .arr .live (.int .u8) b]
def x23_s1 (t39 : List N.TFile) (t40 : Int) (o0 : N.TState) (x_ : List UInt8) : Tree (CodeOut E) := .ret (.exit 2, ofSlots E 74 [] [2, 3] [.nils, .own 1], [.box false (.val (.named 4) o0), .arr .live (.int .u8) x_])
noncomputable def g23_s1 : Ins E (CodeOut E) := ⟨[.nils, .own 1, .v (.slice (.named 2)), .v (.int .i64), .v (.int .i64)], [.box false (.v (.named 4)), .arr .live (.int .u8)], fun t39 t40 t41 o0 b => .opt (N.image_Put_l1 N.fuel t39 t40 o0 t41 b) (x23_s1 t39 t40 o0)⟩
noncomputable def L23 : Nat → LoopInfo E := clL E 74 [{ ks := [1, 2, 3, 18, 19, 20], mvs := [(3, 1)], pro := [], d := [], g := some (insF [g23_s0]) }, { ks := [2, 3, 39, 40, 41], mvs := [(3, 1)], pro := [], d := [], g := some (insF [g23_s1]) }] []
theorem f23_s0 (t18 : List N.TMark) (t19 : Int) (s : N.TState) (t20 : Int) (b : List UInt8) : ((stepOf E S23 L23 0 0 Tryz.f23 (h23_s0 t18 t19 s t20 b) (t23_s0 t18 t19 s t20 b)).bind (nx E [1, 2, 3, 18, 19, 20] [(3, 1)] [1, 2, 3] 2)).get = N.image_Put_s0k N.fuel t18 t19 s (fun v_ => some (.inl (h23_s0 t18 t19 s v_.1 v_.2, t23_s0 t18 t19 s v_.1 v_.2))) (fun x_ => some (.inr (.exit 0, ofSlots E 74 [] [1, 2, 3] [.ptr 0 [], .nils, .own 1], [.box false (.val (.named 4) s), .arr .live (.int .u8) x_]))) t20 b := by kernel_rfl
theorem q23_s0 : InsLp 74 [1, 2, 3, 18, 19, 20] [(3, 1)] [] (stepOf E S23 L23 0 0 Tryz.f23) g23_s0 := by
  intro t18 t19 t20 s b out_ ho_
  obtain ⟨x_, h1_, h2_⟩ := Option.bind_eq_some_iff.1 ho_
  refine iter_loop (rs := [1, 2, 3]) (step := N.image_Put_s0 N.fuel t18 t19 s) (hd := fun v_ => h23_s0 t18 t19 s v_.1 v_.2) (sv := fun v_ => t23_s0 t18 t19 s v_.1 v_.2) (ex := x23_s0 t18 t19 s) (fun v_ => ?_) N.fuel (t20, b) h1_ h2_
  refine (f23_s0 t18 t19 s v_.1 v_.2).trans ((N.image_Put_s0_bind N.fuel t18 t19 s _ _ v_.1 v_.2).trans ?_)
  refine congrArg _ (funext fun s_ => ?_)
  rcases s_ with v_ | a <;> rfl
theorem f23_s1 (t39 : List N.TFile) (t40 : Int) (o0 : N.TState) (t41 : Int) (b : List UInt8) : ((stepOf E S23 L23 0 1 Tryz.f23 (h23_s1 t39 t40 o0 t41 b) (t23_s1 t39 t40 o0 t41 b)).bind (nx E [2, 3, 39, 40, 41] [(3, 1)] [2, 3] 2)).get = N.image_Put_s1k N.fuel t39 t40 o0 (fun v_ => some (.inl (h23_s1 t39 t40 o0 v_.1 v_.2, t23_s1 t39 t40 o0 v_.1 v_.2))) (fun x_ => some (.inr (.exit 2, ofSlots E 74 [] [2, 3] [.nils, .own 1], [.box false (.val (.named 4) o0), .arr .live (.int .u8) x_]))) t41 b := by kernel_rfl
theorem q23_s1 : InsLp 74 [2, 3, 39, 40, 41] [(3, 1)] [] (stepOf E S23 L23 0 1 Tryz.f23) g23_s1 := by
  intro t39 t40 t41 o0 b out_ ho_
  obtain ⟨x_, h1_, h2_⟩ := Option.bind_eq_some_iff.1 ho_
  refine iter_loop (rs := [2, 3]) (step := N.image_Put_s1 N.fuel t39 t40 o0) (hd := fun v_ => h23_s1 t39 t40 o0 v_.1 v_.2) (sv := fun v_ => t23_s1 t39 t40 o0 v_.1 v_.2) (ex := x23_s1 t39 t40 o0) (fun v_ => ?_) N.fuel (t41, b) h1_ h2_
  refine (f23_s1 t39 t40 o0 v_.1 v_.2).trans ((N.image_Put_s1_bind N.fuel t39 t40 o0 _ _ v_.1 v_.2).trans ?_)
  refine congrArg _ (funext fun s_ => ?_)
  rcases s_ with v_ | a <;> rfl
noncomputable def B23 : List (DVal E.T) → St E.T → Tree (Res E.T × St E.T) := dbodyR E (lookS S23) L23 0 6 3 Tryz.f23
theorem B23_ok : FnOk Tryz.prog E 23 B23 := dbodyR_ok sound mix S23_ok (L := L23) (N := 0) (m := 6) (q := 3) Tryz.func23 rfl (by kernel_rfl) (by
  intro k g hg fr st out ho
  match k, hg with
  | 0, hg => cases hg; exact lp_ok (allLp_cons q23_s0 (allLp_nil)) fr st out ho
  | 1, hg => cases hg; exact lp_ok (allLp_cons q23_s1 (allLp_nil)) fr st out ho
  | _ + 2, hg => cases hg) tailPut
theorem F23 (s : N.TState) : (B23 [.val (.named 4) s] []).get = N.image_Put_k N.fuel (fun x_ => some (.ret [.val (.slice .str) x_], [])) s := by kernel_rfl
noncomputable def i23 : Ins E (Res E.T × St E.T) := ⟨[.v (.named 4)], [], fun s => .opt (N.image_Put N.fuel s) fun x_ => .ret (.ret [.val (.slice .str) x_], [])⟩
theorem i23_ok : InsOk Tryz.prog 23 i23 := ⟨B23, B23_ok, by intro s out_ h_; exact ((F23 s).trans (N.image_Put_bind N.fuel _ s)).trans h_⟩
noncomputable def P23 : Nat × D.Spec E := (23, .pure [(.named 4)] (pureF [i23]))
theorem p23 : SpecOk Tryz.prog E P23.1 P23.2 := pureI_ok Tryz.call23 ⟨i23_ok, trivial⟩
noncomputable def S36 : List (Nat × D.Spec E) := [P20, P23]
theorem S36_ok : AllS Tryz.prog E S36 := ⟨p20, p23, trivial⟩
noncomputable def L36 : Nat → LoopInfo E := clL E 4 [] []
noncomputable def B36 : List (DVal E.T) → St E.T → Tree (Res E.T × St E.T) := dbody E (lookS S36) (lookD []) L36 0 false Tryz.f36
theorem B36_ok : FnOk Tryz.prog E 36 B36 := bodyC_ok sound mix S36_ok (SD := []) trivial (L := L36) (N := 0) (keep := false) Tryz.func36 rfl (by
  intro k g hg fr st out ho
  match k, hg with
  | _, hg => cases hg)
theorem F36 : (B36 [] []).get = N.store_home_k N.fuel (fun x_ => some (.ret [.val (.int .i64) x_], [])) := by kernel_rfl
noncomputable def i36 : Ins E (Res E.T × St E.T) := ⟨[], [], .opt (N.store_home N.fuel) fun x_ => .ret (.ret [.val (.int .i64) x_], [])⟩
theorem i36_ok : InsOk Tryz.prog 36 i36 := ⟨B36, B36_ok, by intro out_ h_; exact ((F36).trans (N.store_home_bind N.fuel _)).trans h_⟩
noncomputable def P36 : Nat × D.Spec E := (36, .pure [] (pureF [i36]))
theorem p36 : SpecOk Tryz.prog E P36.1 P36.2 := pureI_ok Tryz.call36 ⟨i36_ok, trivial⟩
noncomputable def S22 : List (Nat × D.Spec E) := [P36]
theorem S22_ok : AllS Tryz.prog E S22 := ⟨p36, trivial⟩
noncomputable def L22 : Nat → LoopInfo E := clL E 4 [] []
noncomputable def B22 : List (DVal E.T) → St E.T → Tree (Res E.T × St E.T) := dbody E (lookS S22) (lookD []) L22 0 false Tryz.f22
theorem B22_ok : FnOk Tryz.prog E 22 B22 := bodyC_ok sound mix S22_ok (SD := []) trivial (L := L22) (N := 0) (keep := false) Tryz.func22 rfl (by
  intro k g hg fr st out ho
  match k, hg with
  | _, hg => cases hg)
theorem F22 : (B22 [] []).get = N.store_size_k N.fuel (fun x_ => some (.ret [.val (.int .i64) x_], [])) := by kernel_rfl
noncomputable def i22 : Ins E (Res E.T × St E.T) := ⟨[], [], .opt (N.store_size N.fuel) fun x_ => .ret (.ret [.val (.int .i64) x_], [])⟩
theorem i22_ok : InsOk Tryz.prog 22 i22 := ⟨B22, B22_ok, by intro out_ h_; exact ((F22).trans (N.store_size_bind N.fuel _)).trans h_⟩
noncomputable def P22 : Nat × D.Spec E := (22, .pure [] (pureF [i22]))
theorem p22 : SpecOk Tryz.prog E P22.1 P22.2 := pureI_ok Tryz.call22 ⟨i22_ok, trivial⟩
noncomputable def S110 : List (Nat × D.Spec E) := []
theorem S110_ok : AllS Tryz.prog E S110 := trivial
noncomputable def L110 : Nat → LoopInfo E := clL E 51 [] []
noncomputable def B110 : List (DVal E.T) → St E.T → Tree (Res E.T × St E.T) := dbody E (lookS S110) (lookD []) L110 0 false Tryz.f110
theorem B110_ok : FnOk Tryz.prog E 110 B110 := bodyC_ok sound mix S110_ok (SD := []) trivial (L := L110) (N := 0) (keep := false) Tryz.func110 rfl (by
  intro k g hg fr st out ho
  match k, hg with
  | _, hg => cases hg)
theorem F110 (x : Int) (y : Int) : (B110 [.val (.int .u64) x, .val (.int .u64) y] []).get = N.bits64_Mul64_k (fun x_ => some (.ret [.val (.int .u64) x_.1, .val (.int .u64) x_.2], [])) x y := by kernel_rfl
noncomputable def i110 : Ins E (Res E.T × St E.T) := ⟨[.v (.int .u64), .v (.int .u64)], [], fun x y => .ret (.ret [.val (.int .u64) ((N.bits64_Mul64 x y).1), .val (.int .u64) ((N.bits64_Mul64 x y).2)], [])⟩
theorem i110_ok : InsOk Tryz.prog 110 i110 := ⟨B110, B110_ok, by intro x y out_ h_; exact ((F110 x y).trans (N.bits64_Mul64_bind _ x y)).trans h_⟩
noncomputable def P110 : Nat × D.Spec E := (110, .pure [(.int .u64), (.int .u64)] (pureF [i110]))
theorem p110 : SpecOk Tryz.prog E P110.1 P110.2 := pureI_ok Tryz.call110 ⟨i110_ok, trivial⟩
noncomputable def P54 : Nat × D.Spec E := (54, .pure [.slice .str, .int .i64] rep1S)
theorem p54 : SpecOk Tryz.prog E P54.1 P54.2 := rep1_ok (mul_calls p110.2 (fun m => rfl))
noncomputable def S21 : List (Nat × D.Spec E) := [P54, P55]
theorem S21_ok : AllS Tryz.prog E S21 := ⟨p54, p55, trivial⟩
noncomputable def L21 : Nat → LoopInfo E := clL E 16 [] []
noncomputable def B21 : List (DVal E.T) → St E.T → Tree (Res E.T × St E.T) := dbody E (lookS S21) (lookD []) L21 0 false Tryz.f21
theorem B21_ok : FnOk Tryz.prog E 21 B21 := bodyC_ok sound mix S21_ok (SD := []) trivial (L := L21) (N := 0) (keep := false) Tryz.func21 rfl (by
  intro k g hg fr st out ho
  match k, hg with
  | _, hg => cases hg)
theorem F21 (n : Int) : (B21 [.val (.int .i64) n] []).get = N.disk_New_k (fun x_ => some (.ret [.val (.named 1) x_], [])) n := by kernel_rfl
noncomputable def i21 : Ins E (Res E.T × St E.T) := ⟨[.v (.int .i64)], [], fun n => .opt (N.disk_New n) fun x_ => .ret (.ret [.val (.named 1) x_], [])⟩
theorem i21_ok : InsOk Tryz.prog 21 i21 := ⟨B21, B21_ok, by intro n out_ h_; exact ((F21 n).trans (N.disk_New_bind _ n)).trans h_⟩
noncomputable def P21 : Nat × D.Spec E := (21, .pure [(.int .i64)] (pureF [i21]))
theorem p21 : SpecOk Tryz.prog E P21.1 P21.2 := pureI_ok Tryz.call21 ⟨i21_ok, trivial⟩
def B69 : List (DVal E.T) → St E.T → Tree (Res E.T × St E.T) := cloneF E .str
noncomputable def P69 : Nat × D.Spec E := (69, .full [.data (.slice .str)] false B69)
theorem cf69 : ∃ R0 C R id o1 o2, Tryz.f69.body = some (.seq R0 (.seq (.seq (.region id #[o1, o2] false) C) R)) ∧ (o1.op = .move (.tmp 0) ∧ o1.dst = some 3 ∧ o1.guard = none) ∧ (o2.op = .binOp .eql 26 (.tmp 3) (.const (.slice none 0 0)) 26 ∧ o2.dst = some 4 ∧ o2.guard = none) ∧
    CloneFacts E Tryz.f69 .str R0 C R (fun xs => put E (frame E Tryz.f69 [.val (.slice .str) xs]) (some 2) .nils) (fun xs => put E (put E (put E (put E (frame E Tryz.f69 [.val (.slice .str) xs]) (some 2) .nils) (some 3) (.val (.slice .str) xs)) (some 4) (.val .bool true)) (some 2) .nils) (fun xs n => put E (put E (put E (put E (put E (put E (put E (frame E Tryz.f69 [.val (.slice .str) xs]) (some 2) .nils) (some 3) (.val (.slice .str) xs)) (some 4) (.val .bool false)) (some 5) .nils) (some 6) (.val (.slice .str) xs)) (some 7) (.own n)) (some 2) (.own n)) :=
  ⟨_, _, _, _, _, _, rfl, ⟨rfl, rfl, rfl⟩, ⟨rfl, rfl, rfl⟩, by
    constructor
    all_goals intros
    all_goals kernel_rfl⟩
theorem p69 : SpecOk Tryz.prog E P69.1 P69.2 := by
  obtain ⟨R0, C, R, id, o1, o2, hb, h1, h2, hF⟩ := cf69
  exact ⟨Tryz.call69, clone_fn sound mix Tryz.func69 hb h1 h2 ⟨_, Tryz.underlying26⟩ hF⟩
def B70 : List (DVal E.T) → St E.T → Tree (Res E.T × St E.T) := cloneF E (.named 0)
noncomputable def P70 : Nat × D.Spec E := (70, .full [.data (.slice (.named 0))] false B70)
theorem cf70 : ∃ R0 C R id o1 o2, Tryz.f70.body = some (.seq R0 (.seq (.seq (.region id #[o1, o2] false) C) R)) ∧ (o1.op = .move (.tmp 0) ∧ o1.dst = some 3 ∧ o1.guard = none) ∧ (o2.op = .binOp .eql 27 (.tmp 3) (.const (.slice none 0 0)) 27 ∧ o2.dst = some 4 ∧ o2.guard = none) ∧
    CloneFacts E Tryz.f70 (.named 0) R0 C R (fun xs => put E (frame E Tryz.f70 [.val (.slice (.named 0)) xs]) (some 2) .nils) (fun xs => put E (put E (put E (put E (frame E Tryz.f70 [.val (.slice (.named 0)) xs]) (some 2) .nils) (some 3) (.val (.slice (.named 0)) xs)) (some 4) (.val .bool true)) (some 2) .nils) (fun xs n => put E (put E (put E (put E (put E (put E (put E (frame E Tryz.f70 [.val (.slice (.named 0)) xs]) (some 2) .nils) (some 3) (.val (.slice (.named 0)) xs)) (some 4) (.val .bool false)) (some 5) .nils) (some 6) (.val (.slice (.named 0)) xs)) (some 7) (.own n)) (some 2) (.own n)) :=
  ⟨_, _, _, _, _, _, rfl, ⟨rfl, rfl, rfl⟩, ⟨rfl, rfl, rfl⟩, by
    constructor
    all_goals intros
    all_goals kernel_rfl⟩
theorem p70 : SpecOk Tryz.prog E P70.1 P70.2 := by
  obtain ⟨R0, C, R, id, o1, o2, hb, h1, h2, hF⟩ := cf70
  exact ⟨Tryz.call70, clone_fn sound mix Tryz.func70 hb h1 h2 ⟨_, Tryz.underlying27⟩ hF⟩
noncomputable def S60 : List (Nat × D.Spec E) := [P69, P70]
theorem S60_ok : AllS Tryz.prog E S60 := ⟨p69, p70, trivial⟩
noncomputable def L60 : Nat → LoopInfo E := clL E 12 [] []
noncomputable def B60 : List (DVal E.T) → St E.T → Tree (Res E.T × St E.T) := tidyF (dbody E (lookS S60) (lookD []) L60 0 true Tryz.f60)
theorem B60_ok : FnOk Tryz.prog E 60 B60 := tidy_fn ok (bodyC_ok sound mix S60_ok (SD := []) trivial (L := L60) (N := 0) (keep := true) Tryz.func60 rfl (by
  intro k g hg fr st out ho
  match k, hg with
  | _, hg => cases hg))
theorem F60 (d : N.TDisk) : (B60 [.val (.named 1) d] []).get = N.disk_twin_k (fun x_ => some (.ret [.agg 1 [.own 2, .own 3, .val (.int .i64) d.Arm, .val .bool d.Down]], [.dead, .dead, .arr .live .str d.Last, .arr .live (.named 0) d.Wait])) d := by kernel_rfl
noncomputable def i60 : Ins E (Res E.T × St E.T) := ⟨[.v (.named 1)], [], fun d => .ret (.ret [.agg 1 [.own 2, .own 3, .val (.int .i64) d.Arm, .val .bool d.Down]], [.dead, .dead, .arr .live .str d.Last, .arr .live (.named 0) d.Wait])⟩
theorem i60_ok : InsOk Tryz.prog 60 i60 := ⟨B60, B60_ok, by intro d out_ h_; exact ((F60 d).trans (N.disk_twin_bind _ d)).trans h_⟩
noncomputable def P60 : Nat × D.Spec E := (60, .full [.data (.named 1)] false (fullF [i60]))
theorem p60 : SpecOk Tryz.prog E P60.1 P60.2 := fullI_ok ok Tryz.call60 ⟨i60_ok, trivial⟩
noncomputable def S61 : List (Nat × D.Spec E) := []
theorem S61_ok : AllS Tryz.prog E S61 := trivial
noncomputable def L61 : Nat → LoopInfo E := clL E 19 [] []
noncomputable def B61 : List (DVal E.T) → St E.T → Tree (Res E.T × St E.T) := dbody E (lookS S61) (lookD []) L61 0 false Tryz.f61
theorem B61_ok : FnOk Tryz.prog E 61 B61 := bodyC_ok sound mix S61_ok (SD := []) trivial (L := L61) (N := 0) (keep := false) Tryz.func61 rfl (by
  intro k g hg fr st out ho
  match k, hg with
  | _, hg => cases hg)
theorem F61 (d : N.TDisk) (i : Int) : (B61 [.val (.named 1) d, .val (.int .i64) i] []).get = N.disk_there_k (fun x_ => some (.ret [.val .bool x_], [])) d i := by kernel_rfl
noncomputable def i61 : Ins E (Res E.T × St E.T) := ⟨[.v (.named 1), .v (.int .i64)], [], fun d i => .ret (.ret [.val .bool (N.disk_there d i)], [])⟩
theorem i61_ok : InsOk Tryz.prog 61 i61 := ⟨B61, B61_ok, by intro d i out_ h_; exact ((F61 d i).trans (N.disk_there_bind _ d i)).trans h_⟩
noncomputable def P61 : Nat × D.Spec E := (61, .pure [(.named 1), (.int .i64)] (pureF [i61]))
theorem p61 : SpecOk Tryz.prog E P61.1 P61.2 := pureI_ok Tryz.call61 ⟨i61_ok, trivial⟩
noncomputable def S24 : List (Nat × D.Spec E) := [P60, P61]
theorem S24_ok : AllS Tryz.prog E S24 := ⟨p60, p61, trivial⟩
noncomputable def L24 : Nat → LoopInfo E := clL E 43 [] []
noncomputable def B24 : List (DVal E.T) → St E.T → Tree (Res E.T × St E.T) := dbody E (lookS S24) (lookD []) L24 0 false Tryz.f24
theorem B24_ok : FnOk Tryz.prog E 24 B24 := bodyC_ok sound mix S24_ok (SD := []) trivial (L := L24) (N := 0) (keep := false) Tryz.func24 rfl (by
  intro k g hg fr st out ho
  match k, hg with
  | _, hg => cases hg)
theorem F24 (d : N.TDisk) (i : Int) (b : List UInt8) : (B24 [.val (.named 1) d, .val (.int .i64) i, .val .str b] []).get = N.disk_Write_k (fun x_ => some (.ret [.val (.named 1) x_.1, .val .bool x_.2], [])) d i b := by kernel_rfl
noncomputable def i24 : Ins E (Res E.T × St E.T) := ⟨[.v (.named 1), .v (.int .i64), .v .str], [], fun d i b => .opt (N.disk_Write d i b) fun x_ => .ret (.ret [.val (.named 1) x_.1, .val .bool x_.2], [])⟩
theorem i24_ok : InsOk Tryz.prog 24 i24 := ⟨B24, B24_ok, by intro d i b out_ h_; exact ((F24 d i b).trans (N.disk_Write_bind _ d i b)).trans h_⟩
noncomputable def P24 : Nat × D.Spec E := (24, .pure [(.named 1), (.int .i64), .str] (pureF [i24]))
theorem p24 : SpecOk Tryz.prog E P24.1 P24.2 := pureI_ok Tryz.call24 ⟨i24_ok, trivial⟩
noncomputable def S62 : List (Nat × D.Spec E) := []
theorem S62_ok : AllS Tryz.prog E S62 := trivial
noncomputable def L62 : Nat → LoopInfo E := clL E 60 [] []
noncomputable def B62 : List (DVal E.T) → St E.T → Tree (Res E.T × St E.T) := tidyF (dbody E (lookS S62) (lookD []) L62 0 false Tryz.f62)
theorem B62_ok : FnOk Tryz.prog E 62 B62 := tidy_fn ok (bodyC_ok sound mix S62_ok (SD := []) trivial (L := L62) (N := 0) (keep := false) Tryz.func62 rfl (by
  intro k g hg fr st out ho
  match k, hg with
  | _, hg => cases hg))
theorem F62 (p : N.TPut) (n : Int) (f_d_Arm : Int) (f_d_Down : Bool) (a1_ : List (List UInt8)) (a2_ : List N.TPut) : (B62 [.ptr 0 [], .val (.named 0) p, .val (.int .i64) n] [.box false (.agg 9 [.agg 1 [.own 1, .own 2, .val (.int .i64) f_d_Arm, .val .bool f_d_Down]]), .arr .live .str a1_, .arr .live (.named 0) a2_]).get = N.disk_lasting_lasts_k (fun x_ => some (.ret [], [.box false (.agg 9 [.agg 1 [.own 1, .own 2, .val (.int .i64) x_.d.Arm, .val .bool x_.d.Down]]), .arr .live .str x_.d.Last, .arr .live (.named 0) x_.d.Wait])) p n (N.Tdisk_lasting.mk (N.TDisk.mk a1_ a2_ f_d_Arm f_d_Down)) := by kernel_rfl
noncomputable def i62 : Ins E (Res E.T × St E.T) := ⟨[.ptr 0 [], .v (.named 0), .v (.int .i64)], [.box false (.agg 9 [.agg 1 [.own 1, .own 2, .v (.int .i64), .v .bool]]), .arr .live .str, .arr .live (.named 0)], fun p n f_d_Arm f_d_Down a1_ a2_ => .opt (N.disk_lasting_lasts p n (N.Tdisk_lasting.mk (N.TDisk.mk a1_ a2_ f_d_Arm f_d_Down))) fun x_ => .ret (.ret [], [.box false (.agg 9 [.agg 1 [.own 1, .own 2, .val (.int .i64) x_.d.Arm, .val .bool x_.d.Down]]), .arr .live .str x_.d.Last, .arr .live (.named 0) x_.d.Wait])⟩
theorem i62_ok : InsOk Tryz.prog 62 i62 := ⟨B62, B62_ok, by intro p n f_d_Arm f_d_Down a1_ a2_ out_ h_; exact ((F62 p n f_d_Arm f_d_Down a1_ a2_).trans (N.disk_lasting_lasts_bind _ p n (N.Tdisk_lasting.mk (N.TDisk.mk a1_ a2_ f_d_Arm f_d_Down)))).trans h_⟩
noncomputable def P62 : Nat × D.Spec E := (62, .full [.ptr, .data (.named 0), .data (.int .i64)] false (fullF [i62]))
theorem p62 : SpecOk Tryz.prog E P62.1 P62.2 := fullI_ok ok Tryz.call62 ⟨i62_ok, trivial⟩
noncomputable def S25 : List (Nat × D.Spec E) := [P60, P62]
theorem S25_ok : AllS Tryz.prog E S25 := ⟨p60, p62, trivial⟩
abbrev h25_s0 (t18 : List N.TPut) (t19 : Int) (o0 : N.TDisk) (t20 : Int) (o1 : N.TDisk) (f : N.Tdisk_lasting) : Fr E.T := ofSlots E 36 [] [2, 4, 18, 19, 20] [.ptr 1 [], .ptr 6 [], .val (.slice (.named 0)) t18, .val (.int .i64) t19, .val (.int .i64) t20]
abbrev t25_s0 (t18 : List N.TPut) (t19 : Int) (o0 : N.TDisk) (t20 : Int) (o1 : N.TDisk) (f : N.Tdisk_lasting) : St E.T := [.box false (.val (.named 1) o0), .box false (.agg 1 [.nils, .nils, .val (.int .i64) o1.Arm, .val .bool o1.Down]), .dead, .dead, .arr .live .str f.d.Last, .arr .live (.named 0) f.d.Wait, .box false (.agg 9 [.agg 1 [.own 4, .own 5, .val (.int .i64) f.d.Arm, .val .bool f.d.Down]])]
def x25_s0 (t18 : List N.TPut) (t19 : Int) (o0 : N.TDisk) (x_ : N.TDisk × N.Tdisk_lasting) : Tree (CodeOut E) := .ret (.exit 0, ofSlots E 36 [] [2, 3, 4] [.ptr 1 [], .undef, .ptr 6 []], [.box false (.val (.named 1) o0), .box false (.agg 1 [.nils, .nils, .val (.int .i64) x_.1.Arm, .val .bool x_.1.Down]), .dead, .dead, .arr .live .str x_.2.d.Last, .arr .live (.named 0) x_.2.d.Wait, .box false (.agg 9 [.agg 1 [.own 4, .own 5, .val (.int .i64) x_.2.d.Arm, .val .bool x_.2.d.Down]])])
noncomputable def g25_s0 : Ins E (CodeOut E) := ⟨[.ptr 1 [], .ptr 6 [], .v (.slice (.named 0)), .v (.int .i64), .v (.int .i64)], [.box false (.v (.named 1)), .box false (.agg 1 [.nils, .nils, .v (.int .i64), .v .bool]), .dead, .dead, .arr .live .str, .arr .live (.named 0), .box false (.agg 9 [.agg 1 [.own 4, .own 5, .v (.int .i64), .v .bool]])], fun t18 t19 t20 o0 o1_Arm o1_Down a4_ a5_ f_d_Arm f_d_Down => .opt (N.disk_Flush_l0 N.fuel t18 t19 o0 t20 (N.TDisk.mk [] [] o1_Arm o1_Down) (N.Tdisk_lasting.mk (N.TDisk.mk a4_ a5_ f_d_Arm f_d_Down))) (x25_s0 t18 t19 o0)⟩
noncomputable def L25 : Nat → LoopInfo E := clL E 36 [{ ks := [2, 4, 18, 19, 20], mvs := [], pro := [], d := [], g := some (insF [g25_s0]) }] []
theorem f25_s0 (t18 : List N.TPut) (t19 : Int) (o0 : N.TDisk) (t20 : Int) (o1 : N.TDisk) (f : N.Tdisk_lasting) : ((stepOf E S25 L25 0 0 Tryz.f25 (h25_s0 t18 t19 o0 t20 o1 f) (t25_s0 t18 t19 o0 t20 o1 f)).bind (nx E [2, 4, 18, 19, 20] [] [2, 3, 4] 7)).get = N.disk_Flush_s0k t18 t19 o0 (fun v_ => some (.inl (h25_s0 t18 t19 o0 v_.1 v_.2.1 v_.2.2, t25_s0 t18 t19 o0 v_.1 v_.2.1 v_.2.2))) (fun x_ => some (.inr (.exit 0, ofSlots E 36 [] [2, 3, 4] [.ptr 1 [], .undef, .ptr 6 []], [.box false (.val (.named 1) o0), .box false (.agg 1 [.nils, .nils, .val (.int .i64) x_.1.Arm, .val .bool x_.1.Down]), .dead, .dead, .arr .live .str x_.2.d.Last, .arr .live (.named 0) x_.2.d.Wait, .box false (.agg 9 [.agg 1 [.own 4, .own 5, .val (.int .i64) x_.2.d.Arm, .val .bool x_.2.d.Down]])]))) t20 o1 f := by kernel_rfl
theorem q25_s0 : InsLp 36 [2, 4, 18, 19, 20] [] [] (stepOf E S25 L25 0 0 Tryz.f25) g25_s0 := by
  intro t18 t19 t20 o0 o1_Arm o1_Down a4_ a5_ f_d_Arm f_d_Down out_ ho_
  obtain ⟨x_, h1_, h2_⟩ := Option.bind_eq_some_iff.1 ho_
  refine iter_loop (rs := [2, 3, 4]) (step := N.disk_Flush_s0 t18 t19 o0) (hd := fun v_ => h25_s0 t18 t19 o0 v_.1 v_.2.1 v_.2.2) (sv := fun v_ => t25_s0 t18 t19 o0 v_.1 v_.2.1 v_.2.2) (ex := x25_s0 t18 t19 o0) (fun v_ => ?_) N.fuel (t20, (N.TDisk.mk [] [] o1_Arm o1_Down), (N.Tdisk_lasting.mk (N.TDisk.mk a4_ a5_ f_d_Arm f_d_Down))) h1_ h2_
  refine (f25_s0 t18 t19 o0 v_.1 v_.2.1 v_.2.2).trans ((N.disk_Flush_s0_bind t18 t19 o0 _ _ v_.1 v_.2.1 v_.2.2).trans ?_)
  refine congrArg _ (funext fun s_ => ?_)
  rcases s_ with v_ | a <;> rfl
noncomputable def B25 : List (DVal E.T) → St E.T → Tree (Res E.T × St E.T) := dbody E (lookS S25) (lookD []) L25 0 false Tryz.f25
theorem B25_ok : FnOk Tryz.prog E 25 B25 := bodyC_ok sound mix S25_ok (SD := []) trivial (L := L25) (N := 0) (keep := false) Tryz.func25 rfl (by
  intro k g hg fr st out ho
  match k, hg with
  | 0, hg => cases hg; exact lp_ok (allLp_cons q25_s0 (allLp_nil)) fr st out ho
  | _ + 1, hg => cases hg)
theorem F25 (d : N.TDisk) : (B25 [.val (.named 1) d] []).get = N.disk_Flush_k N.fuel (fun x_ => some (.ret [.val (.named 1) x_.1, .val .bool x_.2], [])) d := by kernel_rfl
noncomputable def i25 : Ins E (Res E.T × St E.T) := ⟨[.v (.named 1)], [], fun d => .opt (N.disk_Flush N.fuel d) fun x_ => .ret (.ret [.val (.named 1) x_.1, .val .bool x_.2], [])⟩
theorem i25_ok : InsOk Tryz.prog 25 i25 := ⟨B25, B25_ok, by intro d out_ h_; exact ((F25 d).trans (N.disk_Flush_bind N.fuel _ d)).trans h_⟩
noncomputable def P25 : Nat × D.Spec E := (25, .pure [(.named 1)] (pureF [i25]))
theorem p25 : SpecOk Tryz.prog E P25.1 P25.2 := pureI_ok Tryz.call25 ⟨i25_ok, trivial⟩
noncomputable def S8 : List (Nat × D.Spec E) := [P20, P21, P22, P23, P24, P25]
theorem S8_ok : AllS Tryz.prog E S8 := ⟨p20, p21, p22, p23, p24, p25, trivial⟩
abbrev h8_s0 (t9 : List (List UInt8)) (t10 : Int) (s : N.TState) (t11 : Int) (o0 : N.TStore) (d : N.TDisk) : Fr E.T := ofSlots E 32 [] [0, 1, 2, 9, 10, 11] [.ptr 0 [], .ptr 1 [], .ptr 2 [], .val (.slice .str) t9, .val (.int .i64) t10, .val (.int .i64) t11]
abbrev t8_s0 (t9 : List (List UInt8)) (t10 : Int) (s : N.TState) (t11 : Int) (o0 : N.TStore) (d : N.TDisk) : St E.T := [.box false (.agg 5 [.agg 1 [.nils, .nils, .val (.int .i64) o0.D.Arm, .val .bool o0.D.Down], .agg 4 [.nils, .nils, .val (.int .i64) o0.S.Epoch]]), .box false (.val (.named 4) s), .box false (.val (.named 1) d)]
def x8_s0 (t9 : List (List UInt8)) (t10 : Int) (s : N.TState) (x_ : N.TStore × N.TDisk) : Tree (CodeOut E) := .ret (.exit 0, ofSlots E 32 [] [0, 1, 2] [.ptr 0 [], .ptr 1 [], .ptr 2 []], [.box false (.agg 5 [.agg 1 [.nils, .nils, .val (.int .i64) x_.1.D.Arm, .val .bool x_.1.D.Down], .agg 4 [.nils, .nils, .val (.int .i64) x_.1.S.Epoch]]), .box false (.val (.named 4) s), .box false (.val (.named 1) x_.2)])
noncomputable def g8_s0 : Ins E (CodeOut E) := ⟨[.ptr 0 [], .ptr 1 [], .ptr 2 [], .v (.slice .str), .v (.int .i64), .v (.int .i64)], [.box false (.agg 5 [.agg 1 [.nils, .nils, .v (.int .i64), .v .bool], .agg 4 [.nils, .nils, .v (.int .i64)]]), .box false (.v (.named 4)), .box false (.v (.named 1))], fun t9 t10 t11 o0_D_Arm o0_D_Down o0_S_Epoch s d => .opt (N.store_Make_l0 N.fuel t9 t10 s t11 (N.TStore.mk (N.TDisk.mk [] [] o0_D_Arm o0_D_Down) (N.TState.mk [] [] o0_S_Epoch)) d) (x8_s0 t9 t10 s)⟩
noncomputable def L8 : Nat → LoopInfo E := clL E 32 [{ ks := [0, 1, 2, 9, 10, 11], mvs := [], pro := [], d := [], g := some (insF [g8_s0]) }] []
theorem f8_s0 (t9 : List (List UInt8)) (t10 : Int) (s : N.TState) (t11 : Int) (o0 : N.TStore) (d : N.TDisk) : ((stepOf E S8 L8 0 0 Tryz.f8 (h8_s0 t9 t10 s t11 o0 d) (t8_s0 t9 t10 s t11 o0 d)).bind (nx E [0, 1, 2, 9, 10, 11] [] [0, 1, 2] 3)).get = N.store_Make_s0k t9 t10 s (fun v_ => some (.inl (h8_s0 t9 t10 s v_.1 v_.2.1 v_.2.2, t8_s0 t9 t10 s v_.1 v_.2.1 v_.2.2))) (fun x_ => some (.inr (.exit 0, ofSlots E 32 [] [0, 1, 2] [.ptr 0 [], .ptr 1 [], .ptr 2 []], [.box false (.agg 5 [.agg 1 [.nils, .nils, .val (.int .i64) x_.1.D.Arm, .val .bool x_.1.D.Down], .agg 4 [.nils, .nils, .val (.int .i64) x_.1.S.Epoch]]), .box false (.val (.named 4) s), .box false (.val (.named 1) x_.2)]))) t11 o0 d := by kernel_rfl
theorem q8_s0 : InsLp 32 [0, 1, 2, 9, 10, 11] [] [] (stepOf E S8 L8 0 0 Tryz.f8) g8_s0 := by
  intro t9 t10 t11 o0_D_Arm o0_D_Down o0_S_Epoch s d out_ ho_
  obtain ⟨x_, h1_, h2_⟩ := Option.bind_eq_some_iff.1 ho_
  refine iter_loop (rs := [0, 1, 2]) (step := N.store_Make_s0 t9 t10 s) (hd := fun v_ => h8_s0 t9 t10 s v_.1 v_.2.1 v_.2.2) (sv := fun v_ => t8_s0 t9 t10 s v_.1 v_.2.1 v_.2.2) (ex := x8_s0 t9 t10 s) (fun v_ => ?_) N.fuel (t11, (N.TStore.mk (N.TDisk.mk [] [] o0_D_Arm o0_D_Down) (N.TState.mk [] [] o0_S_Epoch)), d) h1_ h2_
  refine (f8_s0 t9 t10 s v_.1 v_.2.1 v_.2.2).trans ((N.store_Make_s0_bind t9 t10 s _ _ v_.1 v_.2.1 v_.2.2).trans ?_)
  refine congrArg _ (funext fun s_ => ?_)
  rcases s_ with v_ | a <;> rfl
noncomputable def B8 : List (DVal E.T) → St E.T → Tree (Res E.T × St E.T) := dbody E (lookS S8) (lookD []) L8 0 false Tryz.f8
theorem B8_ok : FnOk Tryz.prog E 8 B8 := bodyC_ok sound mix S8_ok (SD := []) trivial (L := L8) (N := 0) (keep := false) Tryz.func8 rfl (by
  intro k g hg fr st out ho
  match k, hg with
  | 0, hg => cases hg; exact lp_ok (allLp_cons q8_s0 (allLp_nil)) fr st out ho
  | _ + 1, hg => cases hg)
theorem F8 : (B8 [] []).get = N.store_Make_k N.fuel (fun x_ => some (.ret [.val (.named 5) x_], [])) := by kernel_rfl
noncomputable def i8 : Ins E (Res E.T × St E.T) := ⟨[], [], .opt (N.store_Make N.fuel) fun x_ => .ret (.ret [.val (.named 5) x_], [])⟩
theorem i8_ok : InsOk Tryz.prog 8 i8 := ⟨B8, B8_ok, by intro out_ h_; exact ((F8).trans (N.store_Make_bind N.fuel _)).trans h_⟩
noncomputable def P8 : Nat × D.Spec E := (8, .pure [] (pureF [i8]))
theorem p8 : SpecOk Tryz.prog E P8.1 P8.2 := pureI_ok Tryz.call8 ⟨i8_ok, trivial⟩
noncomputable def S44 : List (Nat × D.Spec E) := []
theorem S44_ok : AllS Tryz.prog E S44 := trivial
abbrev h44_s0 (s : List UInt8) (i : Int) : Fr E.T := ofSlots E 28 [] [0, 3] [.val .str s, .val (.int .i64) i]
abbrev t44_s0 (s : List UInt8) (i : Int) : St E.T := []
def x44_s0 (s : List UInt8) (x_ : Unit ⊕ Unit) : Tree (CodeOut E) := altT x_ (fun u0_ => .ret (.ret, ofSlots E 28 [] [0, 2] [.val .str s, .val .bool false], [])) (fun w0_ => .ret (.exit 0, ofSlots E 28 [] [0, 2] [.val .str s, .undef], []))
noncomputable def g44_s0 : Ins E (CodeOut E) := ⟨[.v .str, .v (.int .i64)], [], fun s i => .opt (N.ref7_MayName_l0 N.fuel s i) (x44_s0 s)⟩
noncomputable def L44 : Nat → LoopInfo E := clL E 28 [{ ks := [0, 3], mvs := [], pro := [], d := [], g := some (insF [g44_s0]) }] []
theorem f44_s0 (s : List UInt8) (i : Int) : ((stepOf E S44 L44 0 0 Tryz.f44 (h44_s0 s i) (t44_s0 s i)).bind (nx E [0, 3] [] [0, 2] 0)).get = N.ref7_MayName_s0k s (fun v_ => some (.inl (h44_s0 s v_, t44_s0 s v_))) (fun x_ => some (.inr (.ret, ofSlots E 28 [] [0, 2] [.val .str s, .val .bool false], []))) (fun x_ => some (.inr (.exit 0, ofSlots E 28 [] [0, 2] [.val .str s, .undef], []))) i := by kernel_rfl
theorem q44_s0 : InsLp 28 [0, 3] [] [] (stepOf E S44 L44 0 0 Tryz.f44) g44_s0 := by
  intro s i out_ ho_
  obtain ⟨x_, h1_, h2_⟩ := Option.bind_eq_some_iff.1 ho_
  refine iter_loop (rs := [0, 2]) (step := N.ref7_MayName_s0 s) (hd := fun v_ => h44_s0 s v_) (sv := fun v_ => t44_s0 s v_) (ex := x44_s0 s) (fun v_ => ?_) N.fuel i h1_ h2_
  refine (f44_s0 s v_).trans ((N.ref7_MayName_s0_bind s _ _ _ v_).trans ?_)
  refine congrArg _ (funext fun s_ => ?_)
  rcases s_ with v_ | a | a <;> rfl
noncomputable def B44 : List (DVal E.T) → St E.T → Tree (Res E.T × St E.T) := dbody E (lookS S44) (lookD []) L44 0 false Tryz.f44
theorem B44_ok : FnOk Tryz.prog E 44 B44 := bodyC_ok sound mix S44_ok (SD := []) trivial (L := L44) (N := 0) (keep := false) Tryz.func44 rfl (by
  intro k g hg fr st out ho
  match k, hg with
  | 0, hg => cases hg; exact lp_ok (allLp_cons q44_s0 (allLp_nil)) fr st out ho
  | _ + 1, hg => cases hg)
theorem F44 (s : List UInt8) : (B44 [.val .str s] []).get = N.ref7_MayName_k N.fuel (fun x_ => some (.ret [.val .bool x_], [])) s := by kernel_rfl
noncomputable def i44 : Ins E (Res E.T × St E.T) := ⟨[.v .str], [], fun s => .opt (N.ref7_MayName N.fuel s) fun x_ => .ret (.ret [.val .bool x_], [])⟩
theorem i44_ok : InsOk Tryz.prog 44 i44 := ⟨B44, B44_ok, by intro s out_ h_; exact ((F44 s).trans (N.ref7_MayName_bind N.fuel _ s)).trans h_⟩
noncomputable def P44 : Nat × D.Spec E := (44, .pure [.str] (pureF [i44]))
theorem p44 : SpecOk Tryz.prog E P44.1 P44.2 := pureI_ok Tryz.call44 ⟨i44_ok, trivial⟩
noncomputable def S84 : List (Nat × D.Spec E) := []
theorem S84_ok : AllS Tryz.prog E S84 := trivial
noncomputable def L84 : Nat → LoopInfo E := clL E 36 [] []
noncomputable def B84 : List (DVal E.T) → St E.T → Tree (Res E.T × St E.T) := dbody E (lookS S84) (lookD []) L84 0 false Tryz.f84
theorem B84_ok : FnOk Tryz.prog E 84 B84 := bodyC_ok sound mix S84_ok (SD := []) trivial (L := L84) (N := 0) (keep := false) Tryz.func84 rfl (by
  intro k g hg fr st out ho
  match k, hg with
  | _, hg => cases hg)
theorem F84 (l : List N.TMark) (client : Int) (m : N.TMark) : (B84 [.val (.slice (.named 3)) l, .val (.int .i64) client, .val (.named 3) m] []).get = N.ref7_PutMark_k (fun x_ => some (.ret [.val (.slice (.named 3)) x_], [])) l client m := by kernel_rfl
noncomputable def i84 : Ins E (Res E.T × St E.T) := ⟨[.v (.slice (.named 3)), .v (.int .i64), .v (.named 3)], [], fun l client m => .opt (N.ref7_PutMark l client m) fun x_ => .ret (.ret [.val (.slice (.named 3)) x_], [])⟩
theorem i84_ok : InsOk Tryz.prog 84 i84 := ⟨B84, B84_ok, by intro l client m out_ h_; exact ((F84 l client m).trans (N.ref7_PutMark_bind _ l client m)).trans h_⟩
noncomputable def P84 : Nat × D.Spec E := (84, .pure [(.slice (.named 3)), (.int .i64), (.named 3)] (pureF [i84]))
theorem p84 : SpecOk Tryz.prog E P84.1 P84.2 := pureI_ok Tryz.call84 ⟨i84_ok, trivial⟩
noncomputable def S45 : List (Nat × D.Spec E) := [P84]
theorem S45_ok : AllS Tryz.prog E S45 := ⟨p84, trivial⟩
noncomputable def L45 : Nat → LoopInfo E := clL E 33 [] []
noncomputable def B45 : List (DVal E.T) → St E.T → Tree (Res E.T × St E.T) := dbody E (lookS S45) (lookD []) L45 0 false Tryz.f45
theorem B45_ok : FnOk Tryz.prog E 45 B45 := bodyC_ok sound mix S45_ok (SD := []) trivial (L := L45) (N := 0) (keep := false) Tryz.func45 rfl (by
  intro k g hg fr st out ho
  match k, hg with
  | _, hg => cases hg)
theorem F45 (s : N.TState) (client : Int) (m : N.TMark) (at_ : Int) (f : N.TFile) : (B45 [.val (.named 4) s, .val (.int .i64) client, .val (.named 3) m, .val (.int .i64) at_, .val (.named 2) f] []).get = N.ref7_marked_k (fun x_ => some (.ret [.val (.named 4) x_, .val (.named 3) m], [])) s client m at_ f := by kernel_rfl
noncomputable def i45 : Ins E (Res E.T × St E.T) := ⟨[.v (.named 4), .v (.int .i64), .v (.named 3), .v (.int .i64), .v (.named 2)], [], fun s client m at_ f => .opt (N.ref7_marked s client m at_ f) fun x_ => .ret (.ret [.val (.named 4) x_, .val (.named 3) m], [])⟩
theorem i45_ok : InsOk Tryz.prog 45 i45 := ⟨B45, B45_ok, by intro s client m at_ f out_ h_; exact ((F45 s client m at_ f).trans (N.ref7_marked_bind _ s client m at_ f)).trans h_⟩
noncomputable def P45 : Nat × D.Spec E := (45, .pure [(.named 4), (.int .i64), (.named 3), (.int .i64), (.named 2)] (pureF [i45]))
theorem p45 : SpecOk Tryz.prog E P45.1 P45.2 := pureI_ok Tryz.call45 ⟨i45_ok, trivial⟩
noncomputable def S46 : List (Nat × D.Spec E) := [P44]
theorem S46_ok : AllS Tryz.prog E S46 := ⟨p44, trivial⟩
abbrev h46_s0 (l : List N.TFile) (name : List UInt8) (i : Int) : Fr E.T := ofSlots E 26 [] [0, 1, 6] [.val (.slice (.named 2)) l, .val .str name, .val (.int .i64) i]
abbrev t46_s0 (l : List N.TFile) (name : List UInt8) (i : Int) : St E.T := []
def x46_s0 (l : List N.TFile) (name : List UInt8) (x_ : Int ⊕ Unit) : Tree (CodeOut E) := altT x_ (fun u0_ => .ret (.ret, ofSlots E 26 [] [4, 5] [.val (.int .i64) u0_, .val .bool true], [])) (fun w0_ => .ret (.exit 0, ofSlots E 26 [] [4, 5] [.undef, .undef], []))
noncomputable def g46_s0 : Ins E (CodeOut E) := ⟨[.v (.slice (.named 2)), .v .str, .v (.int .i64)], [], fun l name i => .opt (N.ref7_Find_l0 N.fuel l name i) (x46_s0 l name)⟩
noncomputable def L46 : Nat → LoopInfo E := clL E 26 [{ ks := [0, 1, 6], mvs := [], pro := [], d := [], g := some (insF [g46_s0]) }] []
theorem f46_s0 (l : List N.TFile) (name : List UInt8) (i : Int) : ((stepOf E S46 L46 0 0 Tryz.f46 (h46_s0 l name i) (t46_s0 l name i)).bind (nx E [0, 1, 6] [] [4, 5] 0)).get = N.ref7_Find_s0k N.fuel l name (fun v_ => some (.inl (h46_s0 l name v_, t46_s0 l name v_))) (fun x_ => some (.inr (.ret, ofSlots E 26 [] [4, 5] [.val (.int .i64) x_, .val .bool true], []))) (fun x_ => some (.inr (.exit 0, ofSlots E 26 [] [4, 5] [.undef, .undef], []))) i := by kernel_rfl
theorem q46_s0 : InsLp 26 [0, 1, 6] [] [] (stepOf E S46 L46 0 0 Tryz.f46) g46_s0 := by
  intro l name i out_ ho_
  obtain ⟨x_, h1_, h2_⟩ := Option.bind_eq_some_iff.1 ho_
  refine iter_loop (rs := [4, 5]) (step := N.ref7_Find_s0 N.fuel l name) (hd := fun v_ => h46_s0 l name v_) (sv := fun v_ => t46_s0 l name v_) (ex := x46_s0 l name) (fun v_ => ?_) N.fuel i h1_ h2_
  refine (f46_s0 l name v_).trans ((N.ref7_Find_s0_bind N.fuel l name _ _ _ v_).trans ?_)
  refine congrArg _ (funext fun s_ => ?_)
  rcases s_ with v_ | a | a <;> rfl
noncomputable def B46 : List (DVal E.T) → St E.T → Tree (Res E.T × St E.T) := dbody E (lookS S46) (lookD []) L46 0 false Tryz.f46
theorem B46_ok : FnOk Tryz.prog E 46 B46 := bodyC_ok sound mix S46_ok (SD := []) trivial (L := L46) (N := 0) (keep := false) Tryz.func46 rfl (by
  intro k g hg fr st out ho
  match k, hg with
  | 0, hg => cases hg; exact lp_ok (allLp_cons q46_s0 (allLp_nil)) fr st out ho
  | _ + 1, hg => cases hg)
theorem F46 (l : List N.TFile) (name : List UInt8) : (B46 [.val (.slice (.named 2)) l, .val .str name] []).get = N.ref7_Find_k N.fuel (fun x_ => some (.ret [.val (.int .i64) x_.1, .val .bool x_.2], [])) l name := by kernel_rfl
noncomputable def i46 : Ins E (Res E.T × St E.T) := ⟨[.v (.slice (.named 2)), .v .str], [], fun l name => .opt (N.ref7_Find N.fuel l name) fun x_ => .ret (.ret [.val (.int .i64) x_.1, .val .bool x_.2], [])⟩
theorem i46_ok : InsOk Tryz.prog 46 i46 := ⟨B46, B46_ok, by intro l name out_ h_; exact ((F46 l name).trans (N.ref7_Find_bind N.fuel _ l name)).trans h_⟩
noncomputable def P46 : Nat × D.Spec E := (46, .pure [(.slice (.named 2)), .str] (pureF [i46]))
theorem p46 : SpecOk Tryz.prog E P46.1 P46.2 := pureI_ok Tryz.call46 ⟨i46_ok, trivial⟩
noncomputable def S47 : List (Nat × D.Spec E) := []
theorem S47_ok : AllS Tryz.prog E S47 := trivial
abbrev h47_s0 (l : List N.TFile) (i : Int) : Fr E.T := ofSlots E 19 [] [0, 4] [.val (.slice (.named 2)) l, .val (.int .i64) i]
abbrev t47_s0 (l : List N.TFile) (i : Int) : St E.T := []
def x47_s0 (l : List N.TFile) (x_ : Int ⊕ Unit) : Tree (CodeOut E) := altT x_ (fun u0_ => .ret (.ret, ofSlots E 19 [] [2, 3] [.val (.int .i64) u0_, .val .bool true], [])) (fun w0_ => .ret (.exit 0, ofSlots E 19 [] [2, 3] [.undef, .undef], []))
noncomputable def g47_s0 : Ins E (CodeOut E) := ⟨[.v (.slice (.named 2)), .v (.int .i64)], [], fun l i => .opt (N.ref7_Room_l0 N.fuel l i) (x47_s0 l)⟩
noncomputable def L47 : Nat → LoopInfo E := clL E 19 [{ ks := [0, 4], mvs := [], pro := [], d := [], g := some (insF [g47_s0]) }] []
theorem f47_s0 (l : List N.TFile) (i : Int) : ((stepOf E S47 L47 0 0 Tryz.f47 (h47_s0 l i) (t47_s0 l i)).bind (nx E [0, 4] [] [2, 3] 0)).get = N.ref7_Room_s0k l (fun v_ => some (.inl (h47_s0 l v_, t47_s0 l v_))) (fun x_ => some (.inr (.ret, ofSlots E 19 [] [2, 3] [.val (.int .i64) x_, .val .bool true], []))) (fun x_ => some (.inr (.exit 0, ofSlots E 19 [] [2, 3] [.undef, .undef], []))) i := by kernel_rfl
theorem q47_s0 : InsLp 19 [0, 4] [] [] (stepOf E S47 L47 0 0 Tryz.f47) g47_s0 := by
  intro l i out_ ho_
  obtain ⟨x_, h1_, h2_⟩ := Option.bind_eq_some_iff.1 ho_
  refine iter_loop (rs := [2, 3]) (step := N.ref7_Room_s0 l) (hd := fun v_ => h47_s0 l v_) (sv := fun v_ => t47_s0 l v_) (ex := x47_s0 l) (fun v_ => ?_) N.fuel i h1_ h2_
  refine (f47_s0 l v_).trans ((N.ref7_Room_s0_bind l _ _ _ v_).trans ?_)
  refine congrArg _ (funext fun s_ => ?_)
  rcases s_ with v_ | a | a <;> rfl
noncomputable def B47 : List (DVal E.T) → St E.T → Tree (Res E.T × St E.T) := dbody E (lookS S47) (lookD []) L47 0 false Tryz.f47
theorem B47_ok : FnOk Tryz.prog E 47 B47 := bodyC_ok sound mix S47_ok (SD := []) trivial (L := L47) (N := 0) (keep := false) Tryz.func47 rfl (by
  intro k g hg fr st out ho
  match k, hg with
  | 0, hg => cases hg; exact lp_ok (allLp_cons q47_s0 (allLp_nil)) fr st out ho
  | _ + 1, hg => cases hg)
theorem F47 (l : List N.TFile) : (B47 [.val (.slice (.named 2)) l] []).get = N.ref7_Room_k N.fuel (fun x_ => some (.ret [.val (.int .i64) x_.1, .val .bool x_.2], [])) l := by kernel_rfl
noncomputable def i47 : Ins E (Res E.T × St E.T) := ⟨[.v (.slice (.named 2))], [], fun l => .opt (N.ref7_Room N.fuel l) fun x_ => .ret (.ret [.val (.int .i64) x_.1, .val .bool x_.2], [])⟩
theorem i47_ok : InsOk Tryz.prog 47 i47 := ⟨B47, B47_ok, by intro l out_ h_; exact ((F47 l).trans (N.ref7_Room_bind N.fuel _ l)).trans h_⟩
noncomputable def P47 : Nat × D.Spec E := (47, .pure [(.slice (.named 2))] (pureF [i47]))
theorem p47 : SpecOk Tryz.prog E P47.1 P47.2 := pureI_ok Tryz.call47 ⟨i47_ok, trivial⟩
noncomputable def S15 : List (Nat × D.Spec E) := [P44, P45, P46, P47]
theorem S15_ok : AllS Tryz.prog E S15 := ⟨p44, p45, p46, p47, trivial⟩
noncomputable def L15 : Nat → LoopInfo E := clL E 79 [] []
noncomputable def B15 : List (DVal E.T) → St E.T → Tree (Res E.T × St E.T) := dbody E (lookS S15) (lookD []) L15 0 false Tryz.f15
theorem B15_ok : FnOk Tryz.prog E 15 B15 := bodyC_ok sound mix S15_ok (SD := []) trivial (L := L15) (N := 0) (keep := false) Tryz.func15 rfl (by
  intro k g hg fr st out ho
  match k, hg with
  | _, hg => cases hg)
theorem F15 (s : N.TState) (client : Int) (seq : Int) (name : List UInt8) : (B15 [.val (.named 4) s, .val (.int .i64) client, .val (.int .i64) seq, .val .str name] []).get = N.ref7_Open_k N.fuel (fun x_ => some (.ret [.val (.named 4) x_.1, .val (.named 3) x_.2], [])) s client seq name := by kernel_rfl
noncomputable def i15 : Ins E (Res E.T × St E.T) := ⟨[.v (.named 4), .v (.int .i64), .v (.int .i64), .v .str], [], fun s client seq name => .opt (N.ref7_Open N.fuel s client seq name) fun x_ => .ret (.ret [.val (.named 4) x_.1, .val (.named 3) x_.2], [])⟩
theorem i15_ok : InsOk Tryz.prog 15 i15 := ⟨B15, B15_ok, by intro s client seq name out_ h_; exact ((F15 s client seq name).trans (N.ref7_Open_bind N.fuel _ s client seq name)).trans h_⟩
noncomputable def P15 : Nat × D.Spec E := (15, .pure [(.named 4), (.int .i64), (.int .i64), .str] (pureF [i15]))
theorem p15 : SpecOk Tryz.prog E P15.1 P15.2 := pureI_ok Tryz.call15 ⟨i15_ok, trivial⟩
def B67 : List (DVal E.T) → St E.T → Tree (Res E.T × St E.T) := cloneF E (.named 2)
noncomputable def P67 : Nat × D.Spec E := (67, .full [.data (.slice (.named 2))] false B67)
theorem cf67 : ∃ R0 C R id o1 o2, Tryz.f67.body = some (.seq R0 (.seq (.seq (.region id #[o1, o2] false) C) R)) ∧ (o1.op = .move (.tmp 0) ∧ o1.dst = some 3 ∧ o1.guard = none) ∧ (o2.op = .binOp .eql 30 (.tmp 3) (.const (.slice none 0 0)) 30 ∧ o2.dst = some 4 ∧ o2.guard = none) ∧
    CloneFacts E Tryz.f67 (.named 2) R0 C R (fun xs => put E (frame E Tryz.f67 [.val (.slice (.named 2)) xs]) (some 2) .nils) (fun xs => put E (put E (put E (put E (frame E Tryz.f67 [.val (.slice (.named 2)) xs]) (some 2) .nils) (some 3) (.val (.slice (.named 2)) xs)) (some 4) (.val .bool true)) (some 2) .nils) (fun xs n => put E (put E (put E (put E (put E (put E (put E (frame E Tryz.f67 [.val (.slice (.named 2)) xs]) (some 2) .nils) (some 3) (.val (.slice (.named 2)) xs)) (some 4) (.val .bool false)) (some 5) .nils) (some 6) (.val (.slice (.named 2)) xs)) (some 7) (.own n)) (some 2) (.own n)) :=
  ⟨_, _, _, _, _, _, rfl, ⟨rfl, rfl, rfl⟩, ⟨rfl, rfl, rfl⟩, by
    constructor
    all_goals intros
    all_goals kernel_rfl⟩
theorem p67 : SpecOk Tryz.prog E P67.1 P67.2 := by
  obtain ⟨R0, C, R, id, o1, o2, hb, h1, h2, hF⟩ := cf67
  exact ⟨Tryz.call67, clone_fn sound mix Tryz.func67 hb h1 h2 ⟨_, Tryz.underlying30⟩ hF⟩
def B68 : List (DVal E.T) → St E.T → Tree (Res E.T × St E.T) := cloneF E (.named 3)
noncomputable def P68 : Nat × D.Spec E := (68, .full [.data (.slice (.named 3))] false B68)
theorem cf68 : ∃ R0 C R id o1 o2, Tryz.f68.body = some (.seq R0 (.seq (.seq (.region id #[o1, o2] false) C) R)) ∧ (o1.op = .move (.tmp 0) ∧ o1.dst = some 3 ∧ o1.guard = none) ∧ (o2.op = .binOp .eql 31 (.tmp 3) (.const (.slice none 0 0)) 31 ∧ o2.dst = some 4 ∧ o2.guard = none) ∧
    CloneFacts E Tryz.f68 (.named 3) R0 C R (fun xs => put E (frame E Tryz.f68 [.val (.slice (.named 3)) xs]) (some 2) .nils) (fun xs => put E (put E (put E (put E (frame E Tryz.f68 [.val (.slice (.named 3)) xs]) (some 2) .nils) (some 3) (.val (.slice (.named 3)) xs)) (some 4) (.val .bool true)) (some 2) .nils) (fun xs n => put E (put E (put E (put E (put E (put E (put E (frame E Tryz.f68 [.val (.slice (.named 3)) xs]) (some 2) .nils) (some 3) (.val (.slice (.named 3)) xs)) (some 4) (.val .bool false)) (some 5) .nils) (some 6) (.val (.slice (.named 3)) xs)) (some 7) (.own n)) (some 2) (.own n)) :=
  ⟨_, _, _, _, _, _, rfl, ⟨rfl, rfl, rfl⟩, ⟨rfl, rfl, rfl⟩, by
    constructor
    all_goals intros
    all_goals kernel_rfl⟩
theorem p68 : SpecOk Tryz.prog E P68.1 P68.2 := by
  obtain ⟨R0, C, R, id, o1, o2, hb, h1, h2, hF⟩ := cf68
  exact ⟨Tryz.call68, clone_fn sound mix Tryz.func68 hb h1 h2 ⟨_, Tryz.underlying31⟩ hF⟩
noncomputable def S34 : List (Nat × D.Spec E) := [P67, P68]
theorem S34_ok : AllS Tryz.prog E S34 := ⟨p67, p68, trivial⟩
noncomputable def L34 : Nat → LoopInfo E := clL E 12 [] []
noncomputable def B34 : List (DVal E.T) → St E.T → Tree (Res E.T × St E.T) := dbody E (lookS S34) (lookD []) L34 0 false Tryz.f34
theorem B34_ok : FnOk Tryz.prog E 34 B34 := bodyC_ok sound mix S34_ok (SD := []) trivial (L := L34) (N := 0) (keep := false) Tryz.func34 rfl (by
  intro k g hg fr st out ho
  match k, hg with
  | _, hg => cases hg)
theorem F34 (s : N.TState) : (B34 [.val (.named 4) s] []).get = N.store_twin_k (fun x_ => some (.ret [.val (.named 4) s], [])) s := by kernel_rfl
noncomputable def i34 : Ins E (Res E.T × St E.T) := ⟨[.v (.named 4)], [], fun s => .ret (.ret [.val (.named 4) s], [])⟩
theorem i34_ok : InsOk Tryz.prog 34 i34 := ⟨B34, B34_ok, by intro s out_ h_; exact ((F34 s).trans (N.store_twin_bind _ s)).trans h_⟩
noncomputable def P34 : Nat × D.Spec E := (34, .pure [(.named 4)] (pureF [i34]))
theorem p34 : SpecOk Tryz.prog E P34.1 P34.2 := pureI_ok Tryz.call34 ⟨i34_ok, trivial⟩
noncomputable def S71 : List (Nat × D.Spec E) := []
theorem S71_ok : AllS Tryz.prog E S71 := trivial
abbrev h71_s0 (home : Int) (l : List N.TPut) (t10 : List N.TPut) (t11 : Int) (d : N.TDisk) (last : Int) (t12 : Int) : Fr E.T := ofSlots E 48 [] [1, 2, 3, 7, 10, 11, 12] [.val (.int .i64) home, .val (.slice (.named 0)) l, .ptr 0 [], .val (.int .i64) last, .val (.slice (.named 0)) t10, .val (.int .i64) t11, .val (.int .i64) t12]
abbrev t71_s0 (home : Int) (l : List N.TPut) (t10 : List N.TPut) (t11 : Int) (d : N.TDisk) (last : Int) (t12 : Int) : St E.T := [.box false (.val (.named 1) d)]
def x71_s0 (home : Int) (l : List N.TPut) (t10 : List N.TPut) (t11 : Int) (d : N.TDisk) (x_ : N.TPut ⊕ Unit) : Tree (CodeOut E) := altT x_ (fun u0_ => .ret (.ret, ofSlots E 48 [] [1, 2, 3, 6] [.val (.int .i64) home, .val (.slice (.named 0)) l, .ptr 0 [], .val .bool false], [.box false (.val (.named 1) d), .box false (.val (.named 0) u0_)])) (fun w0_ => .ret (.exit 0, ofSlots E 48 [] [1, 2, 3, 6] [.val (.int .i64) home, .val (.slice (.named 0)) l, .ptr 0 [], .undef], [.box false (.val (.named 1) d)]))
noncomputable def g71_s0 : Ins E (CodeOut E) := ⟨[.v (.int .i64), .v (.slice (.named 0)), .ptr 0 [], .v (.int .i64), .v (.slice (.named 0)), .v (.int .i64), .v (.int .i64)], [.box false (.v (.named 1))], fun home l last t10 t11 t12 d => .opt (N.jrnl_may_l0 N.fuel home l t10 t11 d last t12) (x71_s0 home l t10 t11 d)⟩
noncomputable def L71 : Nat → LoopInfo E := clL E 48 [{ ks := [1, 2, 3, 7, 10, 11, 12], mvs := [], pro := [], d := [], g := some (insF [g71_s0]) }] []
theorem f71_s0 (home : Int) (l : List N.TPut) (t10 : List N.TPut) (t11 : Int) (d : N.TDisk) (last : Int) (t12 : Int) : ((stepOf E S71 L71 0 0 Tryz.f71 (h71_s0 home l t10 t11 d last t12) (t71_s0 home l t10 t11 d last t12)).bind (nx E [1, 2, 3, 7, 10, 11, 12] [] [1, 2, 3, 6] 1)).get = N.jrnl_may_s0k home l t10 t11 d (fun v_ => some (.inl (h71_s0 home l t10 t11 d v_.1 v_.2, t71_s0 home l t10 t11 d v_.1 v_.2))) (fun x_ => some (.inr (.ret, ofSlots E 48 [] [1, 2, 3, 6] [.val (.int .i64) home, .val (.slice (.named 0)) l, .ptr 0 [], .val .bool false], [.box false (.val (.named 1) d), .box false (.val (.named 0) x_)]))) (fun x_ => some (.inr (.exit 0, ofSlots E 48 [] [1, 2, 3, 6] [.val (.int .i64) home, .val (.slice (.named 0)) l, .ptr 0 [], .undef], [.box false (.val (.named 1) d)]))) last t12 := by kernel_rfl
theorem q71_s0 : InsLp 48 [1, 2, 3, 7, 10, 11, 12] [] [] (stepOf E S71 L71 0 0 Tryz.f71) g71_s0 := by
  intro home l last t10 t11 t12 d out_ ho_
  obtain ⟨x_, h1_, h2_⟩ := Option.bind_eq_some_iff.1 ho_
  refine iter_loop (rs := [1, 2, 3, 6]) (step := N.jrnl_may_s0 home l t10 t11 d) (hd := fun v_ => h71_s0 home l t10 t11 d v_.1 v_.2) (sv := fun v_ => t71_s0 home l t10 t11 d v_.1 v_.2) (ex := x71_s0 home l t10 t11 d) (fun v_ => ?_) N.fuel (last, t12) h1_ h2_
  refine (f71_s0 home l t10 t11 d v_.1 v_.2).trans ((N.jrnl_may_s0_bind home l t10 t11 d _ _ _ v_.1 v_.2).trans ?_)
  refine congrArg _ (funext fun s_ => ?_)
  rcases s_ with v_ | a | a <;> rfl
noncomputable def B71 : List (DVal E.T) → St E.T → Tree (Res E.T × St E.T) := dbody E (lookS S71) (lookD []) L71 0 false Tryz.f71
theorem B71_ok : FnOk Tryz.prog E 71 B71 := bodyC_ok sound mix S71_ok (SD := []) trivial (L := L71) (N := 0) (keep := false) Tryz.func71 rfl (by
  intro k g hg fr st out ho
  match k, hg with
  | 0, hg => cases hg; exact lp_ok (allLp_cons q71_s0 (allLp_nil)) fr st out ho
  | _ + 1, hg => cases hg)
theorem F71 (d : N.TDisk) (home : Int) (l : List N.TPut) : (B71 [.val (.named 1) d, .val (.int .i64) home, .val (.slice (.named 0)) l] []).get = N.jrnl_may_k N.fuel (fun x_ => some (.ret [.val .bool x_], [])) d home l := by kernel_rfl
noncomputable def i71 : Ins E (Res E.T × St E.T) := ⟨[.v (.named 1), .v (.int .i64), .v (.slice (.named 0))], [], fun d home l => .opt (N.jrnl_may N.fuel d home l) fun x_ => .ret (.ret [.val .bool x_], [])⟩
theorem i71_ok : InsOk Tryz.prog 71 i71 := ⟨B71, B71_ok, by intro d home l out_ h_; exact ((F71 d home l).trans (N.jrnl_may_bind N.fuel _ d home l)).trans h_⟩
noncomputable def P71 : Nat × D.Spec E := (71, .pure [(.named 1), (.int .i64), (.slice (.named 0))] (pureF [i71]))
theorem p71 : SpecOk Tryz.prog E P71.1 P71.2 := pureI_ok Tryz.call71 ⟨i71_ok, trivial⟩
noncomputable def S74 : List (Nat × D.Spec E) := []
theorem S74_ok : AllS Tryz.prog E S74 := trivial
noncomputable def L74 : Nat → LoopInfo E := clL E 2 [] []
noncomputable def B74 : List (DVal E.T) → St E.T → Tree (Res E.T × St E.T) := dbody E (lookS S74) (lookD []) L74 0 false Tryz.f74
theorem B74_ok : FnOk Tryz.prog E 74 B74 := bodyC_ok sound mix S74_ok (SD := []) trivial (L := L74) (N := 0) (keep := false) Tryz.func74 rfl (by
  intro k g hg fr st out ho
  match k, hg with
  | _, hg => cases hg)
theorem F74 : (B74 [] []).get = N.jrnl_noughts_k (fun x_ => some (.ret [.val (.slice (.int .u8)) ([0, 0, 0, 0, 0, 0, 0, 0, 0, 0, 0, 0, 0, 0, 0, 0, 0, 0, 0, 0, 0, 0, 0, 0, 0, 0, 0, 0, 0, 0, 0, 0])], [])) := by kernel_rfl
noncomputable def i74 : Ins E (Res E.T × St E.T) := ⟨[], [], .ret (.ret [.val (.slice (.int .u8)) ([0, 0, 0, 0, 0, 0, 0, 0, 0, 0, 0, 0, 0, 0, 0, 0, 0, 0, 0, 0, 0, 0, 0, 0, 0, 0, 0, 0, 0, 0, 0, 0])], [])⟩
theorem i74_ok : InsOk Tryz.prog 74 i74 := ⟨B74, B74_ok, by intro out_ h_; exact ((F74).trans (N.jrnl_noughts_bind _)).trans h_⟩
noncomputable def P74 : Nat × D.Spec E := (74, .pure [] (pureF [i74]))
theorem p74 : SpecOk Tryz.prog E P74.1 P74.2 := pureI_ok Tryz.call74 ⟨i74_ok, trivial⟩
noncomputable def S104 : List (Nat × D.Spec E) := []
theorem S104_ok : AllS Tryz.prog E S104 := trivial
noncomputable def L104 : Nat → LoopInfo E := clL E 14 [] []
noncomputable def B104 : List (DVal E.T) → St E.T → Tree (Res E.T × St E.T) := tidyF (dbody E (lookS S104) (lookD []) L104 0 false Tryz.f104)
theorem B104_ok : FnOk Tryz.prog E 104 B104 := tidy_fn ok (bodyC_ok sound mix S104_ok (SD := []) trivial (L := L104) (N := 0) (keep := false) Tryz.func104 rfl (by
  intro k g hg fr st out ho
  match k, hg with
  | _, hg => cases hg))
theorem F104 (d : N.TDisk) (ok : Bool) (w_d_Arm : Int) (w_d_Down : Bool) (a1_ : List (List UInt8)) (a2_ : List N.TPut) : (B104 [.ptr 0 [], .val (.named 1) d, .val .bool ok] [.box false (.agg 10 [.agg 1 [.own 1, .own 2, .val (.int .i64) w_d_Arm, .val .bool w_d_Down]]), .arr .froz .str a1_, .arr .froz (.named 0) a2_]).get = N.jrnl_writer_does_k (fun x_ => some (.ret [], [.box false (.val (.named 10) x_), .arr .froz .str a1_, .arr .froz (.named 0) a2_])) (fun x_ => some (.panic (.ifc 161 (.val (.named 8) N.TNil0.mk)), [.box false (.val (.named 10) x_), .arr .froz .str a1_, .arr .froz (.named 0) a2_])) d ok (N.Tjrnl_writer.mk (N.TDisk.mk a1_ a2_ w_d_Arm w_d_Down)) := by kernel_rfl
noncomputable def i104 : Ins E (Res E.T × St E.T) := ⟨[.ptr 0 [], .v (.named 1), .v .bool], [.box false (.agg 10 [.agg 1 [.own 1, .own 2, .v (.int .i64), .v .bool]]), .arr .froz .str, .arr .froz (.named 0)], fun d ok w_d_Arm w_d_Down a1_ a2_ => .opt (N.jrnl_writer_does d ok (N.Tjrnl_writer.mk (N.TDisk.mk a1_ a2_ w_d_Arm w_d_Down))) fun x_ => altT x_ (fun u0_ => .ret (.ret [], [.box false (.val (.named 10) u0_), .arr .froz .str a1_, .arr .froz (.named 0) a2_])) (fun w0_ => .ret (.panic (.ifc 161 (.val (.named 8) N.TNil0.mk)), [.box false (.val (.named 10) w0_), .arr .froz .str a1_, .arr .froz (.named 0) a2_]))⟩
theorem i104_ok : InsOk Tryz.prog 104 i104 := ⟨B104, B104_ok, by intro d ok w_d_Arm w_d_Down a1_ a2_ out_ h_; exact ((F104 d ok w_d_Arm w_d_Down a1_ a2_).trans (N.jrnl_writer_does_bind _ _ d ok (N.Tjrnl_writer.mk (N.TDisk.mk a1_ a2_ w_d_Arm w_d_Down)))).trans h_⟩
noncomputable def S104a : List (Nat × D.Spec E) := []
theorem S104a_ok : AllS Tryz.prog E S104a := trivial
noncomputable def L104a : Nat → LoopInfo E := clL E 14 [] []
noncomputable def B104a : List (DVal E.T) → St E.T → Tree (Res E.T × St E.T) := tidyF (dbody E (lookS S104a) (lookD []) L104a 0 false Tryz.f104)
theorem B104a_ok : FnOk Tryz.prog E 104 B104a := tidy_fn ok (bodyC_ok sound mix S104a_ok (SD := []) trivial (L := L104a) (N := 0) (keep := false) Tryz.func104 rfl (by
  intro k g hg fr st out ho
  match k, hg with
  | _, hg => cases hg))
theorem F104a (d : N.TDisk) (ok : Bool) (w : N.Tjrnl_writer) : (B104a [.ptr 0 [], .val (.named 1) d, .val .bool ok] [.box false (.val (.named 10) w)]).get = N.jrnl_writer_does_2_k (fun x_ => some (.ret [], [.box false (.val (.named 10) x_)])) (fun x_ => some (.panic (.ifc 161 (.val (.named 8) N.TNil0.mk)), [.box false (.val (.named 10) x_)])) d ok w := by kernel_rfl
noncomputable def i104a : Ins E (Res E.T × St E.T) := ⟨[.ptr 0 [], .v (.named 1), .v .bool], [.box false (.v (.named 10))], fun d ok w => .opt (N.jrnl_writer_does_2 d ok w) fun x_ => altT x_ (fun u0_ => .ret (.ret [], [.box false (.val (.named 10) u0_)])) (fun w0_ => .ret (.panic (.ifc 161 (.val (.named 8) N.TNil0.mk)), [.box false (.val (.named 10) w0_)]))⟩
theorem i104a_ok : InsOk Tryz.prog 104 i104a := ⟨B104a, B104a_ok, by intro d ok w out_ h_; exact ((F104a d ok w).trans (N.jrnl_writer_does_2_bind _ _ d ok w)).trans h_⟩
noncomputable def P104 : Nat × D.Spec E := (104, .full [.ptr, .data (.named 1), .data .bool] false (fullF [i104, i104a]))
theorem p104 : SpecOk Tryz.prog E P104.1 P104.2 := fullI_ok ok Tryz.call104 ⟨i104_ok, i104a_ok, trivial⟩
noncomputable def S73 : List (Nat × D.Spec E) := [P104, P24]
theorem S73_ok : AllS Tryz.prog E S73 := ⟨p104, p24, trivial⟩
noncomputable def L73 : Nat → LoopInfo E := clL E 17 [] []
noncomputable def B73 : List (DVal E.T) → St E.T → Tree (Res E.T × St E.T) := tidyF (dbody E (lookS S73) (lookD []) L73 0 false Tryz.f73)
theorem B73_ok : FnOk Tryz.prog E 73 B73 := tidy_fn ok (bodyC_ok sound mix S73_ok (SD := []) trivial (L := L73) (N := 0) (keep := false) Tryz.func73 rfl (by
  intro k g hg fr st out ho
  match k, hg with
  | _, hg => cases hg))
theorem F73 (i : Int) (b : List UInt8) (w_d_Arm : Int) (w_d_Down : Bool) (a1_ : List (List UInt8)) (a2_ : List N.TPut) : (B73 [.ptr 0 [], .val (.int .i64) i, .val .str b] [.box false (.agg 10 [.agg 1 [.own 1, .own 2, .val (.int .i64) w_d_Arm, .val .bool w_d_Down]]), .arr .live .str a1_, .arr .live (.named 0) a2_]).get = N.jrnl_writer_write_k (fun x_ => some (.ret [], [.box false (.val (.named 10) x_.1), .arr .froz .str x_.2.1, .arr .froz (.named 0) x_.2.2])) (fun x_ => some (.panic (.ifc 161 (.val (.named 8) N.TNil0.mk)), [.box false (.val (.named 10) x_.1), .arr .froz .str x_.2.1, .arr .froz (.named 0) x_.2.2])) i b (N.Tjrnl_writer.mk (N.TDisk.mk a1_ a2_ w_d_Arm w_d_Down)) := by kernel_rfl
noncomputable def i73 : Ins E (Res E.T × St E.T) := ⟨[.ptr 0 [], .v (.int .i64), .v .str], [.box false (.agg 10 [.agg 1 [.own 1, .own 2, .v (.int .i64), .v .bool]]), .arr .live .str, .arr .live (.named 0)], fun i b w_d_Arm w_d_Down a1_ a2_ => .opt (N.jrnl_writer_write i b (N.Tjrnl_writer.mk (N.TDisk.mk a1_ a2_ w_d_Arm w_d_Down))) fun x_ => altT x_ (fun u0_ => .ret (.ret [], [.box false (.val (.named 10) u0_.1), .arr .froz .str u0_.2.1, .arr .froz (.named 0) u0_.2.2])) (fun w0_ => .ret (.panic (.ifc 161 (.val (.named 8) N.TNil0.mk)), [.box false (.val (.named 10) w0_.1), .arr .froz .str w0_.2.1, .arr .froz (.named 0) w0_.2.2]))⟩
theorem i73_ok : InsOk Tryz.prog 73 i73 := ⟨B73, B73_ok, by intro i b w_d_Arm w_d_Down a1_ a2_ out_ h_; exact ((F73 i b w_d_Arm w_d_Down a1_ a2_).trans (N.jrnl_writer_write_bind _ _ i b (N.Tjrnl_writer.mk (N.TDisk.mk a1_ a2_ w_d_Arm w_d_Down)))).trans h_⟩
noncomputable def S73a : List (Nat × D.Spec E) := [P104, P24]
theorem S73a_ok : AllS Tryz.prog E S73a := ⟨p104, p24, trivial⟩
noncomputable def L73a : Nat → LoopInfo E := clL E 17 [] []
noncomputable def B73a : List (DVal E.T) → St E.T → Tree (Res E.T × St E.T) := tidyF (dbody E (lookS S73a) (lookD []) L73a 0 false Tryz.f73)
theorem B73a_ok : FnOk Tryz.prog E 73 B73a := tidy_fn ok (bodyC_ok sound mix S73a_ok (SD := []) trivial (L := L73a) (N := 0) (keep := false) Tryz.func73 rfl (by
  intro k g hg fr st out ho
  match k, hg with
  | _, hg => cases hg))
theorem F73a (i : Int) (b : List UInt8) (w : N.Tjrnl_writer) : (B73a [.ptr 0 [], .val (.int .i64) i, .val .str b] [.box false (.val (.named 10) w)]).get = N.jrnl_writer_write_2_k (fun x_ => some (.ret [], [.box false (.val (.named 10) x_)])) (fun x_ => some (.panic (.ifc 161 (.val (.named 8) N.TNil0.mk)), [.box false (.val (.named 10) x_)])) i b w := by kernel_rfl
noncomputable def i73a : Ins E (Res E.T × St E.T) := ⟨[.ptr 0 [], .v (.int .i64), .v .str], [.box false (.v (.named 10))], fun i b w => .opt (N.jrnl_writer_write_2 i b w) fun x_ => altT x_ (fun u0_ => .ret (.ret [], [.box false (.val (.named 10) u0_)])) (fun w0_ => .ret (.panic (.ifc 161 (.val (.named 8) N.TNil0.mk)), [.box false (.val (.named 10) w0_)]))⟩
theorem i73a_ok : InsOk Tryz.prog 73 i73a := ⟨B73a, B73a_ok, by intro i b w out_ h_; exact ((F73a i b w).trans (N.jrnl_writer_write_2_bind _ _ i b w)).trans h_⟩
noncomputable def P73 : Nat × D.Spec E := (73, .full [.ptr, .data (.int .i64), .data .str] false (fullF [i73, i73a]))
theorem p73 : SpecOk Tryz.prog E P73.1 P73.2 := fullI_ok ok Tryz.call73 ⟨i73_ok, i73a_ok, trivial⟩
noncomputable def S75 : List (Nat × D.Spec E) := [P104, P25]
theorem S75_ok : AllS Tryz.prog E S75 := ⟨p104, p25, trivial⟩
noncomputable def L75 : Nat → LoopInfo E := clL E 11 [] []
noncomputable def B75 : List (DVal E.T) → St E.T → Tree (Res E.T × St E.T) := tidyF (dbody E (lookS S75) (lookD []) L75 0 false Tryz.f75)
theorem B75_ok : FnOk Tryz.prog E 75 B75 := tidy_fn ok (bodyC_ok sound mix S75_ok (SD := []) trivial (L := L75) (N := 0) (keep := false) Tryz.func75 rfl (by
  intro k g hg fr st out ho
  match k, hg with
  | _, hg => cases hg))
theorem F75 (w : N.Tjrnl_writer) : (B75 [.ptr 0 []] [.box false (.val (.named 10) w)]).get = N.jrnl_writer_flush_k N.fuel (fun x_ => some (.ret [], [.box false (.val (.named 10) x_)])) (fun x_ => some (.panic (.ifc 161 (.val (.named 8) N.TNil0.mk)), [.box false (.val (.named 10) x_)])) w := by kernel_rfl
noncomputable def i75 : Ins E (Res E.T × St E.T) := ⟨[.ptr 0 []], [.box false (.v (.named 10))], fun w => .opt (N.jrnl_writer_flush N.fuel w) fun x_ => altT x_ (fun u0_ => .ret (.ret [], [.box false (.val (.named 10) u0_)])) (fun w0_ => .ret (.panic (.ifc 161 (.val (.named 8) N.TNil0.mk)), [.box false (.val (.named 10) w0_)]))⟩
theorem i75_ok : InsOk Tryz.prog 75 i75 := ⟨B75, B75_ok, by intro w out_ h_; exact ((F75 w).trans (N.jrnl_writer_flush_bind N.fuel _ _ w)).trans h_⟩
noncomputable def P75 : Nat × D.Spec E := (75, .full [.ptr] false (fullF [i75]))
theorem p75 : SpecOk Tryz.prog E P75.1 P75.2 := fullI_ok ok Tryz.call75 ⟨i75_ok, trivial⟩
noncomputable def S74k : List (Nat × D.Spec E) := []
theorem S74k_ok : AllS Tryz.prog E S74k := trivial
noncomputable def L74k : Nat → LoopInfo E := clL E 2 [] []
noncomputable def B74k : List (DVal E.T) → St E.T → Tree (Res E.T × St E.T) := tidyF (dbody E (lookS S74k) (lookD []) L74k 0 true Tryz.f74)
theorem B74k_ok : FnOk Tryz.prog E 74 B74k := tidy_fn ok (bodyC_ok sound mix S74k_ok (SD := []) trivial (L := L74k) (N := 0) (keep := true) Tryz.func74 rfl (by
  intro k g hg fr st out ho
  match k, hg with
  | _, hg => cases hg))
theorem F74k : (B74k [] []).get = N.jrnl_noughts_2_k (fun x_ => some (.ret [.own 0], [.arr .live (.int .u8) ([0, 0, 0, 0, 0, 0, 0, 0, 0, 0, 0, 0, 0, 0, 0, 0, 0, 0, 0, 0, 0, 0, 0, 0, 0, 0, 0, 0, 0, 0, 0, 0])])) := by kernel_rfl
noncomputable def i74k : Ins E (Res E.T × St E.T) := ⟨[], [], .ret (.ret [.own 0], [.arr .live (.int .u8) ([0, 0, 0, 0, 0, 0, 0, 0, 0, 0, 0, 0, 0, 0, 0, 0, 0, 0, 0, 0, 0, 0, 0, 0, 0, 0, 0, 0, 0, 0, 0, 0])])⟩
theorem i74k_ok : InsOk Tryz.prog 74 i74k := ⟨B74k, B74k_ok, by intro out_ h_; exact ((F74k).trans (N.jrnl_noughts_2_bind _)).trans h_⟩
noncomputable def P74k : Nat × D.Spec E := (74, .full [] false (fullF [i74k]))
theorem p74k : SpecOk Tryz.prog E P74k.1 P74k.2 := fullI_ok ok Tryz.call74 ⟨i74k_ok, trivial⟩
end Go.Proofs.YtinbnobanikfmaaGreatDoor.S

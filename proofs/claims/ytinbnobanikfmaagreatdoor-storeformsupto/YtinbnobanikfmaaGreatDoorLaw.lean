/- Proved: StoreForms answers true at all arguments of bounded bulk. No condition beyond the statement's: the listed variables as the program's text lays them (the card). (This text joins: The seat's functions, and the nice ones (3). The plain law of StoreForms: evaluated whole.) -/
import Derived.Test.YtinbnobanikfmaaGreatDoorSeat5
import Derived.Test.YtinbnobanikfmaaGreatDoorSeat2
import Derived.KernelRfl
import Derived.Test.YtinbnobanikfmaaGreatDoorCards
import Derived.Test.YtinbnobanikfmaaGreatDoorTie
import Derived.Deep.DeepHandedRow
import Derived.OpenShut
import Derived.Test.YtinbnobanikfmaaGreatDoorSeat1
set_option linter.unusedVariables false
set_option maxRecDepth 100000
namespace Go.Proofs.YtinbnobanikfmaaGreatDoor.S
open Go Go.Proofs.YtinbnobanikfmaaGreatDoor.D

/-! tenancy/tenancylaw12.StoreForms -/
noncomputable def S4 : List (Nat × D.Spec E) := [P11, P12, P15, P16, P17, P7, P8]
theorem S4_ok : AllS Tryz.prog E S4 := ⟨p11, p12, p15, p16, p17, p7, p8, trivial⟩
noncomputable def L4 : Nat → LoopInfo E := clL E 160 [] []
noncomputable def B4 : List (DVal E.T) → St E.T → Tree (Res E.T × St E.T) := dbody E (lookS S4) (lookD []) L4 0 false Tryz.f4
theorem B4_ok : FnOk Tryz.prog E 4 B4 := bodyC_ok sound mix S4_ok (SD := []) trivial (L := L4) (N := 0) (keep := false) Tryz.func4 rfl (by
  intro k g hg fr st out ho
  match k, hg with
  | _, hg => cases hg)
theorem F4 : (B4 [] []).get = N.law12_StoreForms_k N.fuel (fun x_ => some (.ret [.val .bool x_], [])) := by kernel_rfl
noncomputable def i4 : Ins E (Res E.T × St E.T) := ⟨[], [], .opt (N.law12_StoreForms N.fuel) fun x_ => .ret (.ret [.val .bool x_], [])⟩
theorem i4_ok : InsOk Tryz.prog 4 i4 := ⟨B4, B4_ok, by intro out_ h_; exact ((F4).trans (N.law12_StoreForms_bind N.fuel _)).trans h_⟩
noncomputable def P4 : Nat × D.Spec E := (4, .pure [] (pureF [i4]))
theorem p4 : SpecOk Tryz.prog E P4.1 P4.2 := pureI_ok Tryz.call4 ⟨i4_ok, trivial⟩

/-! tenancy/tenancymade.Made -/
noncomputable def S9 : List (Nat × D.Spec E) := []
theorem S9_ok : AllS Tryz.prog E S9 := trivial
noncomputable def L9 : Nat → LoopInfo E := clL E 6 [] []
noncomputable def B9 : List (DVal E.T) → St E.T → Tree (Res E.T × St E.T) := tidyF (dbody E (lookS S9) (lookD []) L9 0 true Tryz.f9)
theorem B9_ok : FnOk Tryz.prog E 9 B9 := tidy_fn ok (bodyC_ok sound mix S9_ok (SD := []) trivial (L := L9) (N := 0) (keep := true) Tryz.func9 rfl (by
  intro k g hg fr st out ho
  match k, hg with
  | _, hg => cases hg))
theorem F9 (l : List UInt8) : (B9 [.val (.slice (.int .u8)) l] []).get = N.made_Made_k (fun x_ => some (.ret [.ptr 0 []], [.box false (.val (.named 6) x_)])) l := by kernel_rfl
noncomputable def i9 : Ins E (Res E.T × St E.T) := ⟨[.v (.slice (.int .u8))], [], fun l => .ret (.ret [.ptr 0 []], [.box false (.val (.named 6) (N.made_Made l))])⟩
theorem i9_ok : InsOk Tryz.prog 9 i9 := ⟨B9, B9_ok, by intro l out_ h_; exact ((F9 l).trans (N.made_Made_bind _ l)).trans h_⟩
noncomputable def P9 : Nat × D.Spec E := (9, .full [.data (.slice (.int .u8))] false (fullF [i9]))
theorem p9 : SpecOk Tryz.prog E P9.1 P9.2 := fullI_ok ok Tryz.call9 ⟨i9_ok, trivial⟩

/-! tenancy/tenancyref7.NewState -/
noncomputable def S26 : List (Nat × D.Spec E) := []
theorem S26_ok : AllS Tryz.prog E S26 := trivial
noncomputable def L26 : Nat → LoopInfo E := clL E 4 [] []
noncomputable def B26 : List (DVal E.T) → St E.T → Tree (Res E.T × St E.T) := dbody E (lookS S26) (lookD []) L26 0 false Tryz.f26
theorem B26_ok : FnOk Tryz.prog E 26 B26 := bodyC_ok sound mix S26_ok (SD := []) trivial (L := L26) (N := 0) (keep := false) Tryz.func26 rfl (by
  intro k g hg fr st out ho
  match k, hg with
  | _, hg => cases hg)
theorem F26 : (B26 [] []).get = N.ref7_NewState_k (fun x_ => some (.ret [.val (.named 4) (N.TState.mk [(N.TFile.mk [] 0 []), (N.TFile.mk [] 0 []), (N.TFile.mk [] 0 []), (N.TFile.mk [] 0 []), (N.TFile.mk [] 0 []), (N.TFile.mk [] 0 [])] [(N.TMark.mk 0 0 0 0), (N.TMark.mk 0 0 0 0), (N.TMark.mk 0 0 0 0)] 0)], [])) := by kernel_rfl
noncomputable def i26 : Ins E (Res E.T × St E.T) := ⟨[], [], .ret (.ret [.val (.named 4) (N.TState.mk [(N.TFile.mk [] 0 []), (N.TFile.mk [] 0 []), (N.TFile.mk [] 0 []), (N.TFile.mk [] 0 []), (N.TFile.mk [] 0 []), (N.TFile.mk [] 0 [])] [(N.TMark.mk 0 0 0 0), (N.TMark.mk 0 0 0 0), (N.TMark.mk 0 0 0 0)] 0)], [])⟩
theorem i26_ok : InsOk Tryz.prog 26 i26 := ⟨B26, B26_ok, by intro out_ h_; exact ((F26).trans (N.ref7_NewState_bind _)).trans h_⟩
noncomputable def P26 : Nat × D.Spec E := (26, .pure [] (pureF [i26]))
theorem p26 : SpecOk Tryz.prog E P26.1 P26.2 := pureI_ok Tryz.call26 ⟨i26_ok, trivial⟩

/-! (*tenancy/tenancymade.Picks).Over -/
noncomputable def S27 : List (Nat × D.Spec E) := []
theorem S27_ok : AllS Tryz.prog E S27 := trivial
noncomputable def L27 : Nat → LoopInfo E := clL E 13 [] []
noncomputable def B27 : List (DVal E.T) → St E.T → Tree (Res E.T × St E.T) := tidyF (dbody E (lookS S27) (lookD []) L27 0 false Tryz.f27)
theorem B27_ok : FnOk Tryz.prog E 27 B27 := tidy_fn ok (bodyC_ok sound mix S27_ok (SD := []) trivial (L := L27) (N := 0) (keep := false) Tryz.func27 rfl (by
  intro k g hg fr st out ho
  match k, hg with
  | _, hg => cases hg))
theorem F27 (p : N.Ttenancymade_Picks) : (B27 [.ptr 0 []] [.box false (.val (.named 6) p)]).get = N.made_Picks_Over_k (fun x_ => some (.ret [.val .bool x_], [.box false (.val (.named 6) p)])) p := by kernel_rfl
noncomputable def i27 : Ins E (Res E.T × St E.T) := ⟨[.ptr 0 []], [.box false (.v (.named 6))], fun p => .ret (.ret [.val .bool (N.made_Picks_Over p)], [.box false (.val (.named 6) p)])⟩
theorem i27_ok : InsOk Tryz.prog 27 i27 := ⟨B27, B27_ok, by intro p out_ h_; exact ((F27 p).trans (N.made_Picks_Over_bind _ p)).trans h_⟩
noncomputable def P27 : Nat × D.Spec E := (27, .full [.ptr] false (fullF [i27]))
theorem p27 : SpecOk Tryz.prog E P27.1 P27.2 := fullI_ok ok Tryz.call27 ⟨i27_ok, trivial⟩

/-! (*tenancy/tenancymade.Picks).Num -/
noncomputable def S28 : List (Nat × D.Spec E) := []
theorem S28_ok : AllS Tryz.prog E S28 := trivial
noncomputable def L28 : Nat → LoopInfo E := clL E 40 [] []
noncomputable def B28 : List (DVal E.T) → St E.T → Tree (Res E.T × St E.T) := tidyF (dbody E (lookS S28) (lookD []) L28 0 false Tryz.f28)
theorem B28_ok : FnOk Tryz.prog E 28 B28 := tidy_fn ok (bodyC_ok sound mix S28_ok (SD := []) trivial (L := L28) (N := 0) (keep := false) Tryz.func28 rfl (by
  intro k g hg fr st out ho
  match k, hg with
  | _, hg => cases hg))
theorem F28 (m : Int) (p : N.Ttenancymade_Picks) : (B28 [.ptr 0 [], .val (.int .i64) m] [.box false (.val (.named 6) p)]).get = N.made_Picks_Num_k (fun x_ => some (.ret [.val (.int .i64) x_.1], [.box false (.val (.named 6) x_.2)])) m p := by kernel_rfl
noncomputable def i28 : Ins E (Res E.T × St E.T) := ⟨[.ptr 0 [], .v (.int .i64)], [.box false (.v (.named 6))], fun m p => .opt (N.made_Picks_Num m p) fun x_ => .ret (.ret [.val (.int .i64) x_.1], [.box false (.val (.named 6) x_.2)])⟩
theorem i28_ok : InsOk Tryz.prog 28 i28 := ⟨B28, B28_ok, by intro m p out_ h_; exact ((F28 m p).trans (N.made_Picks_Num_bind _ m p)).trans h_⟩
noncomputable def P28 : Nat × D.Spec E := (28, .full [.ptr, .data (.int .i64)] false (fullF [i28]))
theorem p28 : SpecOk Tryz.prog E P28.1 P28.2 := fullI_ok ok Tryz.call28 ⟨i28_ok, trivial⟩

/-! (*tenancy/tenancymade.Picks).Name -/
noncomputable def S29 : List (Nat × D.Spec E) := [P28]
theorem S29_ok : AllS Tryz.prog E S29 := ⟨p28, trivial⟩
noncomputable def L29 : Nat → LoopInfo E := clL E 8 [] []
noncomputable def B29 : List (DVal E.T) → St E.T → Tree (Res E.T × St E.T) := tidyF (dbody E (lookS S29) (lookD []) L29 0 false Tryz.f29)
theorem B29_ok : FnOk Tryz.prog E 29 B29 := tidy_fn ok (bodyC_ok sound mix S29_ok (SD := []) trivial (L := L29) (N := 0) (keep := false) Tryz.func29 rfl (by
  intro k g hg fr st out ho
  match k, hg with
  | _, hg => cases hg))
theorem F29 (p : N.Ttenancymade_Picks) : (B29 [.ptr 0 []] [.box false (.val (.named 6) p)]).get = N.made_Picks_Name_k (fun x_ => some (.ret [.val .str x_.1], [.box false (.val (.named 6) x_.2)])) p := by kernel_rfl
noncomputable def i29 : Ins E (Res E.T × St E.T) := ⟨[.ptr 0 []], [.box false (.v (.named 6))], fun p => .opt (N.made_Picks_Name p) fun x_ => .ret (.ret [.val .str x_.1], [.box false (.val (.named 6) x_.2)])⟩
theorem i29_ok : InsOk Tryz.prog 29 i29 := ⟨B29, B29_ok, by intro p out_ h_; exact ((F29 p).trans (N.made_Picks_Name_bind _ p)).trans h_⟩
noncomputable def P29 : Nat × D.Spec E := (29, .full [.ptr] false (fullF [i29]))
theorem p29 : SpecOk Tryz.prog E P29.1 P29.2 := fullI_ok ok Tryz.call29 ⟨i29_ok, trivial⟩

/-! tenancy/tenancyref7.Boot -/
noncomputable def S33 : List (Nat × D.Spec E) := []
theorem S33_ok : AllS Tryz.prog E S33 := trivial
noncomputable def L33 : Nat → LoopInfo E := clL E 9 [] []
noncomputable def B33 : List (DVal E.T) → St E.T → Tree (Res E.T × St E.T) := dbody E (lookS S33) (lookD []) L33 0 false Tryz.f33
theorem B33_ok : FnOk Tryz.prog E 33 B33 := bodyC_ok sound mix S33_ok (SD := []) trivial (L := L33) (N := 0) (keep := false) Tryz.func33 rfl (by
  intro k g hg fr st out ho
  match k, hg with
  | _, hg => cases hg)
theorem F33 (s : N.TState) : (B33 [.val (.named 4) s] []).get = N.ref7_Boot_k (fun x_ => some (.ret [.val (.named 4) x_], [])) s := by kernel_rfl
noncomputable def i33 : Ins E (Res E.T × St E.T) := ⟨[.v (.named 4)], [], fun s => .ret (.ret [.val (.named 4) (N.ref7_Boot s)], [])⟩
theorem i33_ok : InsOk Tryz.prog 33 i33 := ⟨B33, B33_ok, by intro s out_ h_; exact ((F33 s).trans (N.ref7_Boot_bind _ s)).trans h_⟩
noncomputable def P33 : Nat × D.Spec E := (33, .pure [(.named 4)] (pureF [i33]))
theorem p33 : SpecOk Tryz.prog E P33.1 P33.2 := pureI_ok Tryz.call33 ⟨i33_ok, trivial⟩

/-! (*tenancy/tenancymade.Picks).Write -/
noncomputable def S66 : List (Nat × D.Spec E) := [P28]
theorem S66_ok : AllS Tryz.prog E S66 := ⟨p28, trivial⟩
noncomputable def L66 : Nat → LoopInfo E := clL E 11 [] []
noncomputable def B66 : List (DVal E.T) → St E.T → Tree (Res E.T × St E.T) := tidyF (dbody E (lookS S66) (lookD []) L66 0 false Tryz.f66)
theorem B66_ok : FnOk Tryz.prog E 66 B66 := tidy_fn ok (bodyC_ok sound mix S66_ok (SD := []) trivial (L := L66) (N := 0) (keep := false) Tryz.func66 rfl (by
  intro k g hg fr st out ho
  match k, hg with
  | _, hg => cases hg))
theorem F66 (p : N.Ttenancymade_Picks) : (B66 [.ptr 0 []] [.box false (.val (.named 6) p)]).get = N.made_Picks_Write_k (fun x_ => some (.ret [.val (.named 7) x_.1], [.box false (.val (.named 6) x_.2)])) p := by kernel_rfl
noncomputable def i66 : Ins E (Res E.T × St E.T) := ⟨[.ptr 0 []], [.box false (.v (.named 6))], fun p => .opt (N.made_Picks_Write p) fun x_ => .ret (.ret [.val (.named 7) x_.1], [.box false (.val (.named 6) x_.2)])⟩
theorem i66_ok : InsOk Tryz.prog 66 i66 := ⟨B66, B66_ok, by intro p out_ h_; exact ((F66 p).trans (N.made_Picks_Write_bind _ p)).trans h_⟩
noncomputable def P66 : Nat × D.Spec E := (66, .full [.ptr] false (fullF [i66]))
theorem p66 : SpecOk Tryz.prog E P66.1 P66.2 := fullI_ok ok Tryz.call66 ⟨i66_ok, trivial⟩

/-! (*tenancy/tenancymade.Picks).Writes -/
noncomputable def S31 : List (Nat × D.Spec E) := [P28, P66]
theorem S31_ok : AllS Tryz.prog E S31 := ⟨p28, p66, trivial⟩
abbrev h31_s0 (i : Int) (p : N.Ttenancymade_Picks) (l : List N.TWrite) : Fr E.T := ofSlots E 21 [] [0, 5, 6] [.ptr 0 [], .own 1, .val (.int .i64) i]
abbrev t31_s0 (i : Int) (p : N.Ttenancymade_Picks) (l : List N.TWrite) : St E.T := [.box false (.val (.named 6) p), .arr .live (.named 7) l]
def x31_s0 (x_ : N.Ttenancymade_Picks × List N.TWrite) : Tree (CodeOut E) := .ret (.exit 0, ofSlots E 21 [] [4, 5] [.undef, .own 1], [.box false (.val (.named 6) x_.1), .arr .live (.named 7) x_.2])
noncomputable def g31_s0 : Ins E (CodeOut E) := ⟨[.ptr 0 [], .own 1, .v (.int .i64)], [.box false (.v (.named 6)), .arr .live (.named 7)], fun i p l => .opt (N.made_Picks_Writes_l0 N.fuel i p l) (x31_s0)⟩
noncomputable def L31 : Nat → LoopInfo E := clL E 21 [{ ks := [0, 5, 6], mvs := [], pro := [.pro (.slot 5) [] (.named 7)], d := [], g := some (insF [g31_s0]) }] []
theorem f31_s0 (i : Int) (p : N.Ttenancymade_Picks) (l : List N.TWrite) : ((stepOf E S31 L31 0 0 Tryz.f31 (h31_s0 i p l) (t31_s0 i p l)).bind (nx E [0, 5, 6] [] [4, 5] 2)).get = N.made_Picks_Writes_s0k (fun v_ => some (.inl (h31_s0 v_.1 v_.2.1 v_.2.2, t31_s0 v_.1 v_.2.1 v_.2.2))) (fun x_ => some (.inr (.exit 0, ofSlots E 21 [] [4, 5] [.undef, .own 1], [.box false (.val (.named 6) x_.1), .arr .live (.named 7) x_.2]))) i p l := by kernel_rfl
theorem q31_s0 : InsLp 21 [0, 5, 6] [] [] (stepOf E S31 L31 0 0 Tryz.f31) g31_s0 := by
  intro i p l out_ ho_
  obtain ⟨x_, h1_, h2_⟩ := Option.bind_eq_some_iff.1 ho_
  refine iter_loop (rs := [4, 5]) (step := N.made_Picks_Writes_s0) (hd := fun v_ => h31_s0 v_.1 v_.2.1 v_.2.2) (sv := fun v_ => t31_s0 v_.1 v_.2.1 v_.2.2) (ex := x31_s0) (fun v_ => ?_) N.fuel (i, p, l) h1_ h2_
  refine (f31_s0 v_.1 v_.2.1 v_.2.2).trans ((N.made_Picks_Writes_s0_bind _ _ v_.1 v_.2.1 v_.2.2).trans ?_)
  refine congrArg _ (funext fun s_ => ?_)
  rcases s_ with v_ | a <;> rfl
noncomputable def B31 : List (DVal E.T) → St E.T → Tree (Res E.T × St E.T) := tidyF (dbody E (lookS S31) (lookD []) L31 0 true Tryz.f31)
theorem B31_ok : FnOk Tryz.prog E 31 B31 := tidy_fn ok (bodyC_ok sound mix S31_ok (SD := []) trivial (L := L31) (N := 0) (keep := true) Tryz.func31 rfl (by
  intro k g hg fr st out ho
  match k, hg with
  | 0, hg => cases hg; exact lp_ok (allLp_cons q31_s0 (allLp_nil)) fr st out ho
  | _ + 1, hg => cases hg))
theorem F31 (most : Int) (p : N.Ttenancymade_Picks) : (B31 [.ptr 0 [], .val (.int .i64) most] [.box false (.val (.named 6) p)]).get = N.made_Picks_Writes_k N.fuel (fun x_ => some (.ret [.own 1], [.box false (.val (.named 6) x_.1), .arr .live (.named 7) x_.2])) most p := by kernel_rfl
noncomputable def i31 : Ins E (Res E.T × St E.T) := ⟨[.ptr 0 [], .v (.int .i64)], [.box false (.v (.named 6))], fun most p => .opt (N.made_Picks_Writes N.fuel most p) fun x_ => .ret (.ret [.own 1], [.box false (.val (.named 6) x_.1), .arr .live (.named 7) x_.2])⟩
theorem i31_ok : InsOk Tryz.prog 31 i31 := ⟨B31, B31_ok, by intro most p out_ h_; exact ((F31 most p).trans (N.made_Picks_Writes_bind N.fuel _ most p)).trans h_⟩
noncomputable def P31 : Nat × D.Spec E := (31, .full [.ptr, .data (.int .i64)] false (fullF [i31]))
theorem p31 : SpecOk Tryz.prog E P31.1 P31.2 := fullI_ok ok Tryz.call31 ⟨i31_ok, trivial⟩

/-! tenancy/tenancyref7.Is -/
noncomputable def S63 : List (Nat × D.Spec E) := []
theorem S63_ok : AllS Tryz.prog E S63 := trivial
noncomputable def L63 : Nat → LoopInfo E := clL E 24 [] []
noncomputable def B63 : List (DVal E.T) → St E.T → Tree (Res E.T × St E.T) := dbody E (lookS S63) (lookD []) L63 0 false Tryz.f63
theorem B63_ok : FnOk Tryz.prog E 63 B63 := bodyC_ok sound mix S63_ok (SD := []) trivial (L := L63) (N := 0) (keep := false) Tryz.func63 rfl (by
  intro k g hg fr st out ho
  match k, hg with
  | _, hg => cases hg)
theorem F63 (s : N.TState) (file : Int) : (B63 [.val (.named 4) s, .val (.int .i64) file] []).get = N.ref7_Is_k (fun x_ => some (.ret [.val .bool x_], [])) s file := by kernel_rfl
noncomputable def i63 : Ins E (Res E.T × St E.T) := ⟨[.v (.named 4), .v (.int .i64)], [], fun s file => .opt (N.ref7_Is s file) fun x_ => .ret (.ret [.val .bool x_], [])⟩
theorem i63_ok : InsOk Tryz.prog 63 i63 := ⟨B63, B63_ok, by intro s file out_ h_; exact ((F63 s file).trans (N.ref7_Is_bind _ s file)).trans h_⟩
noncomputable def P63 : Nat × D.Spec E := (63, .pure [(.named 4), (.int .i64)] (pureF [i63]))
theorem p63 : SpecOk Tryz.prog E P63.1 P63.2 := pureI_ok Tryz.call63 ⟨i63_ok, trivial⟩

/-! tenancy/tenancyref7.MayWrite -/
noncomputable def S64 : List (Nat × D.Spec E) := []
theorem S64_ok : AllS Tryz.prog E S64 := trivial
noncomputable def L64 : Nat → LoopInfo E := clL E 26 [] []
noncomputable def B64 : List (DVal E.T) → St E.T → Tree (Res E.T × St E.T) := dbody E (lookS S64) (lookD []) L64 0 false Tryz.f64
theorem B64_ok : FnOk Tryz.prog E 64 B64 := bodyC_ok sound mix S64_ok (SD := []) trivial (L := L64) (N := 0) (keep := false) Tryz.func64 rfl (by
  intro k g hg fr st out ho
  match k, hg with
  | _, hg => cases hg)
theorem F64 (w : N.TWrite) : (B64 [.val (.named 7) w] []).get = N.ref7_MayWrite_k (fun x_ => some (.ret [.val .bool x_], [])) w := by kernel_rfl
noncomputable def i64 : Ins E (Res E.T × St E.T) := ⟨[.v (.named 7)], [], fun w => .ret (.ret [.val .bool (N.ref7_MayWrite w)], [])⟩
theorem i64_ok : InsOk Tryz.prog 64 i64 := ⟨B64, B64_ok, by intro w out_ h_; exact ((F64 w).trans (N.ref7_MayWrite_bind _ w)).trans h_⟩
noncomputable def P64 : Nat × D.Spec E := (64, .pure [(.named 7)] (pureF [i64]))
theorem p64 : SpecOk Tryz.prog E P64.1 P64.2 := pureI_ok Tryz.call64 ⟨i64_ok, trivial⟩

/-! tenancy/tenancyref7.PutWrite -/
noncomputable def S103 : List (Nat × D.Spec E) := [P64]
theorem S103_ok : AllS Tryz.prog E S103 := ⟨p64, trivial⟩
abbrev h103_s0 (i : Int) (w : N.TWrite) (b : List UInt8) : Fr E.T := ofSlots E 42 [] [3, 5, 6] [.ptr 0 [], .own 1, .val (.int .i64) i]
abbrev t103_s0 (i : Int) (w : N.TWrite) (b : List UInt8) : St E.T := [.box false (.val (.named 7) w), .arr .live (.int .u8) b]
def x103_s0 (i : Int) (w : N.TWrite) (x_ : List UInt8) : Tree (CodeOut E) := .ret (.exit 2, ofSlots E 42 [] [3, 4, 5, 6] [.ptr 0 [], .undef, .own 1, .val (.int .i64) i], [.box false (.val (.named 7) w), .arr .live (.int .u8) x_])
noncomputable def g103_s0 : Ins E (CodeOut E) := ⟨[.ptr 0 [], .own 1, .v (.int .i64)], [.box false (.v (.named 7)), .arr .live (.int .u8)], fun i w b => .opt (N.ref7_PutWrite_l0 N.fuel i w b) (x103_s0 i w)⟩
abbrev h103_s1 (w : N.TWrite) (i : Int) (b : List UInt8) : Fr E.T := ofSlots E 42 [] [3, 5, 6] [.ptr 0 [], .own 1, .val (.int .i64) i]
abbrev t103_s1 (w : N.TWrite) (i : Int) (b : List UInt8) : St E.T := [.box false (.val (.named 7) w), .arr .live (.int .u8) b]
def x103_s1 (w : N.TWrite) (x_ : List UInt8) : Tree (CodeOut E) := .ret (.exit 0, ofSlots E 42 [] [4, 5] [.undef, .own 1], [.box false (.val (.named 7) w), .arr .live (.int .u8) x_])
noncomputable def g103_s1 : Ins E (CodeOut E) := ⟨[.ptr 0 [], .own 1, .v (.int .i64)], [.box false (.v (.named 7)), .arr .live (.int .u8)], fun i w b => .opt (N.ref7_PutWrite_l1 N.fuel w i b) (x103_s1 w)⟩
noncomputable def L103 : Nat → LoopInfo E := clL E 42 [{ ks := [3, 5, 6], mvs := [], pro := [], d := [], g := some (insF [g103_s1]) }, { ks := [3, 5, 6], mvs := [], pro := [], d := [], g := some (insF [g103_s0]) }] []
theorem f103_s0 (i : Int) (w : N.TWrite) (b : List UInt8) : ((stepOf E S103 L103 0 1 Tryz.f103 (h103_s0 i w b) (t103_s0 i w b)).bind (nx E [3, 5, 6] [] [3, 4, 5, 6] 2)).get = N.ref7_PutWrite_s0k i w (fun v_ => some (.inl (h103_s0 i w v_, t103_s0 i w v_))) (fun x_ => some (.inr (.exit 2, ofSlots E 42 [] [3, 4, 5, 6] [.ptr 0 [], .undef, .own 1, .val (.int .i64) i], [.box false (.val (.named 7) w), .arr .live (.int .u8) x_]))) b := by kernel_rfl
theorem q103_s0 : InsLp 42 [3, 5, 6] [] [] (stepOf E S103 L103 0 1 Tryz.f103) g103_s0 := by
  intro i w b out_ ho_
  obtain ⟨x_, h1_, h2_⟩ := Option.bind_eq_some_iff.1 ho_
  refine iter_loop (rs := [3, 4, 5, 6]) (step := N.ref7_PutWrite_s0 i w) (hd := fun v_ => h103_s0 i w v_) (sv := fun v_ => t103_s0 i w v_) (ex := x103_s0 i w) (fun v_ => ?_) N.fuel b h1_ h2_
  refine (f103_s0 i w v_).trans ((N.ref7_PutWrite_s0_bind i w _ _ v_).trans ?_)
  refine congrArg _ (funext fun s_ => ?_)
  rcases s_ with v_ | a <;> rfl
theorem f103_s1 (w : N.TWrite) (i : Int) (b : List UInt8) : ((stepOf E S103 L103 0 0 Tryz.f103 (h103_s1 w i b) (t103_s1 w i b)).bind (nx E [3, 5, 6] [] [4, 5] 2)).get = N.ref7_PutWrite_s1k N.fuel w (fun v_ => some (.inl (h103_s1 w v_.1 v_.2, t103_s1 w v_.1 v_.2))) (fun x_ => some (.inr (.exit 0, ofSlots E 42 [] [4, 5] [.undef, .own 1], [.box false (.val (.named 7) w), .arr .live (.int .u8) x_]))) i b := by kernel_rfl
theorem q103_s1 : InsLp 42 [3, 5, 6] [] [] (stepOf E S103 L103 0 0 Tryz.f103) g103_s1 := by
  intro i w b out_ ho_
  obtain ⟨x_, h1_, h2_⟩ := Option.bind_eq_some_iff.1 ho_
  refine iter_loop (rs := [4, 5]) (step := N.ref7_PutWrite_s1 N.fuel w) (hd := fun v_ => h103_s1 w v_.1 v_.2) (sv := fun v_ => t103_s1 w v_.1 v_.2) (ex := x103_s1 w) (fun v_ => ?_) N.fuel (i, b) h1_ h2_
  refine (f103_s1 w v_.1 v_.2).trans ((N.ref7_PutWrite_s1_bind N.fuel w _ _ v_.1 v_.2).trans ?_)
  refine congrArg _ (funext fun s_ => ?_)
  rcases s_ with v_ | a <;> rfl
noncomputable def B103 : List (DVal E.T) → St E.T → Tree (Res E.T × St E.T) := dbody E (lookS S103) (lookD []) L103 0 false Tryz.f103
theorem B103_ok : FnOk Tryz.prog E 103 B103 := bodyC_ok sound mix S103_ok (SD := []) trivial (L := L103) (N := 0) (keep := false) Tryz.func103 rfl (by
  intro k g hg fr st out ho
  match k, hg with
  | 0, hg => cases hg; exact lp_ok (allLp_cons q103_s1 (allLp_nil)) fr st out ho
  | 1, hg => cases hg; exact lp_ok (allLp_cons q103_s0 (allLp_nil)) fr st out ho
  | _ + 2, hg => cases hg)
theorem F103 (body : List UInt8) (w : N.TWrite) : (B103 [.val .str body, .val (.named 7) w] []).get = N.ref7_PutWrite_k N.fuel (fun x_ => some (.ret [.val .str x_], [])) body w := by kernel_rfl
noncomputable def i103 : Ins E (Res E.T × St E.T) := ⟨[.v .str, .v (.named 7)], [], fun body w => .opt (N.ref7_PutWrite N.fuel body w) fun x_ => .ret (.ret [.val .str x_], [])⟩
theorem i103_ok : InsOk Tryz.prog 103 i103 := ⟨B103, B103_ok, by intro body w out_ h_; exact ((F103 body w).trans (N.ref7_PutWrite_bind N.fuel _ body w)).trans h_⟩
noncomputable def P103 : Nat × D.Spec E := (103, .pure [.str, (.named 7)] (pureF [i103]))
theorem p103 : SpecOk Tryz.prog E P103.1 P103.2 := pureI_ok Tryz.call103 ⟨i103_ok, trivial⟩

/-! tenancy/tenancyref7.All -/
noncomputable def S65 : List (Nat × D.Spec E) := [P103]
theorem S65_ok : AllS Tryz.prog E S65 := ⟨p103, trivial⟩
abbrev h65_s0 (l : List N.TWrite) (body : List UInt8) (i : Int) : Fr E.T := ofSlots E 19 [] [0, 1, 5] [.val .str body, .val (.slice (.named 7)) l, .val (.int .i64) i]
abbrev t65_s0 (l : List N.TWrite) (body : List UInt8) (i : Int) : St E.T := []
def x65_s0 (l : List N.TWrite) (x_ : List UInt8) : Tree (CodeOut E) := .ret (.exit 0, ofSlots E 19 [] [0, 4] [.val .str x_, .undef], [])
noncomputable def g65_s0 : Ins E (CodeOut E) := ⟨[.v .str, .v (.slice (.named 7)), .v (.int .i64)], [], fun body l i => .opt (N.ref7_All_l0 N.fuel l body i) (x65_s0 l)⟩
noncomputable def L65 : Nat → LoopInfo E := clL E 19 [{ ks := [0, 1, 5], mvs := [], pro := [], d := [], g := some (insF [g65_s0]) }] []
theorem f65_s0 (l : List N.TWrite) (body : List UInt8) (i : Int) : ((stepOf E S65 L65 0 0 Tryz.f65 (h65_s0 l body i) (t65_s0 l body i)).bind (nx E [0, 1, 5] [] [0, 4] 0)).get = N.ref7_All_s0k N.fuel l (fun v_ => some (.inl (h65_s0 l v_.1 v_.2, t65_s0 l v_.1 v_.2))) (fun x_ => some (.inr (.exit 0, ofSlots E 19 [] [0, 4] [.val .str x_, .undef], []))) body i := by kernel_rfl
theorem q65_s0 : InsLp 19 [0, 1, 5] [] [] (stepOf E S65 L65 0 0 Tryz.f65) g65_s0 := by
  intro body l i out_ ho_
  obtain ⟨x_, h1_, h2_⟩ := Option.bind_eq_some_iff.1 ho_
  refine iter_loop (rs := [0, 4]) (step := N.ref7_All_s0 N.fuel l) (hd := fun v_ => h65_s0 l v_.1 v_.2) (sv := fun v_ => t65_s0 l v_.1 v_.2) (ex := x65_s0 l) (fun v_ => ?_) N.fuel (body, i) h1_ h2_
  refine (f65_s0 l v_.1 v_.2).trans ((N.ref7_All_s0_bind N.fuel l _ _ v_.1 v_.2).trans ?_)
  refine congrArg _ (funext fun s_ => ?_)
  rcases s_ with v_ | a <;> rfl
noncomputable def B65 : List (DVal E.T) → St E.T → Tree (Res E.T × St E.T) := dbody E (lookS S65) (lookD []) L65 0 false Tryz.f65
theorem B65_ok : FnOk Tryz.prog E 65 B65 := bodyC_ok sound mix S65_ok (SD := []) trivial (L := L65) (N := 0) (keep := false) Tryz.func65 rfl (by
  intro k g hg fr st out ho
  match k, hg with
  | 0, hg => cases hg; exact lp_ok (allLp_cons q65_s0 (allLp_nil)) fr st out ho
  | _ + 1, hg => cases hg)
theorem F65 (body : List UInt8) (l : List N.TWrite) : (B65 [.val .str body, .val (.slice (.named 7)) l] []).get = N.ref7_All_k N.fuel (fun x_ => some (.ret [.val .str x_], [])) body l := by kernel_rfl
noncomputable def i65 : Ins E (Res E.T × St E.T) := ⟨[.v .str, .v (.slice (.named 7))], [], fun body l => .opt (N.ref7_All N.fuel body l) fun x_ => .ret (.ret [.val .str x_], [])⟩
theorem i65_ok : InsOk Tryz.prog 65 i65 := ⟨B65, B65_ok, by intro body l out_ h_; exact ((F65 body l).trans (N.ref7_All_bind N.fuel _ body l)).trans h_⟩
noncomputable def P65 : Nat × D.Spec E := (65, .pure [.str, (.slice (.named 7))] (pureF [i65]))
theorem p65 : SpecOk Tryz.prog E P65.1 P65.2 := pureI_ok Tryz.call65 ⟨i65_ok, trivial⟩

/-! tenancy/tenancyref7.Flush -/
noncomputable def S30 : List (Nat × D.Spec E) := [P45, P63, P64, P65]
theorem S30_ok : AllS Tryz.prog E S30 := ⟨p45, p63, p64, p65, trivial⟩
abbrev h30_s0 (client : Int) (file : Int) (l : List N.TWrite) (s : N.TState) (o2 : N.TMark) (m : N.TMark) (ok : Bool) (i : Int) (o1 : N.TState) : Fr E.T := ofSlots E 91 [] [1, 3, 4, 5, 10, 11, 12, 13, 14] [.val (.int .i64) client, .val (.int .i64) file, .val (.slice (.named 7)) l, .ptr 0 [], .ptr 1 [], .ptr 2 [], .ptr 3 [], .val .bool ok, .val (.int .i64) i]
abbrev t30_s0 (client : Int) (file : Int) (l : List N.TWrite) (s : N.TState) (o2 : N.TMark) (m : N.TMark) (ok : Bool) (i : Int) (o1 : N.TState) : St E.T := [.box false (.val (.named 4) s), .box false (.agg 4 [.nils, .nils, .val (.int .i64) o1.Epoch]), .box false (.val (.named 3) o2), .box false (.val (.named 3) m)]
def x30_s0 (client : Int) (file : Int) (l : List N.TWrite) (s : N.TState) (o2 : N.TMark) (m : N.TMark) (x_ : Bool × N.TState) : Tree (CodeOut E) := .ret (.exit 0, ofSlots E 91 [] [1, 3, 4, 5, 10, 11, 12, 13] [.val (.int .i64) client, .val (.int .i64) file, .val (.slice (.named 7)) l, .ptr 0 [], .ptr 1 [], .ptr 2 [], .ptr 3 [], .val .bool x_.1], [.box false (.val (.named 4) s), .box false (.agg 4 [.nils, .nils, .val (.int .i64) x_.2.Epoch]), .box false (.val (.named 3) o2), .box false (.val (.named 3) m)])
noncomputable def g30_s0 : Ins E (CodeOut E) := ⟨[.v (.int .i64), .v (.int .i64), .v (.slice (.named 7)), .ptr 0 [], .ptr 1 [], .ptr 2 [], .ptr 3 [], .v .bool, .v (.int .i64)], [.box false (.v (.named 4)), .box false (.agg 4 [.nils, .nils, .v (.int .i64)]), .box false (.v (.named 3)), .box false (.v (.named 3))], fun client file l ok i s o1_Epoch o2 m => .opt (N.ref7_Flush_l0 N.fuel client file l s o2 m ok i (N.TState.mk [] [] o1_Epoch)) (x30_s0 client file l s o2 m)⟩
noncomputable def L30 : Nat → LoopInfo E := clL E 91 [{ ks := [1, 3, 4, 5, 10, 11, 12, 13, 14], mvs := [], pro := [], d := [], g := some (insF [g30_s0]) }] []
theorem f30_s0 (client : Int) (file : Int) (l : List N.TWrite) (s : N.TState) (o2 : N.TMark) (m : N.TMark) (ok : Bool) (i : Int) (o1 : N.TState) : ((stepOf E S30 L30 0 0 Tryz.f30 (h30_s0 client file l s o2 m ok i o1) (t30_s0 client file l s o2 m ok i o1)).bind (nx E [1, 3, 4, 5, 10, 11, 12, 13, 14] [] [1, 3, 4, 5, 10, 11, 12, 13] 4)).get = N.ref7_Flush_s0k client file l s o2 m (fun v_ => some (.inl (h30_s0 client file l s o2 m v_.1 v_.2.1 v_.2.2, t30_s0 client file l s o2 m v_.1 v_.2.1 v_.2.2))) (fun x_ => some (.inr (.exit 0, ofSlots E 91 [] [1, 3, 4, 5, 10, 11, 12, 13] [.val (.int .i64) client, .val (.int .i64) file, .val (.slice (.named 7)) l, .ptr 0 [], .ptr 1 [], .ptr 2 [], .ptr 3 [], .val .bool x_.1], [.box false (.val (.named 4) s), .box false (.agg 4 [.nils, .nils, .val (.int .i64) x_.2.Epoch]), .box false (.val (.named 3) o2), .box false (.val (.named 3) m)]))) ok i o1 := by kernel_rfl
theorem q30_s0 : InsLp 91 [1, 3, 4, 5, 10, 11, 12, 13, 14] [] [] (stepOf E S30 L30 0 0 Tryz.f30) g30_s0 := by
  intro client file l ok i s o1_Epoch o2 m out_ ho_
  obtain ⟨x_, h1_, h2_⟩ := Option.bind_eq_some_iff.1 ho_
  refine iter_loop (rs := [1, 3, 4, 5, 10, 11, 12, 13]) (step := N.ref7_Flush_s0 client file l s o2 m) (hd := fun v_ => h30_s0 client file l s o2 m v_.1 v_.2.1 v_.2.2) (sv := fun v_ => t30_s0 client file l s o2 m v_.1 v_.2.1 v_.2.2) (ex := x30_s0 client file l s o2 m) (fun v_ => ?_) N.fuel (ok, i, (N.TState.mk [] [] o1_Epoch)) h1_ h2_
  refine (f30_s0 client file l s o2 m v_.1 v_.2.1 v_.2.2).trans ((N.ref7_Flush_s0_bind client file l s o2 m _ _ v_.1 v_.2.1 v_.2.2).trans ?_)
  refine congrArg _ (funext fun s_ => ?_)
  rcases s_ with v_ | a <;> rfl
noncomputable def B30 : List (DVal E.T) → St E.T → Tree (Res E.T × St E.T) := dbody E (lookS S30) (lookD []) L30 0 false Tryz.f30
theorem B30_ok : FnOk Tryz.prog E 30 B30 := bodyC_ok sound mix S30_ok (SD := []) trivial (L := L30) (N := 0) (keep := false) Tryz.func30 rfl (by
  intro k g hg fr st out ho
  match k, hg with
  | 0, hg => cases hg; exact lp_ok (allLp_cons q30_s0 (allLp_nil)) fr st out ho
  | _ + 1, hg => cases hg)
theorem F30 (s : N.TState) (client : Int) (seq : Int) (file : Int) (l : List N.TWrite) : (B30 [.val (.named 4) s, .val (.int .i64) client, .val (.int .i64) seq, .val (.int .i64) file, .val (.slice (.named 7)) l] []).get = N.ref7_Flush_k N.fuel (fun x_ => some (.ret [.val (.named 4) x_.1, .val (.named 3) x_.2], [])) s client seq file l := by kernel_rfl
noncomputable def i30 : Ins E (Res E.T × St E.T) := ⟨[.v (.named 4), .v (.int .i64), .v (.int .i64), .v (.int .i64), .v (.slice (.named 7))], [], fun s client seq file l => .opt (N.ref7_Flush N.fuel s client seq file l) fun x_ => .ret (.ret [.val (.named 4) x_.1, .val (.named 3) x_.2], [])⟩
theorem i30_ok : InsOk Tryz.prog 30 i30 := ⟨B30, B30_ok, by intro s client seq file l out_ h_; exact ((F30 s client seq file l).trans (N.ref7_Flush_bind N.fuel _ s client seq file l)).trans h_⟩
noncomputable def P30 : Nat × D.Spec E := (30, .pure [(.named 4), (.int .i64), (.int .i64), (.int .i64), (.slice (.named 7))] (pureF [i30]))
theorem p30 : SpecOk Tryz.prog E P30.1 P30.2 := pureI_ok Tryz.call30 ⟨i30_ok, trivial⟩

/-! tenancy/tenancyref7.Gone -/
noncomputable def S32 : List (Nat × D.Spec E) := [P45, P63]
theorem S32_ok : AllS Tryz.prog E S32 := ⟨p45, p63, trivial⟩
noncomputable def L32 : Nat → LoopInfo E := clL E 32 [] []
noncomputable def B32 : List (DVal E.T) → St E.T → Tree (Res E.T × St E.T) := dbody E (lookS S32) (lookD []) L32 0 false Tryz.f32
theorem B32_ok : FnOk Tryz.prog E 32 B32 := bodyC_ok sound mix S32_ok (SD := []) trivial (L := L32) (N := 0) (keep := false) Tryz.func32 rfl (by
  intro k g hg fr st out ho
  match k, hg with
  | _, hg => cases hg)
theorem F32 (s : N.TState) (client : Int) (seq : Int) (file : Int) : (B32 [.val (.named 4) s, .val (.int .i64) client, .val (.int .i64) seq, .val (.int .i64) file] []).get = N.ref7_Gone_k (fun x_ => some (.ret [.val (.named 4) x_.1, .val (.named 3) x_.2], [])) s client seq file := by kernel_rfl
noncomputable def i32 : Ins E (Res E.T × St E.T) := ⟨[.v (.named 4), .v (.int .i64), .v (.int .i64), .v (.int .i64)], [], fun s client seq file => .opt (N.ref7_Gone s client seq file) fun x_ => .ret (.ret [.val (.named 4) x_.1, .val (.named 3) x_.2], [])⟩
theorem i32_ok : InsOk Tryz.prog 32 i32 := ⟨B32, B32_ok, by intro s client seq file out_ h_; exact ((F32 s client seq file).trans (N.ref7_Gone_bind _ s client seq file)).trans h_⟩
noncomputable def P32 : Nat × D.Spec E := (32, .pure [(.named 4), (.int .i64), (.int .i64), (.int .i64)] (pureF [i32]))
theorem p32 : SpecOk Tryz.prog E P32.1 P32.2 := pureI_ok Tryz.call32 ⟨i32_ok, trivial⟩

/-! (*tenancy/tenancymade.Picks).State -/
noncomputable def S10 : List (Nat × D.Spec E) := [P15, P26, P27, P28, P29, P30, P31, P32, P33]
theorem S10_ok : AllS Tryz.prog E S10 := ⟨p15, p26, p27, p28, p29, p30, p31, p32, p33, trivial⟩
abbrev h10_s0 (most : Int) (i : Int) (p : N.Ttenancymade_Picks) (o1 : N.TState) (s : N.TState) : Fr E.T := ofSlots E 82 [] [0, 1, 4, 5, 6] [.ptr 0 [], .val (.int .i64) most, .ptr 1 [], .ptr 2 [], .val (.int .i64) i]
abbrev t10_s0 (most : Int) (i : Int) (p : N.Ttenancymade_Picks) (o1 : N.TState) (s : N.TState) : St E.T := [.box false (.val (.named 6) p), .box false (.agg 4 [.nils, .nils, .val (.int .i64) o1.Epoch]), .box false (.val (.named 4) s)]
def x10_s0 (most : Int) (x_ : N.Ttenancymade_Picks × N.TState × N.TState) : Tree (CodeOut E) := .ret (.exit 0, ofSlots E 82 [] [4, 5] [.ptr 1 [], .ptr 2 []], [.box false (.val (.named 6) x_.1), .box false (.agg 4 [.nils, .nils, .val (.int .i64) x_.2.1.Epoch]), .box false (.val (.named 4) x_.2.2)])
noncomputable def g10_s0 : Ins E (CodeOut E) := ⟨[.ptr 0 [], .v (.int .i64), .ptr 1 [], .ptr 2 [], .v (.int .i64)], [.box false (.v (.named 6)), .box false (.agg 4 [.nils, .nils, .v (.int .i64)]), .box false (.v (.named 4))], fun most i p o1_Epoch s => .opt (N.made_Picks_State_l0 N.fuel most i p (N.TState.mk [] [] o1_Epoch) s) (x10_s0 most)⟩
noncomputable def L10 : Nat → LoopInfo E := clL E 82 [{ ks := [0, 1, 4, 5, 6], mvs := [], pro := [], d := [], g := some (insF [g10_s0]) }] []
theorem f10_s0 (most : Int) (i : Int) (p : N.Ttenancymade_Picks) (o1 : N.TState) (s : N.TState) : ((stepOf E S10 L10 0 0 Tryz.f10 (h10_s0 most i p o1 s) (t10_s0 most i p o1 s)).bind (nx E [0, 1, 4, 5, 6] [] [4, 5] 3)).get = N.made_Picks_State_s0k N.fuel most (fun v_ => some (.inl (h10_s0 most v_.1 v_.2.1 v_.2.2.1 v_.2.2.2, t10_s0 most v_.1 v_.2.1 v_.2.2.1 v_.2.2.2))) (fun x_ => some (.inr (.exit 0, ofSlots E 82 [] [4, 5] [.ptr 1 [], .ptr 2 []], [.box false (.val (.named 6) x_.1), .box false (.agg 4 [.nils, .nils, .val (.int .i64) x_.2.1.Epoch]), .box false (.val (.named 4) x_.2.2)]))) i p o1 s := by kernel_rfl
theorem q10_s0 : InsLp 82 [0, 1, 4, 5, 6] [] [] (stepOf E S10 L10 0 0 Tryz.f10) g10_s0 := by
  intro most i p o1_Epoch s out_ ho_
  obtain ⟨x_, h1_, h2_⟩ := Option.bind_eq_some_iff.1 ho_
  refine iter_loop (rs := [4, 5]) (step := N.made_Picks_State_s0 N.fuel most) (hd := fun v_ => h10_s0 most v_.1 v_.2.1 v_.2.2.1 v_.2.2.2) (sv := fun v_ => t10_s0 most v_.1 v_.2.1 v_.2.2.1 v_.2.2.2) (ex := x10_s0 most) (fun v_ => ?_) N.fuel (i, p, (N.TState.mk [] [] o1_Epoch), s) h1_ h2_
  refine (f10_s0 most v_.1 v_.2.1 v_.2.2.1 v_.2.2.2).trans ((N.made_Picks_State_s0_bind N.fuel most _ _ v_.1 v_.2.1 v_.2.2.1 v_.2.2.2).trans ?_)
  refine congrArg _ (funext fun s_ => ?_)
  rcases s_ with v_ | a <;> rfl
noncomputable def B10 : List (DVal E.T) → St E.T → Tree (Res E.T × St E.T) := tidyF (dbody E (lookS S10) (lookD []) L10 0 false Tryz.f10)
theorem B10_ok : FnOk Tryz.prog E 10 B10 := tidy_fn ok (bodyC_ok sound mix S10_ok (SD := []) trivial (L := L10) (N := 0) (keep := false) Tryz.func10 rfl (by
  intro k g hg fr st out ho
  match k, hg with
  | 0, hg => cases hg; exact lp_ok (allLp_cons q10_s0 (allLp_nil)) fr st out ho
  | _ + 1, hg => cases hg))
theorem F10 (most : Int) (p : N.Ttenancymade_Picks) : (B10 [.ptr 0 [], .val (.int .i64) most] [.box false (.val (.named 6) p)]).get = N.made_Picks_State_k N.fuel (fun x_ => some (.ret [.val (.named 4) x_.1], [.box false (.val (.named 6) x_.2)])) most p := by kernel_rfl
noncomputable def i10 : Ins E (Res E.T × St E.T) := ⟨[.ptr 0 [], .v (.int .i64)], [.box false (.v (.named 6))], fun most p => .opt (N.made_Picks_State N.fuel most p) fun x_ => .ret (.ret [.val (.named 4) x_.1], [.box false (.val (.named 6) x_.2)])⟩
theorem i10_ok : InsOk Tryz.prog 10 i10 := ⟨B10, B10_ok, by intro most p out_ h_; exact ((F10 most p).trans (N.made_Picks_State_bind N.fuel _ most p)).trans h_⟩
noncomputable def P10 : Nat × D.Spec E := (10, .full [.ptr, .data (.int .i64)] false (fullF [i10]))
theorem p10 : SpecOk Tryz.prog E P10.1 P10.2 := fullI_ok ok Tryz.call10 ⟨i10_ok, trivial⟩

/-! tenancy/tenancyref5.lasts -/
noncomputable def S42 : List (Nat × D.Spec E) := []
theorem S42_ok : AllS Tryz.prog E S42 := trivial
noncomputable def L42 : Nat → LoopInfo E := clL E 51 [] []
noncomputable def B42 : List (DVal E.T) → St E.T → Tree (Res E.T × St E.T) := dbody E (lookS S42) (lookD []) L42 0 false Tryz.f42
theorem B42_ok : FnOk Tryz.prog E 42 B42 := bodyC_ok sound mix S42_ok (SD := []) trivial (L := L42) (N := 0) (keep := false) Tryz.func42 rfl (by
  intro k g hg fr st out ho
  match k, hg with
  | _, hg => cases hg)
theorem F42 (l : List (List UInt8)) (p : N.TPut) (n : Int) : (B42 [.val (.slice .str) l, .val (.named 0) p, .val (.int .i64) n] []).get = N.ref5_lasts_k (fun x_ => some (.ret [.val (.slice .str) x_], [])) l p n := by kernel_rfl
noncomputable def i42 : Ins E (Res E.T × St E.T) := ⟨[.v (.slice .str), .v (.named 0), .v (.int .i64)], [], fun l p n => .opt (N.ref5_lasts l p n) fun x_ => .ret (.ret [.val (.slice .str) x_], [])⟩
theorem i42_ok : InsOk Tryz.prog 42 i42 := ⟨B42, B42_ok, by intro l p n out_ h_; exact ((F42 l p n).trans (N.ref5_lasts_bind _ l p n)).trans h_⟩
noncomputable def P42 : Nat × D.Spec E := (42, .pure [(.slice .str), (.named 0), (.int .i64)] (pureF [i42]))
theorem p42 : SpecOk Tryz.prog E P42.1 P42.2 := pureI_ok Tryz.call42 ⟨i42_ok, trivial⟩

/-! tenancy/tenancyref5.Crash -/
noncomputable def S13 : List (Nat × D.Spec E) := [P42]
theorem S13_ok : AllS Tryz.prog E S13 := ⟨p42, trivial⟩
abbrev h13_s0 (keep : List Int) (k : Int) (d : N.TDisk) (o1 : N.TDisk) : Fr E.T := ofSlots E 37 [] [1, 2, 4, 5] [.val (.slice (.int .i64)) keep, .ptr 0 [], .ptr 1 [], .val (.int .i64) k]
abbrev t13_s0 (keep : List Int) (k : Int) (d : N.TDisk) (o1 : N.TDisk) : St E.T := [.box false (.val (.named 1) d), .box false (.agg 1 [.nils, .nils, .val (.int .i64) o1.Arm, .val .bool o1.Down])]
def x13_s0 (keep : List Int) (x_ : N.TDisk × N.TDisk) : Tree (CodeOut E) := .ret (.exit 0, ofSlots E 37 [] [2, 4] [.ptr 0 [], .ptr 1 []], [.box false (.val (.named 1) x_.1), .box false (.agg 1 [.nils, .nils, .val (.int .i64) x_.2.Arm, .val .bool x_.2.Down])])
noncomputable def g13_s0 : Ins E (CodeOut E) := ⟨[.v (.slice (.int .i64)), .ptr 0 [], .ptr 1 [], .v (.int .i64)], [.box false (.v (.named 1)), .box false (.agg 1 [.nils, .nils, .v (.int .i64), .v .bool])], fun keep k d o1_Arm o1_Down => .opt (N.ref5_Crash_l0 N.fuel keep k d (N.TDisk.mk [] [] o1_Arm o1_Down)) (x13_s0 keep)⟩
noncomputable def L13 : Nat → LoopInfo E := clL E 37 [{ ks := [1, 2, 4, 5], mvs := [], pro := [], d := [], g := some (insF [g13_s0]) }] []
theorem f13_s0 (keep : List Int) (k : Int) (d : N.TDisk) (o1 : N.TDisk) : ((stepOf E S13 L13 0 0 Tryz.f13 (h13_s0 keep k d o1) (t13_s0 keep k d o1)).bind (nx E [1, 2, 4, 5] [] [2, 4] 2)).get = N.ref5_Crash_s0k keep (fun v_ => some (.inl (h13_s0 keep v_.1 v_.2.1 v_.2.2, t13_s0 keep v_.1 v_.2.1 v_.2.2))) (fun x_ => some (.inr (.exit 0, ofSlots E 37 [] [2, 4] [.ptr 0 [], .ptr 1 []], [.box false (.val (.named 1) x_.1), .box false (.agg 1 [.nils, .nils, .val (.int .i64) x_.2.Arm, .val .bool x_.2.Down])]))) k d o1 := by kernel_rfl
theorem q13_s0 : InsLp 37 [1, 2, 4, 5] [] [] (stepOf E S13 L13 0 0 Tryz.f13) g13_s0 := by
  intro keep k d o1_Arm o1_Down out_ ho_
  obtain ⟨x_, h1_, h2_⟩ := Option.bind_eq_some_iff.1 ho_
  refine iter_loop (rs := [2, 4]) (step := N.ref5_Crash_s0 keep) (hd := fun v_ => h13_s0 keep v_.1 v_.2.1 v_.2.2) (sv := fun v_ => t13_s0 keep v_.1 v_.2.1 v_.2.2) (ex := x13_s0 keep) (fun v_ => ?_) N.fuel (k, d, (N.TDisk.mk [] [] o1_Arm o1_Down)) h1_ h2_
  refine (f13_s0 keep v_.1 v_.2.1 v_.2.2).trans ((N.ref5_Crash_s0_bind keep _ _ v_.1 v_.2.1 v_.2.2).trans ?_)
  refine congrArg _ (funext fun s_ => ?_)
  rcases s_ with v_ | a <;> rfl
noncomputable def B13 : List (DVal E.T) → St E.T → Tree (Res E.T × St E.T) := dbody E (lookS S13) (lookD []) L13 0 false Tryz.f13
theorem B13_ok : FnOk Tryz.prog E 13 B13 := bodyC_ok sound mix S13_ok (SD := []) trivial (L := L13) (N := 0) (keep := false) Tryz.func13 rfl (by
  intro k g hg fr st out ho
  match k, hg with
  | 0, hg => cases hg; exact lp_ok (allLp_cons q13_s0 (allLp_nil)) fr st out ho
  | _ + 1, hg => cases hg)
theorem F13 (d : N.TDisk) (keep : List Int) : (B13 [.val (.named 1) d, .val (.slice (.int .i64)) keep] []).get = N.ref5_Crash_k N.fuel (fun x_ => some (.ret [.val (.named 1) x_], [])) d keep := by kernel_rfl
noncomputable def i13 : Ins E (Res E.T × St E.T) := ⟨[.v (.named 1), .v (.slice (.int .i64))], [], fun d keep => .opt (N.ref5_Crash N.fuel d keep) fun x_ => .ret (.ret [.val (.named 1) x_], [])⟩
theorem i13_ok : InsOk Tryz.prog 13 i13 := ⟨B13, B13_ok, by intro d keep out_ h_; exact ((F13 d keep).trans (N.ref5_Crash_bind N.fuel _ d keep)).trans h_⟩
noncomputable def P13 : Nat × D.Spec E := (13, .pure [(.named 1), (.slice (.int .i64))] (pureF [i13]))
theorem p13 : SpecOk Tryz.prog E P13.1 P13.2 := pureI_ok Tryz.call13 ⟨i13_ok, trivial⟩

/-! tenancy/tenancylaw12.StoreTwice -/
noncomputable def S5 : List (Nat × D.Spec E) := [P10, P11, P12, P13, P14, P18, P7, P8, P9]
theorem S5_ok : AllS Tryz.prog E S5 := ⟨p10, p11, p12, p13, p14, p18, p7, p8, p9, trivial⟩
noncomputable def L5 : Nat → LoopInfo E := clL E 133 [] []
noncomputable def B5 : List (DVal E.T) → St E.T → Tree (Res E.T × St E.T) := dbody E (lookS S5) (lookD []) L5 0 false Tryz.f5
theorem B5_ok : FnOk Tryz.prog E 5 B5 := bodyC_ok sound mix S5_ok (SD := []) trivial (L := L5) (N := 0) (keep := false) Tryz.func5 rfl (by
  intro k g hg fr st out ho
  match k, hg with
  | _, hg => cases hg)
theorem F5 (a : List UInt8) (b : List UInt8) (arm : UInt8) (keep : List Int) : (B5 [.val (.slice (.int .u8)) a, .val (.slice (.int .u8)) b, .val (.int .u8) arm, .val (.slice (.int .i64)) keep] []).get = N.law12_StoreTwice_k N.fuel (fun x_ => some (.ret [.val .bool x_], [])) a b arm keep := by kernel_rfl
noncomputable def i5 : Ins E (Res E.T × St E.T) := ⟨[.v (.slice (.int .u8)), .v (.slice (.int .u8)), .v (.int .u8), .v (.slice (.int .i64))], [], fun a b arm keep => .opt (N.law12_StoreTwice N.fuel a b arm keep) fun x_ => .ret (.ret [.val .bool x_], [])⟩
theorem i5_ok : InsOk Tryz.prog 5 i5 := ⟨B5, B5_ok, by intro a b arm keep out_ h_; exact ((F5 a b arm keep).trans (N.law12_StoreTwice_bind N.fuel _ a b arm keep)).trans h_⟩
noncomputable def P5 : Nat × D.Spec E := (5, .pure [(.slice (.int .u8)), (.slice (.int .u8)), (.int .u8), (.slice (.int .i64))] (pureF [i5]))
theorem p5 : SpecOk Tryz.prog E P5.1 P5.2 := pureI_ok Tryz.call5 ⟨i5_ok, trivial⟩

/-! tenancy/tenancyref7.num -/
noncomputable def S86 : List (Nat × D.Spec E) := []
theorem S86_ok : AllS Tryz.prog E S86 := trivial
noncomputable def L86 : Nat → LoopInfo E := clL E 9 [] []
noncomputable def B86 : List (DVal E.T) → St E.T → Tree (Res E.T × St E.T) := dbody E (lookS S86) (lookD []) L86 0 false Tryz.f86
theorem B86_ok : FnOk Tryz.prog E 86 B86 := bodyC_ok sound mix S86_ok (SD := []) trivial (L := L86) (N := 0) (keep := false) Tryz.func86 rfl (by
  intro k g hg fr st out ho
  match k, hg with
  | _, hg => cases hg)
theorem F86 (n : Int) : (B86 [.val (.int .i64) n] []).get = N.ref7_num_k (fun x_ => some (.ret [.val .bool x_], [])) n := by kernel_rfl
noncomputable def i86 : Ins E (Res E.T × St E.T) := ⟨[.v (.int .i64)], [], fun n => .ret (.ret [.val .bool (N.ref7_num n)], [])⟩
theorem i86_ok : InsOk Tryz.prog 86 i86 := ⟨B86, B86_ok, by intro n out_ h_; exact ((F86 n).trans (N.ref7_num_bind _ n)).trans h_⟩
noncomputable def P86 : Nat × D.Spec E := (86, .pure [(.int .i64)] (pureF [i86]))
theorem p86 : SpecOk Tryz.prog E P86.1 P86.2 := pureI_ok Tryz.call86 ⟨i86_ok, trivial⟩

/-! tenancy/tenancyref7.MayState -/
noncomputable def S50 : List (Nat × D.Spec E) := [P44, P46, P86]
theorem S50_ok : AllS Tryz.prog E S50 := ⟨p44, p46, p86, trivial⟩
abbrev h50_s0 (s : N.TState) (i : Int) : Fr E.T := ofSlots E 117 [] [1, 3] [.ptr 0 [], .val (.int .i64) i]
abbrev t50_s0 (s : N.TState) (i : Int) : St E.T := [.box false (.val (.named 4) s)]
def x50_s0 (s : N.TState) (x_ : N.TFile ⊕ Unit) : Tree (CodeOut E) := altT x_ (fun u0_ => .ret (.ret, ofSlots E 117 [] [1, 2] [.ptr 0 [], .val .bool false], [.box false (.val (.named 4) s), .box false (.val (.named 2) u0_)])) (fun w0_ => .ret (.exit 0, ofSlots E 117 [] [1, 2] [.ptr 0 [], .undef], [.box false (.val (.named 4) s)]))
noncomputable def g50_s0 : Ins E (CodeOut E) := ⟨[.ptr 0 [], .v (.int .i64)], [.box false (.v (.named 4))], fun i s => .opt (N.ref7_MayState_l0 N.fuel s i) (x50_s0 s)⟩
abbrev h50_s1 (s : N.TState) (i : Int) : Fr E.T := ofSlots E 117 [] [1, 7] [.ptr 0 [], .val (.int .i64) i]
abbrev t50_s1 (s : N.TState) (i : Int) : St E.T := [.box false (.val (.named 4) s)]
def x50_s1 (s : N.TState) (x_ : N.TMark ⊕ Unit) : Tree (CodeOut E) := altT x_ (fun u0_ => .ret (.ret, ofSlots E 117 [] [2] [.val .bool false], [.box false (.val (.named 4) s), .box false (.val (.named 3) u0_)])) (fun w0_ => .ret (.exit 2, ofSlots E 117 [] [2] [.undef], [.box false (.val (.named 4) s)]))
noncomputable def g50_s1 : Ins E (CodeOut E) := ⟨[.ptr 0 [], .v (.int .i64)], [.box false (.v (.named 4))], fun i s => .opt (N.ref7_MayState_l1 N.fuel s i) (x50_s1 s)⟩
noncomputable def L50 : Nat → LoopInfo E := clL E 117 [{ ks := [1, 3], mvs := [], pro := [], d := [], g := some (insF [g50_s0]) }, { ks := [1, 7], mvs := [], pro := [], d := [], g := some (insF [g50_s1]) }] []
theorem f50_s0 (s : N.TState) (i : Int) : ((stepOf E S50 L50 0 0 Tryz.f50 (h50_s0 s i) (t50_s0 s i)).bind (nx E [1, 3] [] [1, 2] 1)).get = N.ref7_MayState_s0k N.fuel s (fun v_ => some (.inl (h50_s0 s v_, t50_s0 s v_))) (fun x_ => some (.inr (.ret, ofSlots E 117 [] [1, 2] [.ptr 0 [], .val .bool false], [.box false (.val (.named 4) s), .box false (.val (.named 2) x_)]))) (fun x_ => some (.inr (.exit 0, ofSlots E 117 [] [1, 2] [.ptr 0 [], .undef], [.box false (.val (.named 4) s)]))) i := by kernel_rfl
theorem q50_s0 : InsLp 117 [1, 3] [] [] (stepOf E S50 L50 0 0 Tryz.f50) g50_s0 := by
  intro i s out_ ho_
  obtain ⟨x_, h1_, h2_⟩ := Option.bind_eq_some_iff.1 ho_
  refine iter_loop (rs := [1, 2]) (step := N.ref7_MayState_s0 N.fuel s) (hd := fun v_ => h50_s0 s v_) (sv := fun v_ => t50_s0 s v_) (ex := x50_s0 s) (fun v_ => ?_) N.fuel i h1_ h2_
  refine (f50_s0 s v_).trans ((N.ref7_MayState_s0_bind N.fuel s _ _ _ v_).trans ?_)
  refine congrArg _ (funext fun s_ => ?_)
  rcases s_ with v_ | a | a <;> rfl
theorem f50_s1 (s : N.TState) (i : Int) : ((stepOf E S50 L50 0 1 Tryz.f50 (h50_s1 s i) (t50_s1 s i)).bind (nx E [1, 7] [] [2] 1)).get = N.ref7_MayState_s1k s (fun v_ => some (.inl (h50_s1 s v_, t50_s1 s v_))) (fun x_ => some (.inr (.ret, ofSlots E 117 [] [2] [.val .bool false], [.box false (.val (.named 4) s), .box false (.val (.named 3) x_)]))) (fun x_ => some (.inr (.exit 2, ofSlots E 117 [] [2] [.undef], [.box false (.val (.named 4) s)]))) i := by kernel_rfl
theorem q50_s1 : InsLp 117 [1, 7] [] [] (stepOf E S50 L50 0 1 Tryz.f50) g50_s1 := by
  intro i s out_ ho_
  obtain ⟨x_, h1_, h2_⟩ := Option.bind_eq_some_iff.1 ho_
  refine iter_loop (rs := [2]) (step := N.ref7_MayState_s1 s) (hd := fun v_ => h50_s1 s v_) (sv := fun v_ => t50_s1 s v_) (ex := x50_s1 s) (fun v_ => ?_) N.fuel i h1_ h2_
  refine (f50_s1 s v_).trans ((N.ref7_MayState_s1_bind s _ _ _ v_).trans ?_)
  refine congrArg _ (funext fun s_ => ?_)
  rcases s_ with v_ | a | a <;> rfl
noncomputable def B50 : List (DVal E.T) → St E.T → Tree (Res E.T × St E.T) := dbody E (lookS S50) (lookD []) L50 0 false Tryz.f50
theorem B50_ok : FnOk Tryz.prog E 50 B50 := bodyC_ok sound mix S50_ok (SD := []) trivial (L := L50) (N := 0) (keep := false) Tryz.func50 rfl (by
  intro k g hg fr st out ho
  match k, hg with
  | 0, hg => cases hg; exact lp_ok (allLp_cons q50_s0 (allLp_nil)) fr st out ho
  | 1, hg => cases hg; exact lp_ok (allLp_cons q50_s1 (allLp_nil)) fr st out ho
  | _ + 2, hg => cases hg)
theorem F50 (s : N.TState) : (B50 [.val (.named 4) s] []).get = N.ref7_MayState_k N.fuel (fun x_ => some (.ret [.val .bool x_], [])) s := by kernel_rfl
noncomputable def i50 : Ins E (Res E.T × St E.T) := ⟨[.v (.named 4)], [], fun s => .opt (N.ref7_MayState N.fuel s) fun x_ => .ret (.ret [.val .bool x_], [])⟩
theorem i50_ok : InsOk Tryz.prog 50 i50 := ⟨B50, B50_ok, by intro s out_ h_; exact ((F50 s).trans (N.ref7_MayState_bind N.fuel _ s)).trans h_⟩
noncomputable def P50 : Nat × D.Spec E := (50, .pure [(.named 4)] (pureF [i50]))
theorem p50 : SpecOk Tryz.prog E P50.1 P50.2 := pureI_ok Tryz.call50 ⟨i50_ok, trivial⟩

/-! tenancy/tenancyref1.Put -/
noncomputable def S51 : List (Nat × D.Spec E) := []
theorem S51_ok : AllS Tryz.prog E S51 := trivial
abbrev h51_s0 (v : Int) (i : Int) (out : List UInt8) : Fr E.T := ofSlots E 34 [] [1, 7, 8] [.val (.int .i64) v, .own 0, .val (.int .i64) i]
abbrev t51_s0 (v : Int) (i : Int) (out : List UInt8) : St E.T := [.arr .live (.int .u8) out]
def x51_s0 (v : Int) (x_ : List UInt8) : Tree (CodeOut E) := .ret (.exit 0, ofSlots E 34 [] [6, 7] [.undef, .own 0], [.arr .live (.int .u8) x_])
noncomputable def g51_s0 : Ins E (CodeOut E) := ⟨[.v (.int .i64), .own 0, .v (.int .i64)], [.arr .live (.int .u8)], fun v i out => .opt (N.ref1_Put_l0 N.fuel v i out) (x51_s0 v)⟩
noncomputable def L51 : Nat → LoopInfo E := clL E 34 [{ ks := [1, 7, 8], mvs := [], pro := [], d := [], g := some (insF [g51_s0]) }] []
theorem f51_s0 (v : Int) (i : Int) (out : List UInt8) : ((stepOf E S51 L51 0 0 Tryz.f51 (h51_s0 v i out) (t51_s0 v i out)).bind (nx E [1, 7, 8] [] [6, 7] 1)).get = N.ref1_Put_s0k v (fun v_ => some (.inl (h51_s0 v v_.1 v_.2, t51_s0 v v_.1 v_.2))) (fun x_ => some (.inr (.exit 0, ofSlots E 34 [] [6, 7] [.undef, .own 0], [.arr .live (.int .u8) x_]))) i out := by kernel_rfl
theorem q51_s0 : InsLp 34 [1, 7, 8] [] [] (stepOf E S51 L51 0 0 Tryz.f51) g51_s0 := by
  intro v i out out_ ho_
  obtain ⟨x_, h1_, h2_⟩ := Option.bind_eq_some_iff.1 ho_
  refine iter_loop (rs := [6, 7]) (step := N.ref1_Put_s0 v) (hd := fun v_ => h51_s0 v v_.1 v_.2) (sv := fun v_ => t51_s0 v v_.1 v_.2) (ex := x51_s0 v) (fun v_ => ?_) N.fuel (i, out) h1_ h2_
  refine (f51_s0 v v_.1 v_.2).trans ((N.ref1_Put_s0_bind v _ _ v_.1 v_.2).trans ?_)
  refine congrArg _ (funext fun s_ => ?_)
  rcases s_ with v_ | a <;> rfl
noncomputable def B51 : List (DVal E.T) → St E.T → Tree (Res E.T × St E.T) := tidyF (dbody E (lookS S51) (lookD []) L51 0 true Tryz.f51)
theorem B51_ok : FnOk Tryz.prog E 51 B51 := tidy_fn ok (bodyC_ok sound mix S51_ok (SD := []) trivial (L := L51) (N := 0) (keep := true) Tryz.func51 rfl (by
  intro k g hg fr st out ho
  match k, hg with
  | 0, hg => cases hg; exact lp_ok (allLp_cons q51_s0 (allLp_nil)) fr st out ho
  | _ + 1, hg => cases hg))
theorem F51 (b : List UInt8) (v : Int) (n : Int) : (B51 [.val (.slice (.int .u8)) b, .val (.int .i64) v, .val (.int .i64) n] []).get = N.ref1_Put_k N.fuel (fun x_ => some (.ret [.own 0], [.arr .live (.int .u8) x_])) b v n := by kernel_rfl
noncomputable def i51 : Ins E (Res E.T × St E.T) := ⟨[.v (.slice (.int .u8)), .v (.int .i64), .v (.int .i64)], [], fun b v n => .opt (N.ref1_Put N.fuel b v n) fun x_ => .ret (.ret [.own 0], [.arr .live (.int .u8) x_])⟩
theorem i51_ok : InsOk Tryz.prog 51 i51 := ⟨B51, B51_ok, by intro b v n out_ h_; exact ((F51 b v n).trans (N.ref1_Put_bind N.fuel _ b v n)).trans h_⟩
noncomputable def P51 : Nat × D.Spec E := (51, .full [.data (.slice (.int .u8)), .data (.int .i64), .data (.int .i64)] false (fullF [i51]))
theorem p51 : SpecOk Tryz.prog E P51.1 P51.2 := fullI_ok ok Tryz.call51 ⟨i51_ok, trivial⟩

/-! tenancy/tenancyref1.Text -/
noncomputable def S52 : List (Nat × D.Spec E) := []
theorem S52_ok : AllS Tryz.prog E S52 := trivial
noncomputable def L52 : Nat → LoopInfo E := clL E 21 [] []
noncomputable def B52 : List (DVal E.T) → St E.T → Tree (Res E.T × St E.T) := tidyF (dbody E (lookS S52) (lookD []) L52 0 true Tryz.f52)
theorem B52_ok : FnOk Tryz.prog E 52 B52 := tidy_fn ok (bodyC_ok sound mix S52_ok (SD := []) trivial (L := L52) (N := 0) (keep := true) Tryz.func52 rfl (by
  intro k g hg fr st out ho
  match k, hg with
  | _, hg => cases hg))
theorem F52 (b : List UInt8) (s : List UInt8) : (B52 [.val (.slice (.int .u8)) b, .val .str s] []).get = N.ref1_Text_k (fun x_ => some (.ret [.own 0], [.arr .live (.int .u8) x_])) b s := by kernel_rfl
noncomputable def i52 : Ins E (Res E.T × St E.T) := ⟨[.v (.slice (.int .u8)), .v .str], [], fun b s => .opt (N.ref1_Text b s) fun x_ => .ret (.ret [.own 0], [.arr .live (.int .u8) x_])⟩
theorem i52_ok : InsOk Tryz.prog 52 i52 := ⟨B52, B52_ok, by intro b s out_ h_; exact ((F52 b s).trans (N.ref1_Text_bind _ b s)).trans h_⟩
noncomputable def P52 : Nat × D.Spec E := (52, .full [.data (.slice (.int .u8)), .data .str] false (fullF [i52]))
theorem p52 : SpecOk Tryz.prog E P52.1 P52.2 := fullI_ok ok Tryz.call52 ⟨i52_ok, trivial⟩

/-! tenancy/tenancyref7.PutImage -/
noncomputable def S19 : List (Nat × D.Spec E) := [P50, P51, P52]
theorem S19_ok : AllS Tryz.prog E S19 := ⟨p50, p51, p52, trivial⟩
abbrev h19_s0 (s : N.TState) (i : Int) (b : List UInt8) : Fr E.T := ofSlots E 99 [] [1, 3, 4] [.ptr 0 [], .own 1, .val (.int .i64) i]
abbrev t19_s0 (s : N.TState) (i : Int) (b : List UInt8) : St E.T := [.box false (.val (.named 4) s), .arr .live (.int .u8) b]
def x19_s0 (s : N.TState) (x_ : List UInt8) : Tree (CodeOut E) := .ret (.exit 0, ofSlots E 99 [] [1, 2, 3] [.ptr 0 [], .undef, .own 1], [.box false (.val (.named 4) s), .arr .live (.int .u8) x_])
noncomputable def g19_s0 : Ins E (CodeOut E) := ⟨[.ptr 0 [], .own 1, .v (.int .i64)], [.box false (.v (.named 4)), .arr .live (.int .u8)], fun i s b => .opt (N.ref7_PutImage_l0 N.fuel s i b) (x19_s0 s)⟩
abbrev h19_s1 (s : N.TState) (i : Int) (b : List UInt8) : Fr E.T := ofSlots E 99 [] [1, 3, 6] [.ptr 0 [], .own 1, .val (.int .i64) i]
abbrev t19_s1 (s : N.TState) (i : Int) (b : List UInt8) : St E.T := [.box false (.val (.named 4) s), .arr .live (.int .u8) b]
def x19_s1 (s : N.TState) (x_ : List UInt8) : Tree (CodeOut E) := .ret (.exit 2, ofSlots E 99 [] [2, 3] [.undef, .own 1], [.box false (.val (.named 4) s), .arr .live (.int .u8) x_])
noncomputable def g19_s1 : Ins E (CodeOut E) := ⟨[.ptr 0 [], .own 1, .v (.int .i64)], [.box false (.v (.named 4)), .arr .live (.int .u8)], fun i s b => .opt (N.ref7_PutImage_l1 N.fuel s i b) (x19_s1 s)⟩
abbrev h19_s2 (o0 : N.TState) (b : List UInt8) : Fr E.T := ofSlots E 99 [] [3] [.own 1]
abbrev t19_s2 (o0 : N.TState) (b : List UInt8) : St E.T := [.box false (.val (.named 4) o0), .arr .live (.int .u8) b]
def x19_s2 (o0 : N.TState) (x_ : List UInt8) : Tree (CodeOut E) := .ret (.exit 4, ofSlots E 99 [] [2, 3] [.undef, .own 1], [.box false (.val (.named 4) o0), .arr .live (.int .u8) x_])
noncomputable def g19_s2 : Ins E (CodeOut E) := ⟨[.own 1], [.box false (.v (.named 4)), .arr .live (.int .u8)], fun o0 b => .opt (N.ref7_PutImage_l2 N.fuel o0 b) (x19_s2 o0)⟩
abbrev h19_s3 (o0 : N.TState) (b : List UInt8) (i : Int) (out : List (List UInt8)) : Fr E.T := ofSlots E 99 [] [3, 8, 9] [.own 1, .own 2, .val (.int .i64) i]
abbrev t19_s3 (o0 : N.TState) (b : List UInt8) (i : Int) (out : List (List UInt8)) : St E.T := [.box false (.val (.named 4) o0), .arr .froz (.int .u8) b, .arr .live .str out]
def x19_s3 (o0 : N.TState) (b : List UInt8) (x_ : List (List UInt8)) : Tree (CodeOut E) := .ret (.exit 6, ofSlots E 99 [] [2, 8] [.undef, .own 2], [.box false (.val (.named 4) o0), .arr .froz (.int .u8) b, .arr .live .str x_])
noncomputable def g19_s3 : Ins E (CodeOut E) := ⟨[.own 1, .own 2, .v (.int .i64)], [.box false (.v (.named 4)), .arr .froz (.int .u8), .arr .live .str], fun i o0 b out => .opt (N.ref7_PutImage_l3 N.fuel o0 b i out) (x19_s3 o0 b)⟩
noncomputable def L19 : Nat → LoopInfo E := clL E 99 [{ ks := [1, 3, 4], mvs := [(3, 1)], pro := [], d := [], g := some (insF [g19_s0]) }, { ks := [1, 3, 6], mvs := [(3, 1)], pro := [], d := [], g := some (insF [g19_s1]) }, { ks := [3], mvs := [], pro := [], d := [], g := some (insF [g19_s2]) }, { ks := [3, 8, 9], mvs := [], pro := [.pro (.slot 8) [] .str, .frz 1], d := [], g := some (insF [g19_s3]) }] []
theorem f19_s0 (s : N.TState) (i : Int) (b : List UInt8) : ((stepOf E S19 L19 0 0 Tryz.f19 (h19_s0 s i b) (t19_s0 s i b)).bind (nx E [1, 3, 4] [(3, 1)] [1, 2, 3] 2)).get = N.ref7_PutImage_s0k N.fuel s (fun v_ => some (.inl (h19_s0 s v_.1 v_.2, t19_s0 s v_.1 v_.2))) (fun x_ => some (.inr (.exit 0, ofSlots E 99 [] [1, 2, 3] [.ptr 0 [], .undef, .own 1], [.box false (.val (.named 4) s), .arr .live (.int .u8) x_]))) i b := by kernel_rfl
theorem q19_s0 : InsLp 99 [1, 3, 4] [(3, 1)] [] (stepOf E S19 L19 0 0 Tryz.f19) g19_s0 := by
  intro i s b out_ ho_
  obtain ⟨x_, h1_, h2_⟩ := Option.bind_eq_some_iff.1 ho_
  refine iter_loop (rs := [1, 2, 3]) (step := N.ref7_PutImage_s0 N.fuel s) (hd := fun v_ => h19_s0 s v_.1 v_.2) (sv := fun v_ => t19_s0 s v_.1 v_.2) (ex := x19_s0 s) (fun v_ => ?_) N.fuel (i, b) h1_ h2_
  refine (f19_s0 s v_.1 v_.2).trans ((N.ref7_PutImage_s0_bind N.fuel s _ _ v_.1 v_.2).trans ?_)
  refine congrArg _ (funext fun s_ => ?_)
  rcases s_ with v_ | a <;> rfl
theorem f19_s1 (s : N.TState) (i : Int) (b : List UInt8) : ((stepOf E S19 L19 0 1 Tryz.f19 (h19_s1 s i b) (t19_s1 s i b)).bind (nx E [1, 3, 6] [(3, 1)] [2, 3] 2)).get = N.ref7_PutImage_s1k N.fuel s (fun v_ => some (.inl (h19_s1 s v_.1 v_.2, t19_s1 s v_.1 v_.2))) (fun x_ => some (.inr (.exit 2, ofSlots E 99 [] [2, 3] [.undef, .own 1], [.box false (.val (.named 4) s), .arr .live (.int .u8) x_]))) i b := by kernel_rfl
theorem q19_s1 : InsLp 99 [1, 3, 6] [(3, 1)] [] (stepOf E S19 L19 0 1 Tryz.f19) g19_s1 := by
  intro i s b out_ ho_
  obtain ⟨x_, h1_, h2_⟩ := Option.bind_eq_some_iff.1 ho_
  refine iter_loop (rs := [2, 3]) (step := N.ref7_PutImage_s1 N.fuel s) (hd := fun v_ => h19_s1 s v_.1 v_.2) (sv := fun v_ => t19_s1 s v_.1 v_.2) (ex := x19_s1 s) (fun v_ => ?_) N.fuel (i, b) h1_ h2_
  refine (f19_s1 s v_.1 v_.2).trans ((N.ref7_PutImage_s1_bind N.fuel s _ _ v_.1 v_.2).trans ?_)
  refine congrArg _ (funext fun s_ => ?_)
  rcases s_ with v_ | a <;> rfl
theorem f19_s2 (o0 : N.TState) (b : List UInt8) : ((stepOf E S19 L19 0 2 Tryz.f19 (h19_s2 o0 b) (t19_s2 o0 b)).bind (nx E [3] [] [2, 3] 2)).get = N.ref7_PutImage_s2k o0 (fun v_ => some (.inl (h19_s2 o0 v_, t19_s2 o0 v_))) (fun x_ => some (.inr (.exit 4, ofSlots E 99 [] [2, 3] [.undef, .own 1], [.box false (.val (.named 4) o0), .arr .live (.int .u8) x_]))) b := by kernel_rfl
theorem q19_s2 : InsLp 99 [3] [] [] (stepOf E S19 L19 0 2 Tryz.f19) g19_s2 := by
  intro o0 b out_ ho_
  obtain ⟨x_, h1_, h2_⟩ := Option.bind_eq_some_iff.1 ho_
  refine iter_loop (rs := [2, 3]) (step := N.ref7_PutImage_s2 o0) (hd := fun v_ => h19_s2 o0 v_) (sv := fun v_ => t19_s2 o0 v_) (ex := x19_s2 o0) (fun v_ => ?_) N.fuel b h1_ h2_
  refine (f19_s2 o0 v_).trans ((N.ref7_PutImage_s2_bind o0 _ _ v_).trans ?_)
  refine congrArg _ (funext fun s_ => ?_)
  rcases s_ with v_ | a <;> rfl
theorem f19_s3 (o0 : N.TState) (b : List UInt8) (i : Int) (out : List (List UInt8)) : ((stepOf E S19 L19 0 3 Tryz.f19 (h19_s3 o0 b i out) (t19_s3 o0 b i out)).bind (nx E [3, 8, 9] [] [2, 8] 3)).get = N.ref7_PutImage_s3k o0 b (fun v_ => some (.inl (h19_s3 o0 b v_.1 v_.2, t19_s3 o0 b v_.1 v_.2))) (fun x_ => some (.inr (.exit 6, ofSlots E 99 [] [2, 8] [.undef, .own 2], [.box false (.val (.named 4) o0), .arr .froz (.int .u8) b, .arr .live .str x_]))) i out := by kernel_rfl
theorem q19_s3 : InsLp 99 [3, 8, 9] [] [] (stepOf E S19 L19 0 3 Tryz.f19) g19_s3 := by
  intro i o0 b out out_ ho_
  obtain ⟨x_, h1_, h2_⟩ := Option.bind_eq_some_iff.1 ho_
  refine iter_loop (rs := [2, 8]) (step := N.ref7_PutImage_s3 o0 b) (hd := fun v_ => h19_s3 o0 b v_.1 v_.2) (sv := fun v_ => t19_s3 o0 b v_.1 v_.2) (ex := x19_s3 o0 b) (fun v_ => ?_) N.fuel (i, out) h1_ h2_
  refine (f19_s3 o0 b v_.1 v_.2).trans ((N.ref7_PutImage_s3_bind o0 b _ _ v_.1 v_.2).trans ?_)
  refine congrArg _ (funext fun s_ => ?_)
  rcases s_ with v_ | a <;> rfl
noncomputable def B19 : List (DVal E.T) → St E.T → Tree (Res E.T × St E.T) := dbody E (lookS S19) (lookD []) L19 0 false Tryz.f19
theorem B19_ok : FnOk Tryz.prog E 19 B19 := bodyC_ok sound mix S19_ok (SD := []) trivial (L := L19) (N := 0) (keep := false) Tryz.func19 rfl (by
  intro k g hg fr st out ho
  match k, hg with
  | 0, hg => cases hg; exact lp_ok (allLp_cons q19_s0 (allLp_nil)) fr st out ho
  | 1, hg => cases hg; exact lp_ok (allLp_cons q19_s1 (allLp_nil)) fr st out ho
  | 2, hg => cases hg; exact lp_ok (allLp_cons q19_s2 (allLp_nil)) fr st out ho
  | 3, hg => cases hg; exact lp_ok (allLp_cons q19_s3 (allLp_nil)) fr st out ho
  | _ + 4, hg => cases hg)
theorem F19 (s : N.TState) : (B19 [.val (.named 4) s] []).get = N.ref7_PutImage_k N.fuel (fun x_ => some (.ret [.val (.slice .str) x_], [])) s := by kernel_rfl
noncomputable def i19 : Ins E (Res E.T × St E.T) := ⟨[.v (.named 4)], [], fun s => .opt (N.ref7_PutImage N.fuel s) fun x_ => .ret (.ret [.val (.slice .str) x_], [])⟩
theorem i19_ok : InsOk Tryz.prog 19 i19 := ⟨B19, B19_ok, by intro s out_ h_; exact ((F19 s).trans (N.ref7_PutImage_bind N.fuel _ s)).trans h_⟩
noncomputable def P19 : Nat × D.Spec E := (19, .pure [(.named 4)] (pureF [i19]))
theorem p19 : SpecOk Tryz.prog E P19.1 P19.2 := pureI_ok Tryz.call19 ⟨i19_ok, trivial⟩

/-! tenancy/tenancylaw12.StoreFew -/
noncomputable def S6 : List (Nat × D.Spec E) := [P10, P11, P17, P18, P19, P7, P8, P9]
theorem S6_ok : AllS Tryz.prog E S6 := ⟨p10, p11, p17, p18, p19, p7, p8, p9, trivial⟩
noncomputable def L6 : Nat → LoopInfo E := clL E 62 [] []
noncomputable def B6 : List (DVal E.T) → St E.T → Tree (Res E.T × St E.T) := dbody E (lookS S6) (lookD []) L6 0 false Tryz.f6
theorem B6_ok : FnOk Tryz.prog E 6 B6 := bodyC_ok sound mix S6_ok (SD := []) trivial (L := L6) (N := 0) (keep := false) Tryz.func6 rfl (by
  intro k g hg fr st out ho
  match k, hg with
  | _, hg => cases hg)
theorem F6 (picks : List UInt8) : (B6 [.val (.slice (.int .u8)) picks] []).get = N.law12_StoreFew_k N.fuel (fun x_ => some (.ret [.val .bool x_], [])) picks := by kernel_rfl
noncomputable def i6 : Ins E (Res E.T × St E.T) := ⟨[.v (.slice (.int .u8))], [], fun picks => .opt (N.law12_StoreFew N.fuel picks) fun x_ => .ret (.ret [.val .bool x_], [])⟩
theorem i6_ok : InsOk Tryz.prog 6 i6 := ⟨B6, B6_ok, by intro picks out_ h_; exact ((F6 picks).trans (N.law12_StoreFew_bind N.fuel _ picks)).trans h_⟩
noncomputable def P6 : Nat × D.Spec E := (6, .pure [(.slice (.int .u8))] (pureF [i6]))
theorem p6 : SpecOk Tryz.prog E P6.1 P6.2 := pureI_ok Tryz.call6 ⟨i6_ok, trivial⟩

end Go.Proofs.YtinbnobanikfmaaGreatDoor.S

set_option maxRecDepth 100000
namespace Go.Proofs.YtinbnobanikfmaaGreatDoor.N
open Go
theorem law12_StoreForms_ok : law12_StoreForms fuel = some true := by rw [fuel_eq]; kernel_rfl
end Go.Proofs.YtinbnobanikfmaaGreatDoor.N

set_option linter.unusedVariables false
set_option maxRecDepth 100000
namespace Go.Proofs.YtinbnobanikfmaaGreatDoor
open Go Go.ChangeShapes Go.WideShapes Go.ChangeAt Go.RowKit
namespace Q4
open Go.Proofs.YtinbnobanikfmaaGreatDoor.D Go.Proofs.YtinbnobanikfmaaGreatDoor.S

theorem law (xs : List (DVal E.T)) (h : ArgsOk E 1048576 [] xs) : (B4 xs []).get = some (.ret [.val .bool true], []) := by
  match xs, h with
  | [], .nil => exact (F4).trans ((N.law12_StoreForms_bind N.fuel _).trans (by rw [N.law12_StoreForms_ok]; rfl))

theorem contract (H : Type) (enc : TypeId × Value → H) (W : World) (base : Nat) (args : Array Value) (ds gs : List (DataW H)) (before : List MemPlace)
    (hval : ∀ (j : Nat) t v, Tryz.f4.params[j]? = some t → args[j]? = some v → Value.okWide Tryz.prog W .any base t v)
    (hW : DataW.Whole enc Tryz.prog Tryz.f4.params.toList Rows.storeFormsSpec.vars false W args.toList ds gs before) (hk : ∀ d ∈ ds, Rows.uptoBulk d ≤ 1048576) :
    Calls Tryz.prog 4 args W fun e W' => ∃ v, e = .returned v ∧ Rows.storeFormsSpec.post enc Tryz.prog Tryz.f4 false true false false W args v W' :=
  law_contract sound tl laid full meas bl (fn := Tryz.f4) (tb := 4) rfl Tryz.underlying4 (ps := []) rfl
    (by
      have h : (Tryz.f4.params.toList.all fun t => Tryz.prog.readableRec t && decide (t < Tryz.prog.types.size)) = true := by kernel_rfl
      intro t ht
      have := List.all_eq_true.1 h t ht
      simpa using this) rfl
    (fun ds hd => by
      match ds, hd with
      | [], _ => rfl)
    B4_ok law W base args ds gs before hval hW hk

noncomputable def laidWorld (os : Os) : World := layAt 1 ((Go.Pinned.utf8FirstZ.map fun (n : Nat) => Value.int .u8 (Int.ofNat n))) (layAt 2 ([.int .u8 128, .int .u8 191, .int .u8 160, .int .u8 191, .int .u8 128, .int .u8 159, .int .u8 144, .int .u8 191, .int .u8 128, .int .u8 143, .int .u8 0, .int .u8 0, .int .u8 0, .int .u8 0, .int .u8 0, .int .u8 0, .int .u8 0, .int .u8 0, .int .u8 0, .int .u8 0, .int .u8 0, .int .u8 0, .int .u8 0, .int .u8 0, .int .u8 0, .int .u8 0, .int .u8 0, .int .u8 0, .int .u8 0, .int .u8 0, .int .u8 0, .int .u8 0]) (World.holding Tryz.prog os ⟨#[], #[], []⟩))
theorem laid_met (os : Os) : laidMet Tryz.prog Rows.storeFormsUptoRow.laid ((laidWorld os).forCall (fun _ _ => 0) ⟨#[], #[], []⟩).memory := laidMet_of_run' 8 (by kernel_rfl) (by kernel_rfl)
theorem reads (os : Os) {H : Type} (enc : TypeId × Value → H) : ∃ places, DataW.whole enc Tryz.prog ((laidWorld os).forCall (fun _ _ => 0) ⟨#[], #[], []⟩).memory Tryz.f4.params.toList Rows.storeFormsSpec.vars false (#[] : Array Value).toList 8 = some ([], [], places) := ⟨[], by kernel_rfl⟩

theorem lifted (os : Os) (started : os.Started) (H : Type) (enc : TypeId × Value → H) (F : Stop.Interp) :
    ReturnsInHanded {} Tryz.checked os 4 .any ((Rows.OpenSpec.upto Rows.storeFormsSpec).preRow enc Tryz.prog Tryz.f4 Rows.storeFormsUptoRow.domain false Rows.storeFormsUptoRow.laid) (((Rows.OpenSpec.upto Rows.storeFormsSpec).at F).post enc Tryz.prog Tryz.f4 false true false false) := by
  obtain ⟨places, hx⟩ := reads os enc
  refine returnsInHanded_of_row (C := Tryz.checked) (s := Rows.OpenSpec.upto Rows.storeFormsSpec) own started (by kernel_rfl) Tryz.func4
    (witness_row_at (enc := enc) (C := Tryz.checked) false (laidWorld os) #[] rfl (by kernel_rfl) (by kernel_rfl) (by kernel_rfl)
      (OpenSpec.preRow_of_cond 8 hx (by kernel_rfl) (fun k hk => by cases hk; kernel_rfl) (by kernel_rfl) (laid_met os))) ?_
  intro W base args ds gs before hval hW _ hcond _ _ _ _
  have hgs : gs = [] := by
    obtain ⟨p, q, hA, hV, _⟩ := hW
    cases gs with
    | nil => rfl
    | cons g gs => exact hV.elim
  subst hgs
  have hk := hcond _ rfl
  exact contract H enc W base args ds [] before hval hW (small hk)

theorem over : Rows.storeFormsUptoRow.holds Tryz.pinned (Rows.OpenSpec.upto Rows.storeFormsSpec) :=
  OpenClaim.holds_of_cond 4 Tryz.f4 rfl rfl rfl rfl rfl rfl rfl ⟨rfl, rfl, rfl, rfl, rfl⟩ rfl rfl rfl rfl rfl (by kernel_rfl) Tryz.func4 (by kernel_rfl)
    (of_decide_eq_true (by kernel_rfl)) (by unfold Func.isWrapper; first | (rw [if_pos (by decide +kernel)]; kernel_rfl) | (rw [if_neg (by decide +kernel)]; exact ⟨rfl, rfl⟩))
    (fun os started H enc _ F => by rw [OpenClaim.pre_eq_preRow]; exact lifted os started H enc F)
theorem plain (f : FuncId) (fn : Func) (hf : Tryz.pinned.checked.prog.funcNamed "tenancy/tenancylaw12.StoreForms" = some f) (hfn : Tryz.pinned.checked.prog.funcs[f]? = some fn) :
    true = Tryz.pinned.checked.prog.looks [] ∧ ∀ (j : Nat) t, fn.params[j]? = some t → Tryz.pinned.checked.prog.wantsStandIn t = false := by
  obtain rfl : f = 4 := Option.some.inj ((show Tryz.prog.funcNamed "tenancy/tenancylaw12.StoreForms" = some 4 by kernel_rfl).symm.trans hf) |>.symm
  obtain rfl : fn = Tryz.f4 := (Option.some.inj (Tryz.func4.symm.trans hfn)).symm
  refine ⟨by kernel_rfl, fun j t ht => ?_⟩
  have h : (Tryz.f4.params.toList.all fun t => !(Tryz.prog.wantsStandIn t)) = true := by kernel_rfl
  have := List.all_eq_true.1 h t (Array.mem_toList_iff.2 (Array.mem_of_getElem? ht))
  show Tryz.prog.wantsStandIn t = false
  simpa using this
theorem card : Rows.StoreFormsUptoCardSaid :=
  Claim7.holds_tied_plain_at .later [] _ _ _ _ over (fun _ h => by cases h) (by kernel_rfl) (fun _ h => by cases h) storeFormsUpto_row_tie rfl ⟨rfl, rfl⟩ (by kernel_rfl) rfl plain (by kernel_rfl)
end Q4
theorem storeForms_holds : Rows.StoreFormsUptoCardSaid := Q4.card
end Go.Proofs.YtinbnobanikfmaaGreatDoor

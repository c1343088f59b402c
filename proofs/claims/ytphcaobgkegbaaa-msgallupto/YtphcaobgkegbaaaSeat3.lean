/- The seat's functions, and the nice ones. -/
import Derived.Test.YtphcaobgkegbaaaSeat1
import Derived.Test.YtphcaobgkegbaaaSeat2
set_option linter.unusedVariables false
set_option maxRecDepth 100000
namespace Go.Proofs.Ytphcaobgkegbaaa.M
open Go Go.Proofs.Ytphcaobgkegbaaa.D

/-! tenancy/msg.from -/
noncomputable def S30 : List (Nat × D.Spec E) := []
theorem S30_ok : AllS Try.prog E S30 := trivial
noncomputable def L30 : Nat → LoopInfo E := clL E 15 [] []
noncomputable def B30 : List (DVal E.T) → St E.T → Tree (Res E.T × St E.T) := dbody E (lookS S30) (lookD []) L30 0 false Try.f30
theorem B30_ok : FnOk Try.prog E 30 B30 := bodyC_ok sound mix S30_ok (SD := []) trivial (L := L30) (N := 0) (keep := false) Try.func30 rfl (by
  intro k g hg fr st out ho
  match k, hg with
  | _, hg => cases hg)
theorem F30 (lo : Int) (hi : Int) (v : Int) : (B30 [.val (.int .i64) lo, .val (.int .i64) hi, .val (.int .i64) v] []).get = N.msg_from_k (fun x_ => some (.ret [.val .bool x_], [])) lo hi v := by kernel_rfl
noncomputable def i30 : Ins E (Res E.T × St E.T) := ⟨[.v (.int .i64), .v (.int .i64), .v (.int .i64)], [], fun lo hi v => .ret (.ret [.val .bool (N.msg_from lo hi v)], [])⟩
theorem i30_ok : InsOk Try.prog 30 i30 := ⟨B30, B30_ok, by intro lo hi v out_ h_; exact ((F30 lo hi v).trans (N.msg_from_bind _ lo hi v)).trans h_⟩
noncomputable def P30 : Nat × D.Spec E := (30, .pure [(.int .i64), (.int .i64), (.int .i64)] (pureF [i30]))
theorem p30 : SpecOk Try.prog E P30.1 P30.2 := pureI_ok Try.call30 ⟨i30_ok, trivial⟩

/-! tenancy/dir.May -/
noncomputable def S49 : List (Nat × D.Spec E) := []
theorem S49_ok : AllS Try.prog E S49 := trivial
abbrev h49_s0 (name : List UInt8) (t7 : Int) (r0 : List UInt8) (t8 : Int) : Fr E.T := ofSlots E 27 [] [0, 6, 7, 8] [.val .str name, .own 0, .val (.int .i64) t7, .val (.int .i64) t8]
abbrev t49_s0 (name : List UInt8) (t7 : Int) (r0 : List UInt8) (t8 : Int) : St E.T := [.arr .live (.int .u8) r0]
def x49_s0 (name : List UInt8) (t7 : Int) (r0 : List UInt8) (x_ : Unit ⊕ Unit) : Tree (CodeOut E) := altT x_ (fun u0_ => .ret (.ret, ofSlots E 27 [] [0, 2] [.val .str name, .val .bool false], [.arr .live (.int .u8) r0])) (fun w0_ => .ret (.exit 0, ofSlots E 27 [] [0, 2] [.val .str name, .undef], [.arr .live (.int .u8) r0]))
noncomputable def g49_s0 : Ins E (CodeOut E) := ⟨[.v .str, .own 0, .v (.int .i64), .v (.int .i64)], [.arr .live (.int .u8)], fun name t7 t8 r0 => .opt (N.dir_May_l0 N.fuel name t7 r0 t8) (x49_s0 name t7 r0)⟩
noncomputable def L49 : Nat → LoopInfo E := clL E 27 [{ ks := [0, 6, 7, 8], mvs := [], pro := [], d := [], g := some (insF [g49_s0]) }] []
theorem f49_s0 (name : List UInt8) (t7 : Int) (r0 : List UInt8) (t8 : Int) : ((stepOf E S49 L49 0 0 Try.f49 (h49_s0 name t7 r0 t8) (t49_s0 name t7 r0 t8)).bind (nx E [0, 6, 7, 8] [] [0, 2] 1)).get = N.dir_May_s0k name t7 r0 (fun v_ => some (.inl (h49_s0 name t7 r0 v_, t49_s0 name t7 r0 v_))) (fun x_ => some (.inr (.ret, ofSlots E 27 [] [0, 2] [.val .str name, .val .bool false], [.arr .live (.int .u8) r0]))) (fun x_ => some (.inr (.exit 0, ofSlots E 27 [] [0, 2] [.val .str name, .undef], [.arr .live (.int .u8) r0]))) t8 := by kernel_rfl
theorem q49_s0 : InsLp 27 [0, 6, 7, 8] [] [] (stepOf E S49 L49 0 0 Try.f49) g49_s0 := by
  intro name t7 t8 r0 out_ ho_
  obtain ⟨x_, h1_, h2_⟩ := Option.bind_eq_some_iff.1 ho_
  refine iter_loop (rs := [0, 2]) (step := N.dir_May_s0 name t7 r0) (hd := fun v_ => h49_s0 name t7 r0 v_) (sv := fun v_ => t49_s0 name t7 r0 v_) (ex := x49_s0 name t7 r0) (fun v_ => ?_) N.fuel t8 h1_ h2_
  refine (f49_s0 name t7 r0 v_).trans ((N.dir_May_s0_bind name t7 r0 _ _ _ v_).trans ?_)
  refine congrArg _ (funext fun s_ => ?_)
  rcases s_ with v_ | a | a <;> rfl
noncomputable def B49 : List (DVal E.T) → St E.T → Tree (Res E.T × St E.T) := dbody E (lookS S49) (lookD []) L49 0 false Try.f49
theorem B49_ok : FnOk Try.prog E 49 B49 := bodyC_ok sound mix S49_ok (SD := []) trivial (L := L49) (N := 0) (keep := false) Try.func49 rfl (by
  intro k g hg fr st out ho
  match k, hg with
  | 0, hg => cases hg; exact lp_ok (allLp_cons q49_s0 (allLp_nil)) fr st out ho
  | _ + 1, hg => cases hg)
theorem F49 (name : List UInt8) : (B49 [.val .str name] []).get = N.dir_May_k N.fuel (fun x_ => some (.ret [.val .bool x_], [])) name := by kernel_rfl
noncomputable def i49 : Ins E (Res E.T × St E.T) := ⟨[.v .str], [], fun name => .opt (N.dir_May N.fuel name) fun x_ => .ret (.ret [.val .bool x_], [])⟩
theorem i49_ok : InsOk Try.prog 49 i49 := ⟨B49, B49_ok, by intro name out_ h_; exact ((F49 name).trans (N.dir_May_bind N.fuel _ name)).trans h_⟩
noncomputable def P49 : Nat × D.Spec E := (49, .pure [.str] (pureF [i49]))
theorem p49 : SpecOk Try.prog E P49.1 P49.2 := pureI_ok Try.call49 ⟨i49_ok, trivial⟩

/-! tenancy/file.May -/
noncomputable def S52 : List (Nat × D.Spec E) := []
theorem S52_ok : AllS Try.prog E S52 := trivial
noncomputable def L52 : Nat → LoopInfo E := clL E 27 [] []
noncomputable def B52 : List (DVal E.T) → St E.T → Tree (Res E.T × St E.T) := dbody E (lookS S52) (lookD []) L52 0 false Try.f52
theorem B52_ok : FnOk Try.prog E 52 B52 := bodyC_ok sound mix S52_ok (SD := []) trivial (L := L52) (N := 0) (keep := false) Try.func52 rfl (by
  intro k g hg fr st out ho
  match k, hg with
  | _, hg => cases hg)
theorem F52 (w : N.TWrite) : (B52 [.val (.named 0) w] []).get = N.file_May_k (fun x_ => some (.ret [.val .bool x_], [])) w := by kernel_rfl
noncomputable def i52 : Ins E (Res E.T × St E.T) := ⟨[.v (.named 0)], [], fun w => .ret (.ret [.val .bool (N.file_May w)], [])⟩
theorem i52_ok : InsOk Try.prog 52 i52 := ⟨B52, B52_ok, by intro w out_ h_; exact ((F52 w).trans (N.file_May_bind _ w)).trans h_⟩
noncomputable def P52 : Nat × D.Spec E := (52, .pure [(.named 0)] (pureF [i52]))
theorem p52 : SpecOk Try.prog E P52.1 P52.2 := pureI_ok Try.call52 ⟨i52_ok, trivial⟩

/-! tenancy/msg.wants$1 -/
noncomputable def S51 : List (Nat × D.Spec E) := [P52]
theorem S51_ok : AllS Try.prog E S51 := ⟨p52, trivial⟩
noncomputable def L51 : Nat → LoopInfo E := clL E 6 [] []
noncomputable def B51 : List (DVal E.T) → St E.T → Tree (Res E.T × St E.T) := dbody E (lookS S51) (lookD []) L51 0 false Try.f51
theorem B51_ok : FnOk Try.prog E 51 B51 := bodyC_ok sound mix S51_ok (SD := []) trivial (L := L51) (N := 0) (keep := false) Try.func51 rfl (by
  intro k g hg fr st out ho
  match k, hg with
  | _, hg => cases hg)
theorem F51 (w : N.TWrite) : (B51 [.val (.named 0) w] []).get = N.msg_wants_c1_k (fun x_ => some (.ret [.val .bool x_], [])) w := by kernel_rfl
noncomputable def i51 : Ins E (Res E.T × St E.T) := ⟨[.v (.named 0)], [], fun w => .ret (.ret [.val .bool (N.msg_wants_c1 w)], [])⟩
theorem i51_ok : InsOk Try.prog 51 i51 := ⟨B51, B51_ok, by intro w out_ h_; exact ((F51 w).trans (N.msg_wants_c1_bind _ w)).trans h_⟩
noncomputable def P51 : Nat × D.Spec E := (51, .pure [(.named 0)] (pureF [i51]))
theorem p51 : SpecOk Try.prog E P51.1 P51.2 := pureI_ok Try.call51 ⟨i51_ok, trivial⟩

/-! slices.IndexFunc[[]tenancy/api.Write,tenancy/api.Write] -/
noncomputable def S63 : List (Nat × D.Spec E) := [P51]
theorem S63_ok : AllS Try.prog E S63 := ⟨p51, trivial⟩
abbrev h63_s0 (s : List N.TWrite) (t7 : Int) (t8 : Int) : Fr E.T := ofSlots E 19 [] [0, 1, 7, 8] [.val (.slice (.named 0)) s, .fn 51 [], .val (.int .i64) t7, .val (.int .i64) t8]
abbrev t63_s0 (s : List N.TWrite) (t7 : Int) (t8 : Int) : St E.T := []
def x63_s0 (s : List N.TWrite) (t7 : Int) (x_ : Int ⊕ Unit) : Tree (CodeOut E) := altT x_ (fun u0_ => .ret (.ret, ofSlots E 19 [] [4] [.val (.int .i64) u0_], [])) (fun w0_ => .ret (.exit 0, ofSlots E 19 [] [4] [.undef], []))
noncomputable def g63_s0 : Ins E (CodeOut E) := ⟨[.v (.slice (.named 0)), .fn 51 [], .v (.int .i64), .v (.int .i64)], [], fun s t7 t8 => .opt (N.slices_IndexFunc_Write_l0 N.fuel s t7 t8) (x63_s0 s t7)⟩
noncomputable def L63 : Nat → LoopInfo E := clL E 19 [{ ks := [0, 1, 7, 8], mvs := [], pro := [], d := [], g := some (insF [g63_s0]) }] []
theorem f63_s0 (s : List N.TWrite) (t7 : Int) (t8 : Int) : ((stepOf E S63 L63 0 0 Try.f63 (h63_s0 s t7 t8) (t63_s0 s t7 t8)).bind (nx E [0, 1, 7, 8] [] [4] 0)).get = N.slices_IndexFunc_Write_s0k s t7 (fun v_ => some (.inl (h63_s0 s t7 v_, t63_s0 s t7 v_))) (fun x_ => some (.inr (.ret, ofSlots E 19 [] [4] [.val (.int .i64) x_], []))) (fun x_ => some (.inr (.exit 0, ofSlots E 19 [] [4] [.undef], []))) t8 := by kernel_rfl
theorem q63_s0 : InsLp 19 [0, 1, 7, 8] [] [] (stepOf E S63 L63 0 0 Try.f63) g63_s0 := by
  intro s t7 t8 out_ ho_
  obtain ⟨x_, h1_, h2_⟩ := Option.bind_eq_some_iff.1 ho_
  refine iter_loop (rs := [4]) (step := N.slices_IndexFunc_Write_s0 s t7) (hd := fun v_ => h63_s0 s t7 v_) (sv := fun v_ => t63_s0 s t7 v_) (ex := x63_s0 s t7) (fun v_ => ?_) N.fuel t8 h1_ h2_
  refine (f63_s0 s t7 v_).trans ((N.slices_IndexFunc_Write_s0_bind s t7 _ _ _ v_).trans ?_)
  refine congrArg _ (funext fun s_ => ?_)
  rcases s_ with v_ | a | a <;> rfl
noncomputable def B63 : List (DVal E.T) → St E.T → Tree (Res E.T × St E.T) := dbody E (lookS S63) (lookD []) L63 0 false Try.f63
theorem B63_ok : FnOk Try.prog E 63 B63 := bodyC_ok sound mix S63_ok (SD := []) trivial (L := L63) (N := 0) (keep := false) Try.func63 rfl (by
  intro k g hg fr st out ho
  match k, hg with
  | 0, hg => cases hg; exact lp_ok (allLp_cons q63_s0 (allLp_nil)) fr st out ho
  | _ + 1, hg => cases hg)
theorem F63 (s : List N.TWrite) : (B63 [.val (.slice (.named 0)) s, .fn 51 []] []).get = N.slices_IndexFunc_Write_k N.fuel (fun x_ => some (.ret [.val (.int .i64) x_], [])) s := by kernel_rfl
noncomputable def i63 : Ins E (Res E.T × St E.T) := ⟨[.v (.slice (.named 0)), .fn 51 []], [], fun s => .opt (N.slices_IndexFunc_Write N.fuel s) fun x_ => .ret (.ret [.val (.int .i64) x_], [])⟩
theorem i63_ok : InsOk Try.prog 63 i63 := ⟨B63, B63_ok, by intro s out_ h_; exact ((F63 s).trans (N.slices_IndexFunc_Write_bind N.fuel _ s)).trans h_⟩
noncomputable def P63 : Nat × D.Spec E := (63, .full [.data (.slice (.named 0)), .func] true (fullF [i63]))
theorem p63 : SpecOk Try.prog E P63.1 P63.2 := fullI_ok ok Try.call63 ⟨i63_ok, trivial⟩

/-! slices.ContainsFunc[[]tenancy/api.Write,tenancy/api.Write] -/
noncomputable def S50 : List (Nat × D.Spec E) := [P63]
theorem S50_ok : AllS Try.prog E S50 := ⟨p63, trivial⟩
noncomputable def L50 : Nat → LoopInfo E := clL E 9 [] []
noncomputable def B50 : List (DVal E.T) → St E.T → Tree (Res E.T × St E.T) := dbody E (lookS S50) (lookD []) L50 0 false Try.f50
theorem B50_ok : FnOk Try.prog E 50 B50 := bodyC_ok sound mix S50_ok (SD := []) trivial (L := L50) (N := 0) (keep := false) Try.func50 rfl (by
  intro k g hg fr st out ho
  match k, hg with
  | _, hg => cases hg)
theorem F50 (s : List N.TWrite) : (B50 [.val (.slice (.named 0)) s, .fn 51 []] []).get = N.slices_ContainsFunc_Write_k N.fuel (fun x_ => some (.ret [.val .bool x_], [])) s := by kernel_rfl
noncomputable def i50 : Ins E (Res E.T × St E.T) := ⟨[.v (.slice (.named 0)), .fn 51 []], [], fun s => .opt (N.slices_ContainsFunc_Write N.fuel s) fun x_ => .ret (.ret [.val .bool x_], [])⟩
theorem i50_ok : InsOk Try.prog 50 i50 := ⟨B50, B50_ok, by intro s out_ h_; exact ((F50 s).trans (N.slices_ContainsFunc_Write_bind N.fuel _ s)).trans h_⟩
noncomputable def P50 : Nat × D.Spec E := (50, .full [.data (.slice (.named 0)), .func] true (fullF [i50]))
theorem p50 : SpecOk Try.prog E P50.1 P50.2 := fullI_ok ok Try.call50 ⟨i50_ok, trivial⟩

/-! tenancy/msg.wants -/
noncomputable def S31 : List (Nat × D.Spec E) := [P30, P49, P50]
theorem S31_ok : AllS Try.prog E S31 := ⟨p30, p49, p50, trivial⟩
noncomputable def L31 : Nat → LoopInfo E := clL E 78 [] []
noncomputable def B31 : List (DVal E.T) → St E.T → Tree (Res E.T × St E.T) := dbody E (lookS S31) (lookD []) L31 0 false Try.f31
theorem B31_ok : FnOk Try.prog E 31 B31 := bodyC_ok sound mix S31_ok (SD := []) trivial (L := L31) (N := 0) (keep := false) Try.func31 rfl (by
  intro k g hg fr st out ho
  match k, hg with
  | _, hg => cases hg)
theorem F31 (a : N.TAsk) : (B31 [.val (.named 1) a] []).get = N.msg_wants_k N.fuel (fun x_ => some (.ret [.val (.named 1) x_.1, .val .bool x_.2], [])) a := by kernel_rfl
noncomputable def i31 : Ins E (Res E.T × St E.T) := ⟨[.v (.named 1)], [], fun a => .opt (N.msg_wants N.fuel a) fun x_ => .ret (.ret [.val (.named 1) x_.1, .val .bool x_.2], [])⟩
theorem i31_ok : InsOk Try.prog 31 i31 := ⟨B31, B31_ok, by intro a out_ h_; exact ((F31 a).trans (N.msg_wants_bind N.fuel _ a)).trans h_⟩
noncomputable def P31 : Nat × D.Spec E := (31, .pure [(.named 1)] (pureF [i31]))
theorem p31 : SpecOk Try.prog E P31.1 P31.2 := pureI_ok Try.call31 ⟨i31_ok, trivial⟩

/-! slices.Equal[[]tenancy/api.Write,tenancy/api.Write] -/
noncomputable def S41 : List (Nat × D.Spec E) := []
theorem S41_ok : AllS Try.prog E S41 := trivial
abbrev h41_s0 (s1 : List N.TWrite) (s2 : List N.TWrite) (t12 : Int) (t13 : Int) : Fr E.T := ofSlots E 26 [] [0, 1, 12, 13] [.val (.slice (.named 0)) s1, .val (.slice (.named 0)) s2, .val (.int .i64) t12, .val (.int .i64) t13]
abbrev t41_s0 (s1 : List N.TWrite) (s2 : List N.TWrite) (t12 : Int) (t13 : Int) : St E.T := []
def x41_s0 (s1 : List N.TWrite) (s2 : List N.TWrite) (t12 : Int) (x_ : Unit ⊕ Unit) : Tree (CodeOut E) := altT x_ (fun u0_ => .ret (.ret, ofSlots E 26 [] [4] [.val .bool false], [])) (fun w0_ => .ret (.exit 0, ofSlots E 26 [] [4] [.undef], []))
noncomputable def g41_s0 : Ins E (CodeOut E) := ⟨[.v (.slice (.named 0)), .v (.slice (.named 0)), .v (.int .i64), .v (.int .i64)], [], fun s1 s2 t12 t13 => .opt (N.slices_Equal_Write_l0 N.fuel s1 s2 t12 t13) (x41_s0 s1 s2 t12)⟩
noncomputable def L41 : Nat → LoopInfo E := clL E 26 [{ ks := [0, 1, 12, 13], mvs := [], pro := [], d := [], g := some (insF [g41_s0]) }] []
theorem f41_s0 (s1 : List N.TWrite) (s2 : List N.TWrite) (t12 : Int) (t13 : Int) : ((stepOf E S41 L41 0 0 Try.f41 (h41_s0 s1 s2 t12 t13) (t41_s0 s1 s2 t12 t13)).bind (nx E [0, 1, 12, 13] [] [4] 0)).get = N.slices_Equal_Write_s0k s1 s2 t12 (fun v_ => some (.inl (h41_s0 s1 s2 t12 v_, t41_s0 s1 s2 t12 v_))) (fun x_ => some (.inr (.ret, ofSlots E 26 [] [4] [.val .bool false], []))) (fun x_ => some (.inr (.exit 0, ofSlots E 26 [] [4] [.undef], []))) t13 := by kernel_rfl
theorem q41_s0 : InsLp 26 [0, 1, 12, 13] [] [] (stepOf E S41 L41 0 0 Try.f41) g41_s0 := by
  intro s1 s2 t12 t13 out_ ho_
  obtain ⟨x_, h1_, h2_⟩ := Option.bind_eq_some_iff.1 ho_
  refine iter_loop (rs := [4]) (step := N.slices_Equal_Write_s0 s1 s2 t12) (hd := fun v_ => h41_s0 s1 s2 t12 v_) (sv := fun v_ => t41_s0 s1 s2 t12 v_) (ex := x41_s0 s1 s2 t12) (fun v_ => ?_) N.fuel t13 h1_ h2_
  refine (f41_s0 s1 s2 t12 v_).trans ((N.slices_Equal_Write_s0_bind s1 s2 t12 _ _ _ v_).trans ?_)
  refine congrArg _ (funext fun s_ => ?_)
  rcases s_ with v_ | a | a <;> rfl
noncomputable def B41 : List (DVal E.T) → St E.T → Tree (Res E.T × St E.T) := dbody E (lookS S41) (lookD []) L41 0 false Try.f41
theorem B41_ok : FnOk Try.prog E 41 B41 := bodyC_ok sound mix S41_ok (SD := []) trivial (L := L41) (N := 0) (keep := false) Try.func41 rfl (by
  intro k g hg fr st out ho
  match k, hg with
  | 0, hg => cases hg; exact lp_ok (allLp_cons q41_s0 (allLp_nil)) fr st out ho
  | _ + 1, hg => cases hg)
theorem F41 (s1 : List N.TWrite) (s2 : List N.TWrite) : (B41 [.val (.slice (.named 0)) s1, .val (.slice (.named 0)) s2] []).get = N.slices_Equal_Write_k N.fuel (fun x_ => some (.ret [.val .bool x_], [])) s1 s2 := by kernel_rfl
noncomputable def i41 : Ins E (Res E.T × St E.T) := ⟨[.v (.slice (.named 0)), .v (.slice (.named 0))], [], fun s1 s2 => .opt (N.slices_Equal_Write N.fuel s1 s2) fun x_ => .ret (.ret [.val .bool x_], [])⟩
theorem i41_ok : InsOk Try.prog 41 i41 := ⟨B41, B41_ok, by intro s1 s2 out_ h_; exact ((F41 s1 s2).trans (N.slices_Equal_Write_bind N.fuel _ s1 s2)).trans h_⟩
noncomputable def P41 : Nat × D.Spec E := (41, .pure [(.slice (.named 0)), (.slice (.named 0))] (pureF [i41]))
theorem p41 : SpecOk Try.prog E P41.1 P41.2 := pureI_ok Try.call41 ⟨i41_ok, trivial⟩

/-! tenancy/msg.SameAsk -/
noncomputable def S17 : List (Nat × D.Spec E) := [P41]
theorem S17_ok : AllS Try.prog E S17 := ⟨p41, trivial⟩
noncomputable def L17 : Nat → LoopInfo E := clL E 59 [] []
noncomputable def B17 : List (DVal E.T) → St E.T → Tree (Res E.T × St E.T) := dbody E (lookS S17) (lookD []) L17 0 false Try.f17
theorem B17_ok : FnOk Try.prog E 17 B17 := bodyC_ok sound mix S17_ok (SD := []) trivial (L := L17) (N := 0) (keep := false) Try.func17 rfl (by
  intro k g hg fr st out ho
  match k, hg with
  | _, hg => cases hg)
theorem F17 (a : N.TAsk) (b : N.TAsk) : (B17 [.val (.named 1) a, .val (.named 1) b] []).get = N.msg_SameAsk_k N.fuel (fun x_ => some (.ret [.val .bool x_], [])) a b := by kernel_rfl
noncomputable def i17 : Ins E (Res E.T × St E.T) := ⟨[.v (.named 1), .v (.named 1)], [], fun a b => .opt (N.msg_SameAsk N.fuel a b) fun x_ => .ret (.ret [.val .bool x_], [])⟩
theorem i17_ok : InsOk Try.prog 17 i17 := ⟨B17, B17_ok, by intro a b out_ h_; exact ((F17 a b).trans (N.msg_SameAsk_bind N.fuel _ a b)).trans h_⟩
noncomputable def P17 : Nat × D.Spec E := (17, .pure [(.named 1), (.named 1)] (pureF [i17]))
theorem p17 : SpecOk Try.prog E P17.1 P17.2 := pureI_ok Try.call17 ⟨i17_ok, trivial⟩

/-! tenancy/msg.MayAsk -/
noncomputable def S13 : List (Nat × D.Spec E) := [P17, P30, P31]
theorem S13_ok : AllS Try.prog E S13 := ⟨p17, p30, p31, trivial⟩
noncomputable def L13 : Nat → LoopInfo E := clL E 38 [] []
noncomputable def B13 : List (DVal E.T) → St E.T → Tree (Res E.T × St E.T) := dbody E (lookS S13) (lookD []) L13 0 false Try.f13
theorem B13_ok : FnOk Try.prog E 13 B13 := bodyC_ok sound mix S13_ok (SD := []) trivial (L := L13) (N := 0) (keep := false) Try.func13 rfl (by
  intro k g hg fr st out ho
  match k, hg with
  | _, hg => cases hg)
theorem F13 (a : N.TAsk) : (B13 [.val (.named 1) a] []).get = N.msg_MayAsk_k N.fuel (fun x_ => some (.ret [.val .bool x_], [])) a := by kernel_rfl
noncomputable def i13 : Ins E (Res E.T × St E.T) := ⟨[.v (.named 1)], [], fun a => .opt (N.msg_MayAsk N.fuel a) fun x_ => .ret (.ret [.val .bool x_], [])⟩
theorem i13_ok : InsOk Try.prog 13 i13 := ⟨B13, B13_ok, by intro a out_ h_; exact ((F13 a).trans (N.msg_MayAsk_bind N.fuel _ a)).trans h_⟩
noncomputable def P13 : Nat × D.Spec E := (13, .pure [(.named 1)] (pureF [i13]))
theorem p13 : SpecOk Try.prog E P13.1 P13.2 := pureI_ok Try.call13 ⟨i13_ok, trivial⟩

/-! slices.Clone[[]byte,byte] -/
def B53 : List (DVal E.T) → St E.T → Tree (Res E.T × St E.T) := cloneF E (.int .u8)
noncomputable def P53 : Nat × D.Spec E := (53, .full [.data (.slice (.int .u8))] false B53)
theorem cf53 : ∃ R0 C R id o1 o2, Try.f53.body = some (.seq R0 (.seq (.seq (.region id #[o1, o2] false) C) R)) ∧ (o1.op = .move (.tmp 0) ∧ o1.dst = some 3 ∧ o1.guard = none) ∧ (o2.op = .binOp .eql 28 (.tmp 3) (.const (.slice none 0 0)) 28 ∧ o2.dst = some 4 ∧ o2.guard = none) ∧
    CloneFacts E Try.f53 (.int .u8) R0 C R (fun xs => put E (frame E Try.f53 [.val (.slice (.int .u8)) xs]) (some 2) .nils) (fun xs => put E (put E (put E (put E (frame E Try.f53 [.val (.slice (.int .u8)) xs]) (some 2) .nils) (some 3) (.val (.slice (.int .u8)) xs)) (some 4) (.val .bool true)) (some 2) .nils) (fun xs n => put E (put E (put E (put E (put E (put E (put E (frame E Try.f53 [.val (.slice (.int .u8)) xs]) (some 2) .nils) (some 3) (.val (.slice (.int .u8)) xs)) (some 4) (.val .bool false)) (some 5) .nils) (some 6) (.val (.slice (.int .u8)) xs)) (some 7) (.own n)) (some 2) (.own n)) :=
  ⟨_, _, _, _, _, _, rfl, ⟨rfl, rfl, rfl⟩, ⟨rfl, rfl, rfl⟩, by
    constructor
    all_goals intros
    all_goals kernel_rfl⟩
theorem p53 : SpecOk Try.prog E P53.1 P53.2 := by
  obtain ⟨R0, C, R, id, o1, o2, hb, h1, h2, hF⟩ := cf53
  exact ⟨Try.call53, clone_fn sound mix Try.func53 hb h1 h2 ⟨_, Try.underlying28⟩ hF⟩

/-! tenancy/bits.Put -/
noncomputable def S35 : List (Nat × D.Spec E) := [P53]
theorem S35_ok : AllS Try.prog E S35 := ⟨p53, trivial⟩
abbrev h35_s0 (v : Int) (n : Int) (b : List UInt8) : Fr E.T := ofSlots E 31 [] [0, 1, 2] [.own 0, .val (.int .i64) v, .val (.int .i64) n]
abbrev t35_s0 (v : Int) (n : Int) (b : List UInt8) : St E.T := [.arr .live (.int .u8) b]
def x35_s0 (v : Int) (x_ : List UInt8) : Tree (CodeOut E) := .ret (.exit 0, ofSlots E 31 [] [0, 6] [.own 0, .undef], [.arr .live (.int .u8) x_])
noncomputable def g35_s0 : Ins E (CodeOut E) := ⟨[.own 0, .v (.int .i64), .v (.int .i64)], [.arr .live (.int .u8)], fun v n b => .opt (N.bits_Put_l0 N.fuel v n b) (x35_s0 v)⟩
noncomputable def L35 : Nat → LoopInfo E := clL E 31 [{ ks := [0, 1, 2], mvs := [], pro := [], d := [], g := some (insF [g35_s0]) }] []
theorem f35_s0 (v : Int) (n : Int) (b : List UInt8) : ((stepOf E S35 L35 0 0 Try.f35 (h35_s0 v n b) (t35_s0 v n b)).bind (nx E [0, 1, 2] [] [0, 6] 1)).get = N.bits_Put_s0k v (fun v_ => some (.inl (h35_s0 v v_.1 v_.2, t35_s0 v v_.1 v_.2))) (fun x_ => some (.inr (.exit 0, ofSlots E 31 [] [0, 6] [.own 0, .undef], [.arr .live (.int .u8) x_]))) n b := by kernel_rfl
theorem q35_s0 : InsLp 31 [0, 1, 2] [] [] (stepOf E S35 L35 0 0 Try.f35) g35_s0 := by
  intro v n b out_ ho_
  obtain ⟨x_, h1_, h2_⟩ := Option.bind_eq_some_iff.1 ho_
  refine iter_loop (rs := [0, 6]) (step := N.bits_Put_s0 v) (hd := fun v_ => h35_s0 v v_.1 v_.2) (sv := fun v_ => t35_s0 v v_.1 v_.2) (ex := x35_s0 v) (fun v_ => ?_) N.fuel (n, b) h1_ h2_
  refine (f35_s0 v v_.1 v_.2).trans ((N.bits_Put_s0_bind v _ _ v_.1 v_.2).trans ?_)
  refine congrArg _ (funext fun s_ => ?_)
  rcases s_ with v_ | a <;> rfl
noncomputable def B35 : List (DVal E.T) → St E.T → Tree (Res E.T × St E.T) := dbody E (lookS S35) (lookD []) L35 0 false Try.f35
theorem B35_ok : FnOk Try.prog E 35 B35 := bodyC_ok sound mix S35_ok (SD := []) trivial (L := L35) (N := 0) (keep := false) Try.func35 rfl (by
  intro k g hg fr st out ho
  match k, hg with
  | 0, hg => cases hg; exact lp_ok (allLp_cons q35_s0 (allLp_nil)) fr st out ho
  | _ + 1, hg => cases hg)
theorem F35 (b : List UInt8) (v : Int) (n : Int) : (B35 [.val (.slice (.int .u8)) b, .val (.int .i64) v, .val (.int .i64) n] []).get = N.bits_Put_k N.fuel (fun x_ => some (.ret [.val (.slice (.int .u8)) x_], [])) b v n := by kernel_rfl
noncomputable def i35 : Ins E (Res E.T × St E.T) := ⟨[.v (.slice (.int .u8)), .v (.int .i64), .v (.int .i64)], [], fun b v n => .opt (N.bits_Put N.fuel b v n) fun x_ => .ret (.ret [.val (.slice (.int .u8)) x_], [])⟩
theorem i35_ok : InsOk Try.prog 35 i35 := ⟨B35, B35_ok, by intro b v n out_ h_; exact ((F35 b v n).trans (N.bits_Put_bind N.fuel _ b v n)).trans h_⟩
noncomputable def P35 : Nat × D.Spec E := (35, .pure [(.slice (.int .u8)), (.int .i64), (.int .i64)] (pureF [i35]))
theorem p35 : SpecOk Try.prog E P35.1 P35.2 := pureI_ok Try.call35 ⟨i35_ok, trivial⟩

/-! tenancy/bits.Text -/
noncomputable def S36 : List (Nat × D.Spec E) := [P53]
theorem S36_ok : AllS Try.prog E S36 := ⟨p53, trivial⟩
noncomputable def L36 : Nat → LoopInfo E := clL E 19 [] []
noncomputable def B36 : List (DVal E.T) → St E.T → Tree (Res E.T × St E.T) := dbody E (lookS S36) (lookD []) L36 0 false Try.f36
theorem B36_ok : FnOk Try.prog E 36 B36 := bodyC_ok sound mix S36_ok (SD := []) trivial (L := L36) (N := 0) (keep := false) Try.func36 rfl (by
  intro k g hg fr st out ho
  match k, hg with
  | _, hg => cases hg)
theorem F36 (b : List UInt8) (s : List UInt8) : (B36 [.val (.slice (.int .u8)) b, .val .str s] []).get = N.bits_Text_k (fun x_ => some (.ret [.val (.slice (.int .u8)) x_], [])) b s := by kernel_rfl
noncomputable def i36 : Ins E (Res E.T × St E.T) := ⟨[.v (.slice (.int .u8)), .v .str], [], fun b s => .opt (N.bits_Text b s) fun x_ => .ret (.ret [.val (.slice (.int .u8)) x_], [])⟩
theorem i36_ok : InsOk Try.prog 36 i36 := ⟨B36, B36_ok, by intro b s out_ h_; exact ((F36 b s).trans (N.bits_Text_bind _ b s)).trans h_⟩
noncomputable def P36 : Nat × D.Spec E := (36, .pure [(.slice (.int .u8)), .str] (pureF [i36]))
theorem p36 : SpecOk Try.prog E P36.1 P36.2 := pureI_ok Try.call36 ⟨i36_ok, trivial⟩

/-! tenancy/crc.Sum -/
noncomputable def S54 : List (Nat × D.Spec E) := []
theorem S54_ok : AllS Try.prog E S54 := trivial
abbrev h54_s0 (t6 : List UInt8) (t7 : Int) (t8 : Int) (c : Int) (t16 : Int) : Fr E.T := ofSlots E 29 [] [2, 6, 7, 8, 16] [.val (.int .u16) c, .val (.slice (.int .u8)) t6, .val (.int .i64) t7, .val (.int .i64) t8, .val (.int .i64) t16]
abbrev t54_s0 (t6 : List UInt8) (t7 : Int) (t8 : Int) (c : Int) (t16 : Int) : St E.T := []
def x54_s0 (t6 : List UInt8) (t7 : Int) (t8 : Int) (x_ : Int) : Tree (CodeOut E) := .ret (.exit 2, ofSlots E 29 [] [2, 6, 7, 8] [.val (.int .u16) x_, .val (.slice (.int .u8)) t6, .val (.int .i64) t7, .val (.int .i64) t8], [])
noncomputable def g54_s0 : Ins E (CodeOut E) := ⟨[.v (.int .u16), .v (.slice (.int .u8)), .v (.int .i64), .v (.int .i64), .v (.int .i64)], [], fun c t6 t7 t8 t16 => .opt (N.crc_Sum_l0 N.fuel t6 t7 t8 c t16) (x54_s0 t6 t7 t8)⟩
abbrev h54_s1 (t6 : List UInt8) (t7 : Int) (c : Int) (t8 : Int) : Fr E.T := ofSlots E 29 [] [2, 6, 7, 8] [.val (.int .u16) c, .val (.slice (.int .u8)) t6, .val (.int .i64) t7, .val (.int .i64) t8]
abbrev t54_s1 (t6 : List UInt8) (t7 : Int) (c : Int) (t8 : Int) : St E.T := []
def x54_s1 (t6 : List UInt8) (t7 : Int) (x_ : Int) : Tree (CodeOut E) := .ret (.exit 0, ofSlots E 29 [] [2] [.val (.int .u16) x_], [])
noncomputable def g54_s1 : Ins E (CodeOut E) := ⟨[.v (.int .u16), .v (.slice (.int .u8)), .v (.int .i64), .v (.int .i64)], [], fun c t6 t7 t8 => .opt (N.crc_Sum_l1 N.fuel t6 t7 c t8) (x54_s1 t6 t7)⟩
noncomputable def L54 : Nat → LoopInfo E := clL E 29 [{ ks := [2, 6, 7, 8], mvs := [], pro := [], d := [], g := some (insF [g54_s1]) }, { ks := [2, 6, 7, 8, 16], mvs := [], pro := [], d := [], g := some (insF [g54_s0]) }] []
theorem f54_s0 (t6 : List UInt8) (t7 : Int) (t8 : Int) (c : Int) (t16 : Int) : ((stepOf E S54 L54 0 1 Try.f54 (h54_s0 t6 t7 t8 c t16) (t54_s0 t6 t7 t8 c t16)).bind (nx E [2, 6, 7, 8, 16] [] [2, 6, 7, 8] 0)).get = N.crc_Sum_s0k t6 t7 t8 (fun v_ => some (.inl (h54_s0 t6 t7 t8 v_.1 v_.2, t54_s0 t6 t7 t8 v_.1 v_.2))) (fun x_ => some (.inr (.exit 2, ofSlots E 29 [] [2, 6, 7, 8] [.val (.int .u16) x_, .val (.slice (.int .u8)) t6, .val (.int .i64) t7, .val (.int .i64) t8], []))) c t16 := by kernel_rfl
theorem q54_s0 : InsLp 29 [2, 6, 7, 8, 16] [] [] (stepOf E S54 L54 0 1 Try.f54) g54_s0 := by
  intro c t6 t7 t8 t16 out_ ho_
  obtain ⟨x_, h1_, h2_⟩ := Option.bind_eq_some_iff.1 ho_
  refine iter_loop (rs := [2, 6, 7, 8]) (step := N.crc_Sum_s0 t6 t7 t8) (hd := fun v_ => h54_s0 t6 t7 t8 v_.1 v_.2) (sv := fun v_ => t54_s0 t6 t7 t8 v_.1 v_.2) (ex := x54_s0 t6 t7 t8) (fun v_ => ?_) N.fuel (c, t16) h1_ h2_
  refine (f54_s0 t6 t7 t8 v_.1 v_.2).trans ((N.crc_Sum_s0_bind t6 t7 t8 _ _ v_.1 v_.2).trans ?_)
  refine congrArg _ (funext fun s_ => ?_)
  rcases s_ with v_ | a <;> rfl
theorem f54_s1 (t6 : List UInt8) (t7 : Int) (c : Int) (t8 : Int) : ((stepOf E S54 L54 0 0 Try.f54 (h54_s1 t6 t7 c t8) (t54_s1 t6 t7 c t8)).bind (nx E [2, 6, 7, 8] [] [2] 0)).get = N.crc_Sum_s1k N.fuel t6 t7 (fun v_ => some (.inl (h54_s1 t6 t7 v_.1 v_.2, t54_s1 t6 t7 v_.1 v_.2))) (fun x_ => some (.inr (.exit 0, ofSlots E 29 [] [2] [.val (.int .u16) x_], []))) c t8 := by kernel_rfl
theorem q54_s1 : InsLp 29 [2, 6, 7, 8] [] [] (stepOf E S54 L54 0 0 Try.f54) g54_s1 := by
  intro c t6 t7 t8 out_ ho_
  obtain ⟨x_, h1_, h2_⟩ := Option.bind_eq_some_iff.1 ho_
  refine iter_loop (rs := [2]) (step := N.crc_Sum_s1 N.fuel t6 t7) (hd := fun v_ => h54_s1 t6 t7 v_.1 v_.2) (sv := fun v_ => t54_s1 t6 t7 v_.1 v_.2) (ex := x54_s1 t6 t7) (fun v_ => ?_) N.fuel (c, t8) h1_ h2_
  refine (f54_s1 t6 t7 v_.1 v_.2).trans ((N.crc_Sum_s1_bind N.fuel t6 t7 _ _ v_.1 v_.2).trans ?_)
  refine congrArg _ (funext fun s_ => ?_)
  rcases s_ with v_ | a <;> rfl
noncomputable def B54 : List (DVal E.T) → St E.T → Tree (Res E.T × St E.T) := dbody E (lookS S54) (lookD []) L54 0 false Try.f54
theorem B54_ok : FnOk Try.prog E 54 B54 := bodyC_ok sound mix S54_ok (SD := []) trivial (L := L54) (N := 0) (keep := false) Try.func54 rfl (by
  intro k g hg fr st out ho
  match k, hg with
  | 0, hg => cases hg; exact lp_ok (allLp_cons q54_s1 (allLp_nil)) fr st out ho
  | 1, hg => cases hg; exact lp_ok (allLp_cons q54_s0 (allLp_nil)) fr st out ho
  | _ + 2, hg => cases hg)
theorem F54 (b : List UInt8) : (B54 [.val (.slice (.int .u8)) b] []).get = N.crc_Sum_k N.fuel (fun x_ => some (.ret [.val (.int .u16) x_], [])) b := by kernel_rfl
noncomputable def i54 : Ins E (Res E.T × St E.T) := ⟨[.v (.slice (.int .u8))], [], fun b => .opt (N.crc_Sum N.fuel b) fun x_ => .ret (.ret [.val (.int .u16) x_], [])⟩
theorem i54_ok : InsOk Try.prog 54 i54 := ⟨B54, B54_ok, by intro b out_ h_; exact ((F54 b).trans (N.crc_Sum_bind N.fuel _ b)).trans h_⟩
noncomputable def P54 : Nat × D.Spec E := (54, .pure [(.slice (.int .u8))] (pureF [i54]))
theorem p54 : SpecOk Try.prog E P54.1 P54.2 := pureI_ok Try.call54 ⟨i54_ok, trivial⟩

/-! tenancy/msg.sealed -/
noncomputable def S37 : List (Nat × D.Spec E) := [P35, P54]
theorem S37_ok : AllS Try.prog E S37 := ⟨p35, p54, trivial⟩
noncomputable def L37 : Nat → LoopInfo E := clL E 8 [] []
noncomputable def B37 : List (DVal E.T) → St E.T → Tree (Res E.T × St E.T) := dbody E (lookS S37) (lookD []) L37 0 false Try.f37
theorem B37_ok : FnOk Try.prog E 37 B37 := bodyC_ok sound mix S37_ok (SD := []) trivial (L := L37) (N := 0) (keep := false) Try.func37 rfl (by
  intro k g hg fr st out ho
  match k, hg with
  | _, hg => cases hg)
theorem F37 (b : List UInt8) : (B37 [.val (.slice (.int .u8)) b] []).get = N.msg_sealed_k N.fuel (fun x_ => some (.ret [.val (.slice (.int .u8)) x_], [])) b := by kernel_rfl
noncomputable def i37 : Ins E (Res E.T × St E.T) := ⟨[.v (.slice (.int .u8))], [], fun b => .opt (N.msg_sealed N.fuel b) fun x_ => .ret (.ret [.val (.slice (.int .u8)) x_], [])⟩
theorem i37_ok : InsOk Try.prog 37 i37 := ⟨B37, B37_ok, by intro b out_ h_; exact ((F37 b).trans (N.msg_sealed_bind N.fuel _ b)).trans h_⟩
noncomputable def P37 : Nat × D.Spec E := (37, .pure [(.slice (.int .u8))] (pureF [i37]))
theorem p37 : SpecOk Try.prog E P37.1 P37.2 := pureI_ok Try.call37 ⟨i37_ok, trivial⟩

/-! tenancy/msg.PutAsk -/
noncomputable def S15 : List (Nat × D.Spec E) := [P13, P35, P36, P37]
theorem S15_ok : AllS Try.prog E S15 := ⟨p13, p35, p36, p37, trivial⟩
abbrev h15_s0 (t37 : List N.TWrite) (t38 : Int) (o0 : N.TAsk) (b : List UInt8) (t39 : Int) : Fr E.T := ofSlots E 53 [] [3, 37, 38, 39] [.val (.slice (.int .u8)) b, .val (.slice (.named 0)) t37, .val (.int .i64) t38, .val (.int .i64) t39]
abbrev t15_s0 (t37 : List N.TWrite) (t38 : Int) (o0 : N.TAsk) (b : List UInt8) (t39 : Int) : St E.T := [.box false (.val (.named 1) o0)]
def x15_s0 (t37 : List N.TWrite) (t38 : Int) (o0 : N.TAsk) (x_ : List UInt8) : Tree (CodeOut E) := .ret (.exit 0, ofSlots E 53 [] [2, 3] [.undef, .val (.slice (.int .u8)) x_], [.box false (.val (.named 1) o0)])
noncomputable def g15_s0 : Ins E (CodeOut E) := ⟨[.v (.slice (.int .u8)), .v (.slice (.named 0)), .v (.int .i64), .v (.int .i64)], [.box false (.v (.named 1))], fun b t37 t38 t39 o0 => .opt (N.msg_PutAsk_l0 N.fuel t37 t38 o0 b t39) (x15_s0 t37 t38 o0)⟩
noncomputable def L15 : Nat → LoopInfo E := clL E 53 [{ ks := [3, 37, 38, 39], mvs := [], pro := [], d := [], g := some (insF [g15_s0]) }] []
theorem f15_s0 (t37 : List N.TWrite) (t38 : Int) (o0 : N.TAsk) (b : List UInt8) (t39 : Int) : ((stepOf E S15 L15 0 0 Try.f15 (h15_s0 t37 t38 o0 b t39) (t15_s0 t37 t38 o0 b t39)).bind (nx E [3, 37, 38, 39] [] [2, 3] 1)).get = N.msg_PutAsk_s0k N.fuel t37 t38 o0 (fun v_ => some (.inl (h15_s0 t37 t38 o0 v_.1 v_.2, t15_s0 t37 t38 o0 v_.1 v_.2))) (fun x_ => some (.inr (.exit 0, ofSlots E 53 [] [2, 3] [.undef, .val (.slice (.int .u8)) x_], [.box false (.val (.named 1) o0)]))) b t39 := by kernel_rfl
theorem q15_s0 : InsLp 53 [3, 37, 38, 39] [] [] (stepOf E S15 L15 0 0 Try.f15) g15_s0 := by
  intro b t37 t38 t39 o0 out_ ho_
  obtain ⟨x_, h1_, h2_⟩ := Option.bind_eq_some_iff.1 ho_
  refine iter_loop (rs := [2, 3]) (step := N.msg_PutAsk_s0 N.fuel t37 t38 o0) (hd := fun v_ => h15_s0 t37 t38 o0 v_.1 v_.2) (sv := fun v_ => t15_s0 t37 t38 o0 v_.1 v_.2) (ex := x15_s0 t37 t38 o0) (fun v_ => ?_) N.fuel (b, t39) h1_ h2_
  refine (f15_s0 t37 t38 o0 v_.1 v_.2).trans ((N.msg_PutAsk_s0_bind N.fuel t37 t38 o0 _ _ v_.1 v_.2).trans ?_)
  refine congrArg _ (funext fun s_ => ?_)
  rcases s_ with v_ | a <;> rfl
noncomputable def B15 : List (DVal E.T) → St E.T → Tree (Res E.T × St E.T) := dbody E (lookS S15) (lookD []) L15 0 false Try.f15
theorem B15_ok : FnOk Try.prog E 15 B15 := bodyC_ok sound mix S15_ok (SD := []) trivial (L := L15) (N := 0) (keep := false) Try.func15 rfl (by
  intro k g hg fr st out ho
  match k, hg with
  | 0, hg => cases hg; exact lp_ok (allLp_cons q15_s0 (allLp_nil)) fr st out ho
  | _ + 1, hg => cases hg)
theorem F15 (a : N.TAsk) : (B15 [.val (.named 1) a] []).get = N.msg_PutAsk_k N.fuel (fun x_ => some (.ret [.val (.slice (.int .u8)) x_], [])) a := by kernel_rfl
noncomputable def i15 : Ins E (Res E.T × St E.T) := ⟨[.v (.named 1)], [], fun a => .opt (N.msg_PutAsk N.fuel a) fun x_ => .ret (.ret [.val (.slice (.int .u8)) x_], [])⟩
theorem i15_ok : InsOk Try.prog 15 i15 := ⟨B15, B15_ok, by intro a out_ h_; exact ((F15 a).trans (N.msg_PutAsk_bind N.fuel _ a)).trans h_⟩
noncomputable def P15 : Nat × D.Spec E := (15, .pure [(.named 1)] (pureF [i15]))
theorem p15 : SpecOk Try.prog E P15.1 P15.2 := pureI_ok Try.call15 ⟨i15_ok, trivial⟩

/-! tenancy/bits.front -/
noncomputable def S67 : List (Nat × D.Spec E) := []
theorem S67_ok : AllS Try.prog E S67 := trivial
noncomputable def L67 : Nat → LoopInfo E := clL E 14 [] []
noncomputable def B67 : List (DVal E.T) → St E.T → Tree (Res E.T × St E.T) := dbody E (lookS S67) (lookD []) L67 0 false Try.f67
theorem B67_ok : FnOk Try.prog E 67 B67 := bodyC_ok sound mix S67_ok (SD := []) trivial (L := L67) (N := 0) (keep := false) Try.func67 rfl (by
  intro k g hg fr st out ho
  match k, hg with
  | _, hg => cases hg)
theorem F67 (b : List UInt8) (n : Int) : (B67 [.val (.slice (.int .u8)) b, .val (.int .i64) n] []).get = N.bits_front_k (fun x_ => some (.ret [.val (.slice (.int .u8)) x_], [])) (fun x_ => some (.panic (.ifc 91 (.val (.named 5) N.TNil0.mk)), [])) b n := by kernel_rfl
noncomputable def i67 : Ins E (Res E.T × St E.T) := ⟨[.v (.slice (.int .u8)), .v (.int .i64)], [], fun b n => .opt (N.bits_front b n) fun x_ => altT x_ (fun u0_ => .ret (.ret [.val (.slice (.int .u8)) u0_], [])) (fun w0_ => .ret (.panic (.ifc 91 (.val (.named 5) N.TNil0.mk)), []))⟩
theorem i67_ok : InsOk Try.prog 67 i67 := ⟨B67, B67_ok, by intro b n out_ h_; exact ((F67 b n).trans (N.bits_front_bind _ _ b n)).trans h_⟩
noncomputable def P67 : Nat × D.Spec E := (67, .pure [(.slice (.int .u8)), (.int .i64)] (pureF [i67]))
theorem p67 : SpecOk Try.prog E P67.1 P67.2 := pureI_ok Try.call67 ⟨i67_ok, trivial⟩

/-! tenancy/bits.caught -/
noncomputable def S66 : List (Nat × D.Spec E) := []
theorem S66_ok : AllS Try.prog E S66 := trivial
noncomputable def L66 : Nat → LoopInfo E := clL E 18 [] []
noncomputable def B66 : DSpec E := dbodyD E (lookS S66) L66 0 Try.f66
theorem p66 : DSpecOk Try.prog E 66 B66 := dfullD_ok sound mix S66_ok (L := L66) (fun _ => rfl) Try.call66 Try.func66 rfl

/-! tenancy/bits.Take -/
noncomputable def S64 : List (Nat × D.Spec E) := [P67]
theorem S64_ok : AllS Try.prog E S64 := ⟨p67, trivial⟩
noncomputable def D64 : List (Nat × DSpec E) := [(66, B66)]
theorem D64_ok : AllD Try.prog E D64 := ⟨p66, trivial⟩
abbrev h64_s0 (t16 : List UInt8) (t17 : Int) (ok : Bool) (v : Int) (t18 : Int) : Fr E.T := ofSlots E 29 [(66, [.ptr 0 []])] [4, 5, 16, 17, 18] [.val (.int .i64) v, .ptr 0 [], .val (.slice (.int .u8)) t16, .val (.int .i64) t17, .val (.int .i64) t18]
abbrev t64_s0 (t16 : List UInt8) (t17 : Int) (ok : Bool) (v : Int) (t18 : Int) : St E.T := [.box false (.val .bool ok)]
def x64_s0 (t16 : List UInt8) (t17 : Int) (ok : Bool) (x_ : Int) : Tree (CodeOut E) := .ret (.exit 0, ofSlots E 29 [(66, [.ptr 0 []])] [4, 5] [.val (.int .i64) x_, .ptr 0 []], [.box false (.val .bool ok)])
noncomputable def g64_s0 : Ins E (CodeOut E) := ⟨[.v (.int .i64), .ptr 0 [], .v (.slice (.int .u8)), .v (.int .i64), .v (.int .i64)], [.box false (.v .bool)], fun v t16 t17 t18 ok => .opt (N.bits_Take_l0 N.fuel t16 t17 ok v t18) (x64_s0 t16 t17 ok)⟩
noncomputable def L64 : Nat → LoopInfo E := clL E 29 [{ ks := [4, 5, 16, 17, 18], mvs := [], pro := [], d := [(66, [.ptr 0 []])], g := some (insF [g64_s0]) }] []
theorem f64_s0 (t16 : List UInt8) (t17 : Int) (ok : Bool) (v : Int) (t18 : Int) : ((stepOf E S64 L64 0 0 Try.f64 (h64_s0 t16 t17 ok v t18) (t64_s0 t16 t17 ok v t18)).bind (nx E [4, 5, 16, 17, 18] [] [4, 5] 1)).get = N.bits_Take_s0k t16 t17 ok (fun v_ => some (.inl (h64_s0 t16 t17 ok v_.1 v_.2, t64_s0 t16 t17 ok v_.1 v_.2))) (fun x_ => some (.inr (.exit 0, ofSlots E 29 [(66, [.ptr 0 []])] [4, 5] [.val (.int .i64) x_, .ptr 0 []], [.box false (.val .bool ok)]))) v t18 := by kernel_rfl
theorem q64_s0 : InsLp 29 [4, 5, 16, 17, 18] [] [(66, [.ptr 0 []])] (stepOf E S64 L64 0 0 Try.f64) g64_s0 := by
  intro v t16 t17 t18 ok out_ ho_
  obtain ⟨x_, h1_, h2_⟩ := Option.bind_eq_some_iff.1 ho_
  refine iter_loop (rs := [4, 5]) (step := N.bits_Take_s0 t16 t17 ok) (hd := fun v_ => h64_s0 t16 t17 ok v_.1 v_.2) (sv := fun v_ => t64_s0 t16 t17 ok v_.1 v_.2) (ex := x64_s0 t16 t17 ok) (fun v_ => ?_) N.fuel (v, t18) h1_ h2_
  refine (f64_s0 t16 t17 ok v_.1 v_.2).trans ((N.bits_Take_s0_bind t16 t17 ok _ _ v_.1 v_.2).trans ?_)
  refine congrArg _ (funext fun s_ => ?_)
  rcases s_ with v_ | a <;> rfl
noncomputable def B64 : List (DVal E.T) → St E.T → Tree (Res E.T × St E.T) := dbody E (lookS S64) (lookD D64) L64 0 false Try.f64
theorem B64_ok : FnOk Try.prog E 64 B64 := bodyC_ok sound mix S64_ok (SD := D64) D64_ok (L := L64) (N := 0) (keep := false) Try.func64 rfl (by
  intro k g hg fr st out ho
  match k, hg with
  | 0, hg => cases hg; exact lp_ok (allLp_cons q64_s0 (allLp_nil)) fr st out ho
  | _ + 1, hg => cases hg)
theorem F64 (b : List UInt8) (n : Int) : (B64 [.val (.slice (.int .u8)) b, .val (.int .i64) n] []).get = N.bits_Take_k N.fuel (fun x_ => some (.ret [.val (.int .i64) x_.1, .val .bool x_.2], [])) b n := by kernel_rfl
noncomputable def i64 : Ins E (Res E.T × St E.T) := ⟨[.v (.slice (.int .u8)), .v (.int .i64)], [], fun b n => .opt (N.bits_Take N.fuel b n) fun x_ => .ret (.ret [.val (.int .i64) x_.1, .val .bool x_.2], [])⟩
theorem i64_ok : InsOk Try.prog 64 i64 := ⟨B64, B64_ok, by intro b n out_ h_; exact ((F64 b n).trans (N.bits_Take_bind N.fuel _ b n)).trans h_⟩
noncomputable def P64 : Nat × D.Spec E := (64, .pure [(.slice (.int .u8)), (.int .i64)] (pureF [i64]))
theorem p64 : SpecOk Try.prog E P64.1 P64.2 := pureI_ok Try.call64 ⟨i64_ok, trivial⟩

/-! (*tenancy/msg.reader).num -/
noncomputable def S58 : List (Nat × D.Spec E) := [P64]
theorem S58_ok : AllS Try.prog E S58 := ⟨p64, trivial⟩
noncomputable def L58 : Nat → LoopInfo E := clL E 30 [] []
noncomputable def B58 : List (DVal E.T) → St E.T → Tree (Res E.T × St E.T) := tidyF (dbody E (lookS S58) (lookD []) L58 0 false Try.f58)
theorem B58_ok : FnOk Try.prog E 58 B58 := tidy_fn ok (bodyC_ok sound mix S58_ok (SD := []) trivial (L := L58) (N := 0) (keep := false) Try.func58 rfl (by
  intro k g hg fr st out ho
  match k, hg with
  | _, hg => cases hg))
theorem F58 (n : Int) (r : N.Tmsg_reader) : (B58 [.ptr 0 [], .val (.int .i64) n] [.box false (.val (.named 6) r)]).get = N.msg_reader_num_k N.fuel (fun x_ => some (.ret [.val (.int .i64) x_.1], [.box false (.val (.named 6) x_.2)])) (fun x_ => some (.panic (.ifc 78 (.val (.named 5) N.TNil0.mk)), [.box false (.val (.named 6) r)])) n r := by kernel_rfl
noncomputable def i58 : Ins E (Res E.T × St E.T) := ⟨[.ptr 0 [], .v (.int .i64)], [.box false (.v (.named 6))], fun n r => .opt (N.msg_reader_num N.fuel n r) fun x_ => altT x_ (fun u0_ => .ret (.ret [.val (.int .i64) u0_.1], [.box false (.val (.named 6) u0_.2)])) (fun w0_ => .ret (.panic (.ifc 78 (.val (.named 5) N.TNil0.mk)), [.box false (.val (.named 6) r)]))⟩
theorem i58_ok : InsOk Try.prog 58 i58 := ⟨B58, B58_ok, by intro n r out_ h_; exact ((F58 n r).trans (N.msg_reader_num_bind N.fuel _ _ n r)).trans h_⟩
noncomputable def P58 : Nat × D.Spec E := (58, .full [.ptr, .data (.int .i64)] false (fullF [i58]))
theorem p58 : SpecOk Try.prog E P58.1 P58.2 := fullI_ok ok Try.call58 ⟨i58_ok, trivial⟩

/-! tenancy/bits.TakeText -/
noncomputable def S65 : List (Nat × D.Spec E) := [P67]
theorem S65_ok : AllS Try.prog E S65 := ⟨p67, trivial⟩
noncomputable def D65 : List (Nat × DSpec E) := [(66, B66)]
theorem D65_ok : AllD Try.prog E D65 := ⟨p66, trivial⟩
noncomputable def L65 : Nat → LoopInfo E := clL E 20 [] []
noncomputable def B65 : List (DVal E.T) → St E.T → Tree (Res E.T × St E.T) := dbody E (lookS S65) (lookD D65) L65 0 false Try.f65
theorem B65_ok : FnOk Try.prog E 65 B65 := bodyC_ok sound mix S65_ok (SD := D65) D65_ok (L := L65) (N := 0) (keep := false) Try.func65 rfl (by
  intro k g hg fr st out ho
  match k, hg with
  | _, hg => cases hg)
theorem F65 (b : List UInt8) : (B65 [.val (.slice (.int .u8)) b] []).get = N.bits_TakeText_k (fun x_ => some (.ret [.val .str x_.1, .val (.int .i64) x_.2.1, .val .bool x_.2.2], [])) b := by kernel_rfl
noncomputable def i65 : Ins E (Res E.T × St E.T) := ⟨[.v (.slice (.int .u8))], [], fun b => .opt (N.bits_TakeText b) fun x_ => .ret (.ret [.val .str x_.1, .val (.int .i64) x_.2.1, .val .bool x_.2.2], [])⟩
theorem i65_ok : InsOk Try.prog 65 i65 := ⟨B65, B65_ok, by intro b out_ h_; exact ((F65 b).trans (N.bits_TakeText_bind _ b)).trans h_⟩
noncomputable def P65 : Nat × D.Spec E := (65, .pure [(.slice (.int .u8))] (pureF [i65]))
theorem p65 : SpecOk Try.prog E P65.1 P65.2 := pureI_ok Try.call65 ⟨i65_ok, trivial⟩

/-! (*tenancy/msg.reader).text -/
noncomputable def S59 : List (Nat × D.Spec E) := [P65]
theorem S59_ok : AllS Try.prog E S59 := ⟨p65, trivial⟩
noncomputable def L59 : Nat → LoopInfo E := clL E 29 [] []
noncomputable def B59 : List (DVal E.T) → St E.T → Tree (Res E.T × St E.T) := tidyF (dbody E (lookS S59) (lookD []) L59 0 false Try.f59)
theorem B59_ok : FnOk Try.prog E 59 B59 := tidy_fn ok (bodyC_ok sound mix S59_ok (SD := []) trivial (L := L59) (N := 0) (keep := false) Try.func59 rfl (by
  intro k g hg fr st out ho
  match k, hg with
  | _, hg => cases hg))
theorem F59 (r : N.Tmsg_reader) : (B59 [.ptr 0 []] [.box false (.val (.named 6) r)]).get = N.msg_reader_text_k (fun x_ => some (.ret [.val .str x_.1], [.box false (.val (.named 6) x_.2)])) (fun x_ => some (.panic (.ifc 78 (.val (.named 5) N.TNil0.mk)), [.box false (.val (.named 6) r)])) r := by kernel_rfl
noncomputable def i59 : Ins E (Res E.T × St E.T) := ⟨[.ptr 0 []], [.box false (.v (.named 6))], fun r => .opt (N.msg_reader_text r) fun x_ => altT x_ (fun u0_ => .ret (.ret [.val .str u0_.1], [.box false (.val (.named 6) u0_.2)])) (fun w0_ => .ret (.panic (.ifc 78 (.val (.named 5) N.TNil0.mk)), [.box false (.val (.named 6) r)]))⟩
theorem i59_ok : InsOk Try.prog 59 i59 := ⟨B59, B59_ok, by intro r out_ h_; exact ((F59 r).trans (N.msg_reader_text_bind _ _ r)).trans h_⟩
noncomputable def P59 : Nat × D.Spec E := (59, .full [.ptr] false (fullF [i59]))
theorem p59 : SpecOk Try.prog E P59.1 P59.2 := fullI_ok ok Try.call59 ⟨i59_ok, trivial⟩

/-! (*tenancy/msg.reader).ask -/
noncomputable def S44 : List (Nat × D.Spec E) := [P58, P59]
theorem S44_ok : AllS Try.prog E S44 := ⟨p58, p59, trivial⟩
abbrev h44_s0 (n : Int) (r : N.Tmsg_reader) (a : N.TAsk) : Fr E.T := ofSlots E 45 [] [0, 2, 3] [.ptr 0 [], .ptr 1 [], .val (.int .i64) n]
abbrev t44_s0 (n : Int) (r : N.Tmsg_reader) (a : N.TAsk) : St E.T := [.box false (.val (.named 6) r), .box false (.agg 1 [.val (.int .i64) a.Kind, .val (.int .i64) a.From, .val (.int .i64) a.Epoch, .val (.int .i64) a.Seq, .val .str a.Name, .val (.int .i64) a.File, .val (.int .i64) a.Mode, .own 2]), .arr .live (.named 0) a.Writes]
def x44_s0 (x_ : (N.Tmsg_reader × N.TAsk) ⊕ ((N.Tmsg_reader × N.TAsk × N.TWrite) ⊕ (N.Tmsg_reader × N.TAsk))) : Tree (CodeOut E) := altT x_ (fun u0_ => .ret (.panic (.ifc 78 (.val (.named 5) N.TNil0.mk)), ofSlots E 45 [] [2] [.ptr 1 []], [.box false (.val (.named 6) u0_.1), .box false (.agg 1 [.val (.int .i64) u0_.2.Kind, .val (.int .i64) u0_.2.From, .val (.int .i64) u0_.2.Epoch, .val (.int .i64) u0_.2.Seq, .val .str u0_.2.Name, .val (.int .i64) u0_.2.File, .val (.int .i64) u0_.2.Mode, .own 2]), .arr .live (.named 0) u0_.2.Writes])) (fun w0_ => altT w0_ (fun u1_ => .ret (.panic (.ifc 78 (.val (.named 5) N.TNil0.mk)), ofSlots E 45 [] [2] [.ptr 1 []], [.box false (.val (.named 6) u1_.1), .box false (.agg 1 [.val (.int .i64) u1_.2.1.Kind, .val (.int .i64) u1_.2.1.From, .val (.int .i64) u1_.2.1.Epoch, .val (.int .i64) u1_.2.1.Seq, .val .str u1_.2.1.Name, .val (.int .i64) u1_.2.1.File, .val (.int .i64) u1_.2.1.Mode, .own 2]), .arr .live (.named 0) u1_.2.1.Writes, .box false (.agg 0 [.val (.int .i64) u1_.2.2.Off, .val .str u1_.2.2.B])])) (fun w1_ => .ret (.exit 0, ofSlots E 45 [] [2] [.ptr 1 []], [.box false (.val (.named 6) w1_.1), .box false (.agg 1 [.val (.int .i64) w1_.2.Kind, .val (.int .i64) w1_.2.From, .val (.int .i64) w1_.2.Epoch, .val (.int .i64) w1_.2.Seq, .val .str w1_.2.Name, .val (.int .i64) w1_.2.File, .val (.int .i64) w1_.2.Mode, .own 2]), .arr .live (.named 0) w1_.2.Writes])))
noncomputable def g44_s0 : Ins E (CodeOut E) := ⟨[.ptr 0 [], .ptr 1 [], .v (.int .i64)], [.box false (.v (.named 6)), .box false (.agg 1 [.v (.int .i64), .v (.int .i64), .v (.int .i64), .v (.int .i64), .v .str, .v (.int .i64), .v (.int .i64), .own 2]), .arr .live (.named 0)], fun n r a_Kind a_From a_Epoch a_Seq a_Name a_File a_Mode a2_ => .opt (N.msg_reader_ask_l0 N.fuel n r (N.TAsk.mk a_Kind a_From a_Epoch a_Seq a_Name a_File a_Mode a2_)) (x44_s0)⟩
noncomputable def L44 : Nat → LoopInfo E := clL E 45 [{ ks := [0, 2, 3], mvs := [], pro := [.pro (.obj 1) [7] (.named 0)], d := [], g := some (insF [g44_s0]) }] []
theorem f44_s0 (n : Int) (r : N.Tmsg_reader) (a : N.TAsk) : ((stepOf E S44 L44 0 0 Try.f44 (h44_s0 n r a) (t44_s0 n r a)).bind (nx E [0, 2, 3] [] [2] 3)).get = N.msg_reader_ask_s0k N.fuel (fun v_ => some (.inl (h44_s0 v_.1 v_.2.1 v_.2.2, t44_s0 v_.1 v_.2.1 v_.2.2))) (fun x_ => some (.inr (.panic (.ifc 78 (.val (.named 5) N.TNil0.mk)), ofSlots E 45 [] [2] [.ptr 1 []], [.box false (.val (.named 6) x_.1), .box false (.agg 1 [.val (.int .i64) x_.2.Kind, .val (.int .i64) x_.2.From, .val (.int .i64) x_.2.Epoch, .val (.int .i64) x_.2.Seq, .val .str x_.2.Name, .val (.int .i64) x_.2.File, .val (.int .i64) x_.2.Mode, .own 2]), .arr .live (.named 0) x_.2.Writes]))) (fun x_ => some (.inr (.panic (.ifc 78 (.val (.named 5) N.TNil0.mk)), ofSlots E 45 [] [2] [.ptr 1 []], [.box false (.val (.named 6) x_.1), .box false (.agg 1 [.val (.int .i64) x_.2.1.Kind, .val (.int .i64) x_.2.1.From, .val (.int .i64) x_.2.1.Epoch, .val (.int .i64) x_.2.1.Seq, .val .str x_.2.1.Name, .val (.int .i64) x_.2.1.File, .val (.int .i64) x_.2.1.Mode, .own 2]), .arr .live (.named 0) x_.2.1.Writes, .box false (.agg 0 [.val (.int .i64) x_.2.2.Off, .val .str x_.2.2.B])]))) (fun x_ => some (.inr (.exit 0, ofSlots E 45 [] [2] [.ptr 1 []], [.box false (.val (.named 6) x_.1), .box false (.agg 1 [.val (.int .i64) x_.2.Kind, .val (.int .i64) x_.2.From, .val (.int .i64) x_.2.Epoch, .val (.int .i64) x_.2.Seq, .val .str x_.2.Name, .val (.int .i64) x_.2.File, .val (.int .i64) x_.2.Mode, .own 2]), .arr .live (.named 0) x_.2.Writes]))) n r a := by kernel_rfl
theorem q44_s0 : InsLp 45 [0, 2, 3] [] [] (stepOf E S44 L44 0 0 Try.f44) g44_s0 := by
  intro n r a_Kind a_From a_Epoch a_Seq a_Name a_File a_Mode a2_ out_ ho_
  obtain ⟨x_, h1_, h2_⟩ := Option.bind_eq_some_iff.1 ho_
  refine iter_loop (rs := [2]) (step := N.msg_reader_ask_s0 N.fuel) (hd := fun v_ => h44_s0 v_.1 v_.2.1 v_.2.2) (sv := fun v_ => t44_s0 v_.1 v_.2.1 v_.2.2) (ex := x44_s0) (fun v_ => ?_) N.fuel (n, r, (N.TAsk.mk a_Kind a_From a_Epoch a_Seq a_Name a_File a_Mode a2_)) h1_ h2_
  refine (f44_s0 v_.1 v_.2.1 v_.2.2).trans ((N.msg_reader_ask_s0_bind N.fuel _ _ _ _ v_.1 v_.2.1 v_.2.2).trans ?_)
  refine congrArg _ (funext fun s_ => ?_)
  rcases s_ with v_ | a | a | a <;> rfl
noncomputable def B44 : List (DVal E.T) → St E.T → Tree (Res E.T × St E.T) := tidyF (dbody E (lookS S44) (lookD []) L44 0 false Try.f44)
theorem B44_ok : FnOk Try.prog E 44 B44 := tidy_fn ok (bodyC_ok sound mix S44_ok (SD := []) trivial (L := L44) (N := 0) (keep := false) Try.func44 rfl (by
  intro k g hg fr st out ho
  match k, hg with
  | 0, hg => cases hg; exact lp_ok (allLp_cons q44_s0 (allLp_nil)) fr st out ho
  | _ + 1, hg => cases hg))
theorem F44 (r : N.Tmsg_reader) : (B44 [.ptr 0 []] [.box false (.val (.named 6) r)]).get = N.msg_reader_ask_k N.fuel (fun x_ => some (.ret [.val (.named 1) x_.1], [.box false (.val (.named 6) x_.2)])) (fun x_ => some (.panic (.ifc 78 (.val (.named 5) N.TNil0.mk)), [.box false (.val (.named 6) x_)])) r := by kernel_rfl
noncomputable def i44 : Ins E (Res E.T × St E.T) := ⟨[.ptr 0 []], [.box false (.v (.named 6))], fun r => .opt (N.msg_reader_ask N.fuel r) fun x_ => altT x_ (fun u0_ => .ret (.ret [.val (.named 1) u0_.1], [.box false (.val (.named 6) u0_.2)])) (fun w0_ => .ret (.panic (.ifc 78 (.val (.named 5) N.TNil0.mk)), [.box false (.val (.named 6) w0_)]))⟩
theorem i44_ok : InsOk Try.prog 44 i44 := ⟨B44, B44_ok, by intro r out_ h_; exact ((F44 r).trans (N.msg_reader_ask_bind N.fuel _ _ r)).trans h_⟩
noncomputable def P44 : Nat × D.Spec E := (44, .full [.ptr] false (fullF [i44]))
theorem p44 : SpecOk Try.prog E P44.1 P44.2 := fullI_ok ok Try.call44 ⟨i44_ok, trivial⟩

/-! slices.Equal[[]byte,byte] -/
noncomputable def S57 : List (Nat × D.Spec E) := []
theorem S57_ok : AllS Try.prog E S57 := trivial
abbrev h57_s0 (s1 : List UInt8) (s2 : List UInt8) (t12 : Int) (t13 : Int) : Fr E.T := ofSlots E 26 [] [0, 1, 12, 13] [.val (.slice (.int .u8)) s1, .val (.slice (.int .u8)) s2, .val (.int .i64) t12, .val (.int .i64) t13]
abbrev t57_s0 (s1 : List UInt8) (s2 : List UInt8) (t12 : Int) (t13 : Int) : St E.T := []
def x57_s0 (s1 : List UInt8) (s2 : List UInt8) (t12 : Int) (x_ : Unit ⊕ Unit) : Tree (CodeOut E) := altT x_ (fun u0_ => .ret (.ret, ofSlots E 26 [] [4] [.val .bool false], [])) (fun w0_ => .ret (.exit 0, ofSlots E 26 [] [4] [.undef], []))
noncomputable def g57_s0 : Ins E (CodeOut E) := ⟨[.v (.slice (.int .u8)), .v (.slice (.int .u8)), .v (.int .i64), .v (.int .i64)], [], fun s1 s2 t12 t13 => .opt (N.slices_Equal_byte_l0 N.fuel s1 s2 t12 t13) (x57_s0 s1 s2 t12)⟩
noncomputable def L57 : Nat → LoopInfo E := clL E 26 [{ ks := [0, 1, 12, 13], mvs := [], pro := [], d := [], g := some (insF [g57_s0]) }] []
theorem f57_s0 (s1 : List UInt8) (s2 : List UInt8) (t12 : Int) (t13 : Int) : ((stepOf E S57 L57 0 0 Try.f57 (h57_s0 s1 s2 t12 t13) (t57_s0 s1 s2 t12 t13)).bind (nx E [0, 1, 12, 13] [] [4] 0)).get = N.slices_Equal_byte_s0k s1 s2 t12 (fun v_ => some (.inl (h57_s0 s1 s2 t12 v_, t57_s0 s1 s2 t12 v_))) (fun x_ => some (.inr (.ret, ofSlots E 26 [] [4] [.val .bool false], []))) (fun x_ => some (.inr (.exit 0, ofSlots E 26 [] [4] [.undef], []))) t13 := by kernel_rfl
theorem q57_s0 : InsLp 26 [0, 1, 12, 13] [] [] (stepOf E S57 L57 0 0 Try.f57) g57_s0 := by
  intro s1 s2 t12 t13 out_ ho_
  obtain ⟨x_, h1_, h2_⟩ := Option.bind_eq_some_iff.1 ho_
  refine iter_loop (rs := [4]) (step := N.slices_Equal_byte_s0 s1 s2 t12) (hd := fun v_ => h57_s0 s1 s2 t12 v_) (sv := fun v_ => t57_s0 s1 s2 t12 v_) (ex := x57_s0 s1 s2 t12) (fun v_ => ?_) N.fuel t13 h1_ h2_
  refine (f57_s0 s1 s2 t12 v_).trans ((N.slices_Equal_byte_s0_bind s1 s2 t12 _ _ _ v_).trans ?_)
  refine congrArg _ (funext fun s_ => ?_)
  rcases s_ with v_ | a | a <;> rfl
noncomputable def B57 : List (DVal E.T) → St E.T → Tree (Res E.T × St E.T) := dbody E (lookS S57) (lookD []) L57 0 false Try.f57
theorem B57_ok : FnOk Try.prog E 57 B57 := bodyC_ok sound mix S57_ok (SD := []) trivial (L := L57) (N := 0) (keep := false) Try.func57 rfl (by
  intro k g hg fr st out ho
  match k, hg with
  | 0, hg => cases hg; exact lp_ok (allLp_cons q57_s0 (allLp_nil)) fr st out ho
  | _ + 1, hg => cases hg)
theorem F57 (s1 : List UInt8) (s2 : List UInt8) : (B57 [.val (.slice (.int .u8)) s1, .val (.slice (.int .u8)) s2] []).get = N.slices_Equal_byte_k N.fuel (fun x_ => some (.ret [.val .bool x_], [])) s1 s2 := by kernel_rfl
noncomputable def i57 : Ins E (Res E.T × St E.T) := ⟨[.v (.slice (.int .u8)), .v (.slice (.int .u8))], [], fun s1 s2 => .opt (N.slices_Equal_byte N.fuel s1 s2) fun x_ => .ret (.ret [.val .bool x_], [])⟩
theorem i57_ok : InsOk Try.prog 57 i57 := ⟨B57, B57_ok, by intro s1 s2 out_ h_; exact ((F57 s1 s2).trans (N.slices_Equal_byte_bind N.fuel _ s1 s2)).trans h_⟩
noncomputable def P57 : Nat × D.Spec E := (57, .pure [(.slice (.int .u8)), (.slice (.int .u8))] (pureF [i57]))
theorem p57 : SpecOk Try.prog E P57.1 P57.2 := pureI_ok Try.call57 ⟨i57_ok, trivial⟩

/-! tenancy/msg.takes[tenancy/api.Ask]$1 -/
noncomputable def S56 : List (Nat × D.Spec E) := []
theorem S56_ok : AllS Try.prog E S56 := trivial
noncomputable def L56 : Nat → LoopInfo E := clL E 18 [] []
noncomputable def B56 : DSpec E := dbodyD E (lookS S56) L56 0 Try.f56
theorem p56 : DSpecOk Try.prog E 56 B56 := dfullD_ok sound mix S56_ok (L := L56) (fun _ => rfl) Try.call56 Try.func56 rfl

/-! tenancy/msg.takes[tenancy/api.Ask] -/
noncomputable def S43 : List (Nat × D.Spec E) := [P15, P44, P57]
theorem S43_ok : AllS Try.prog E S43 := ⟨p15, p44, p57, trivial⟩
noncomputable def D43 : List (Nat × DSpec E) := [(56, B56)]
theorem D43_ok : AllD Try.prog E D43 := ⟨p56, trivial⟩
noncomputable def L43 : Nat → LoopInfo E := clL E 28 [] []
noncomputable def B43 : List (DVal E.T) → St E.T → Tree (Res E.T × St E.T) := tidyF (dbody E (lookS S43) (lookD D43) L43 0 false Try.f43)
theorem B43_ok : FnOk Try.prog E 43 B43 := tidy_fn ok (bodyC_ok sound mix S43_ok (SD := D43) D43_ok (L := L43) (N := 0) (keep := false) Try.func43 rfl (by
  intro k g hg fr st out ho
  match k, hg with
  | _, hg => cases hg))
theorem F43 (b : List UInt8) : (B43 [.val (.slice (.int .u8)) b, .fn 44 [], .fn 15 []] []).get = N.msg_takes_Ask_k N.fuel (fun x_ => some (.ret [.val (.named 1) x_.1, .val .bool x_.2], [])) b := by kernel_rfl
noncomputable def i43 : Ins E (Res E.T × St E.T) := ⟨[.v (.slice (.int .u8)), .fn 44 [], .fn 15 []], [], fun b => .opt (N.msg_takes_Ask N.fuel b) fun x_ => .ret (.ret [.val (.named 1) x_.1, .val .bool x_.2], [])⟩
theorem i43_ok : InsOk Try.prog 43 i43 := ⟨B43, B43_ok, by intro b out_ h_; exact ((F43 b).trans (N.msg_takes_Ask_bind N.fuel _ b)).trans h_⟩
noncomputable def P43 : Nat × D.Spec E := (43, .full [.data (.slice (.int .u8)), .func, .func] false (fullF [i43]))
theorem p43 : SpecOk Try.prog E P43.1 P43.2 := fullI_ok ok Try.call43 ⟨i43_ok, trivial⟩

/-! tenancy/msg.TakeAsk -/
noncomputable def S23 : List (Nat × D.Spec E) := [P43]
theorem S23_ok : AllS Try.prog E S23 := ⟨p43, trivial⟩
noncomputable def L23 : Nat → LoopInfo E := clL E 8 [] []
noncomputable def B23 : List (DVal E.T) → St E.T → Tree (Res E.T × St E.T) := dbody E (lookS S23) (lookD []) L23 0 false Try.f23
theorem B23_ok : FnOk Try.prog E 23 B23 := bodyC_ok sound mix S23_ok (SD := []) trivial (L := L23) (N := 0) (keep := false) Try.func23 rfl (by
  intro k g hg fr st out ho
  match k, hg with
  | _, hg => cases hg)
theorem F23 (b : List UInt8) : (B23 [.val (.slice (.int .u8)) b] []).get = N.msg_TakeAsk_k N.fuel (fun x_ => some (.ret [.val (.named 1) x_.1, .val .bool x_.2], [])) b := by kernel_rfl
noncomputable def i23 : Ins E (Res E.T × St E.T) := ⟨[.v (.slice (.int .u8))], [], fun b => .opt (N.msg_TakeAsk N.fuel b) fun x_ => .ret (.ret [.val (.named 1) x_.1, .val .bool x_.2], [])⟩
theorem i23_ok : InsOk Try.prog 23 i23 := ⟨B23, B23_ok, by intro b out_ h_; exact ((F23 b).trans (N.msg_TakeAsk_bind N.fuel _ b)).trans h_⟩
noncomputable def P23 : Nat × D.Spec E := (23, .pure [(.slice (.int .u8))] (pureF [i23]))
theorem p23 : SpecOk Try.prog E P23.1 P23.2 := pureI_ok Try.call23 ⟨i23_ok, trivial⟩

/-! tenancy/msg.MayTell -/
noncomputable def S19 : List (Nat × D.Spec E) := [P30]
theorem S19_ok : AllS Try.prog E S19 := ⟨p30, trivial⟩
noncomputable def L19 : Nat → LoopInfo E := clL E 81 [] []
noncomputable def B19 : List (DVal E.T) → St E.T → Tree (Res E.T × St E.T) := dbody E (lookS S19) (lookD []) L19 0 false Try.f19
theorem B19_ok : FnOk Try.prog E 19 B19 := bodyC_ok sound mix S19_ok (SD := []) trivial (L := L19) (N := 0) (keep := false) Try.func19 rfl (by
  intro k g hg fr st out ho
  match k, hg with
  | _, hg => cases hg)
theorem F19 (t : N.TTell) : (B19 [.val (.named 2) t] []).get = N.msg_MayTell_k (fun x_ => some (.ret [.val .bool x_], [])) t := by kernel_rfl
noncomputable def i19 : Ins E (Res E.T × St E.T) := ⟨[.v (.named 2)], [], fun t => .ret (.ret [.val .bool (N.msg_MayTell t)], [])⟩
theorem i19_ok : InsOk Try.prog 19 i19 := ⟨B19, B19_ok, by intro t out_ h_; exact ((F19 t).trans (N.msg_MayTell_bind _ t)).trans h_⟩
noncomputable def P19 : Nat × D.Spec E := (19, .pure [(.named 2)] (pureF [i19]))
theorem p19 : SpecOk Try.prog E P19.1 P19.2 := pureI_ok Try.call19 ⟨i19_ok, trivial⟩

/-! tenancy/msg.PutTell -/
noncomputable def S21 : List (Nat × D.Spec E) := [P19, P35, P36, P37]
theorem S21_ok : AllS Try.prog E S21 := ⟨p19, p35, p36, p37, trivial⟩
noncomputable def L21 : Nat → LoopInfo E := clL E 38 [] []
noncomputable def B21 : List (DVal E.T) → St E.T → Tree (Res E.T × St E.T) := dbody E (lookS S21) (lookD []) L21 0 false Try.f21
theorem B21_ok : FnOk Try.prog E 21 B21 := bodyC_ok sound mix S21_ok (SD := []) trivial (L := L21) (N := 0) (keep := false) Try.func21 rfl (by
  intro k g hg fr st out ho
  match k, hg with
  | _, hg => cases hg)
theorem F21 (t : N.TTell) : (B21 [.val (.named 2) t] []).get = N.msg_PutTell_k N.fuel (fun x_ => some (.ret [.val (.slice (.int .u8)) x_], [])) t := by kernel_rfl
noncomputable def i21 : Ins E (Res E.T × St E.T) := ⟨[.v (.named 2)], [], fun t => .opt (N.msg_PutTell N.fuel t) fun x_ => .ret (.ret [.val (.slice (.int .u8)) x_], [])⟩
theorem i21_ok : InsOk Try.prog 21 i21 := ⟨B21, B21_ok, by intro t out_ h_; exact ((F21 t).trans (N.msg_PutTell_bind N.fuel _ t)).trans h_⟩
noncomputable def P21 : Nat × D.Spec E := (21, .pure [(.named 2)] (pureF [i21]))
theorem p21 : SpecOk Try.prog E P21.1 P21.2 := pureI_ok Try.call21 ⟨i21_ok, trivial⟩

/-! (*tenancy/msg.reader).tell -/
noncomputable def S48 : List (Nat × D.Spec E) := [P58, P59]
theorem S48_ok : AllS Try.prog E S48 := ⟨p58, p59, trivial⟩
noncomputable def L48 : Nat → LoopInfo E := clL E 31 [] []
noncomputable def B48 : List (DVal E.T) → St E.T → Tree (Res E.T × St E.T) := tidyF (dbody E (lookS S48) (lookD []) L48 0 false Try.f48)
theorem B48_ok : FnOk Try.prog E 48 B48 := tidy_fn ok (bodyC_ok sound mix S48_ok (SD := []) trivial (L := L48) (N := 0) (keep := false) Try.func48 rfl (by
  intro k g hg fr st out ho
  match k, hg with
  | _, hg => cases hg))
theorem F48 (r : N.Tmsg_reader) : (B48 [.ptr 0 []] [.box false (.val (.named 6) r)]).get = N.msg_reader_tell_k N.fuel (fun x_ => some (.ret [.val (.named 2) x_.1], [.box false (.val (.named 6) x_.2)])) (fun x_ => some (.panic (.ifc 78 (.val (.named 5) N.TNil0.mk)), [.box false (.val (.named 6) x_)])) r := by kernel_rfl
noncomputable def i48 : Ins E (Res E.T × St E.T) := ⟨[.ptr 0 []], [.box false (.v (.named 6))], fun r => .opt (N.msg_reader_tell N.fuel r) fun x_ => altT x_ (fun u0_ => .ret (.ret [.val (.named 2) u0_.1], [.box false (.val (.named 6) u0_.2)])) (fun w0_ => .ret (.panic (.ifc 78 (.val (.named 5) N.TNil0.mk)), [.box false (.val (.named 6) w0_)]))⟩
theorem i48_ok : InsOk Try.prog 48 i48 := ⟨B48, B48_ok, by intro r out_ h_; exact ((F48 r).trans (N.msg_reader_tell_bind N.fuel _ _ r)).trans h_⟩
noncomputable def P48 : Nat × D.Spec E := (48, .full [.ptr] false (fullF [i48]))
theorem p48 : SpecOk Try.prog E P48.1 P48.2 := fullI_ok ok Try.call48 ⟨i48_ok, trivial⟩

/-! tenancy/msg.takes[tenancy/api.Tell]$1 -/
noncomputable def S62 : List (Nat × D.Spec E) := []
theorem S62_ok : AllS Try.prog E S62 := trivial
noncomputable def L62 : Nat → LoopInfo E := clL E 18 [] []
noncomputable def B62 : DSpec E := dbodyD E (lookS S62) L62 0 Try.f62
theorem p62 : DSpecOk Try.prog E 62 B62 := dfullD_ok sound mix S62_ok (L := L62) (fun _ => rfl) Try.call62 Try.func62 rfl

/-! tenancy/msg.takes[tenancy/api.Tell] -/
noncomputable def S47 : List (Nat × D.Spec E) := [P21, P48, P57]
theorem S47_ok : AllS Try.prog E S47 := ⟨p21, p48, p57, trivial⟩
noncomputable def D47 : List (Nat × DSpec E) := [(62, B62)]
theorem D47_ok : AllD Try.prog E D47 := ⟨p62, trivial⟩
noncomputable def L47 : Nat → LoopInfo E := clL E 28 [] []
noncomputable def B47 : List (DVal E.T) → St E.T → Tree (Res E.T × St E.T) := dbody E (lookS S47) (lookD D47) L47 0 false Try.f47
theorem B47_ok : FnOk Try.prog E 47 B47 := bodyC_ok sound mix S47_ok (SD := D47) D47_ok (L := L47) (N := 0) (keep := false) Try.func47 rfl (by
  intro k g hg fr st out ho
  match k, hg with
  | _, hg => cases hg)
theorem F47 (b : List UInt8) : (B47 [.val (.slice (.int .u8)) b, .fn 48 [], .fn 21 []] []).get = N.msg_takes_Tell_k N.fuel (fun x_ => some (.ret [.val (.named 2) x_.1, .val .bool x_.2], [])) b := by kernel_rfl
noncomputable def i47 : Ins E (Res E.T × St E.T) := ⟨[.v (.slice (.int .u8)), .fn 48 [], .fn 21 []], [], fun b => .opt (N.msg_takes_Tell N.fuel b) fun x_ => .ret (.ret [.val (.named 2) x_.1, .val .bool x_.2], [])⟩
theorem i47_ok : InsOk Try.prog 47 i47 := ⟨B47, B47_ok, by intro b out_ h_; exact ((F47 b).trans (N.msg_takes_Tell_bind N.fuel _ b)).trans h_⟩
noncomputable def P47 : Nat × D.Spec E := (47, .full [.data (.slice (.int .u8)), .func, .func] true (fullF [i47]))
theorem p47 : SpecOk Try.prog E P47.1 P47.2 := fullI_ok ok Try.call47 ⟨i47_ok, trivial⟩

/-! tenancy/msg.TakeTell -/
noncomputable def S25 : List (Nat × D.Spec E) := [P47]
theorem S25_ok : AllS Try.prog E S25 := ⟨p47, trivial⟩
noncomputable def L25 : Nat → LoopInfo E := clL E 8 [] []
noncomputable def B25 : List (DVal E.T) → St E.T → Tree (Res E.T × St E.T) := dbody E (lookS S25) (lookD []) L25 0 false Try.f25
theorem B25_ok : FnOk Try.prog E 25 B25 := bodyC_ok sound mix S25_ok (SD := []) trivial (L := L25) (N := 0) (keep := false) Try.func25 rfl (by
  intro k g hg fr st out ho
  match k, hg with
  | _, hg => cases hg)
theorem F25 (b : List UInt8) : (B25 [.val (.slice (.int .u8)) b] []).get = N.msg_TakeTell_k N.fuel (fun x_ => some (.ret [.val (.named 2) x_.1, .val .bool x_.2], [])) b := by kernel_rfl
noncomputable def i25 : Ins E (Res E.T × St E.T) := ⟨[.v (.slice (.int .u8))], [], fun b => .opt (N.msg_TakeTell N.fuel b) fun x_ => .ret (.ret [.val (.named 2) x_.1, .val .bool x_.2], [])⟩
theorem i25_ok : InsOk Try.prog 25 i25 := ⟨B25, B25_ok, by intro b out_ h_; exact ((F25 b).trans (N.msg_TakeTell_bind N.fuel _ b)).trans h_⟩
noncomputable def P25 : Nat × D.Spec E := (25, .pure [(.slice (.int .u8))] (pureF [i25]))
theorem p25 : SpecOk Try.prog E P25.1 P25.2 := pureI_ok Try.call25 ⟨i25_ok, trivial⟩

/-! tenancy/tenancylaw16.begun -/
noncomputable def S8 : List (Nat × D.Spec E) := [P13, P15, P17, P19, P21, P23, P25]
theorem S8_ok : AllS Try.prog E S8 := ⟨p13, p15, p17, p19, p21, p23, p25, trivial⟩
noncomputable def L8 : Nat → LoopInfo E := clL E 73 [] []
noncomputable def B8 : List (DVal E.T) → St E.T → Tree (Res E.T × St E.T) := dbody E (lookS S8) (lookD []) L8 0 false Try.f8
theorem B8_ok : FnOk Try.prog E 8 B8 := bodyC_ok sound mix S8_ok (SD := []) trivial (L := L8) (N := 0) (keep := false) Try.func8 rfl (by
  intro k g hg fr st out ho
  match k, hg with
  | _, hg => cases hg)
theorem F8 : (B8 [] []).get = N.law16_begun_k N.fuel (fun x_ => some (.ret [.val .bool x_], [])) := by kernel_rfl
noncomputable def i8 : Ins E (Res E.T × St E.T) := ⟨[], [], .opt (N.law16_begun N.fuel) fun x_ => .ret (.ret [.val .bool x_], [])⟩
theorem i8_ok : InsOk Try.prog 8 i8 := ⟨B8, B8_ok, by intro out_ h_; exact ((F8).trans (N.law16_begun_bind N.fuel _)).trans h_⟩
noncomputable def P8 : Nat × D.Spec E := (8, .pure [] (pureF [i8]))
theorem p8 : SpecOk Try.prog E P8.1 P8.2 := pureI_ok Try.call8 ⟨i8_ok, trivial⟩

/-! tenancy/tenancylaw16.Light -/
noncomputable def S9 : List (Nat × D.Spec E) := []
theorem S9_ok : AllS Try.prog E S9 := trivial
abbrev h9_s0 (a : N.TAsk) (i : Int) : Fr E.T := ofSlots E 29 [] [1, 3] [.ptr 0 [], .val (.int .i64) i]
abbrev t9_s0 (a : N.TAsk) (i : Int) : St E.T := [.box false (.val (.named 1) a)]
def x9_s0 (a : N.TAsk) (x_ : Unit ⊕ Unit) : Tree (CodeOut E) := altT x_ (fun u0_ => .ret (.ret, ofSlots E 29 [] [1, 2] [.ptr 0 [], .val .bool false], [.box false (.val (.named 1) a)])) (fun w0_ => .ret (.exit 0, ofSlots E 29 [] [1, 2] [.ptr 0 [], .undef], [.box false (.val (.named 1) a)]))
noncomputable def g9_s0 : Ins E (CodeOut E) := ⟨[.ptr 0 [], .v (.int .i64)], [.box false (.v (.named 1))], fun i a => .opt (N.law16_Light_l0 N.fuel a i) (x9_s0 a)⟩
noncomputable def L9 : Nat → LoopInfo E := clL E 29 [{ ks := [1, 3], mvs := [], pro := [], d := [], g := some (insF [g9_s0]) }] []
theorem f9_s0 (a : N.TAsk) (i : Int) : ((stepOf E S9 L9 0 0 Try.f9 (h9_s0 a i) (t9_s0 a i)).bind (nx E [1, 3] [] [1, 2] 1)).get = N.law16_Light_s0k a (fun v_ => some (.inl (h9_s0 a v_, t9_s0 a v_))) (fun x_ => some (.inr (.ret, ofSlots E 29 [] [1, 2] [.ptr 0 [], .val .bool false], [.box false (.val (.named 1) a)]))) (fun x_ => some (.inr (.exit 0, ofSlots E 29 [] [1, 2] [.ptr 0 [], .undef], [.box false (.val (.named 1) a)]))) i := by kernel_rfl
theorem q9_s0 : InsLp 29 [1, 3] [] [] (stepOf E S9 L9 0 0 Try.f9) g9_s0 := by
  intro i a out_ ho_
  obtain ⟨x_, h1_, h2_⟩ := Option.bind_eq_some_iff.1 ho_
  refine iter_loop (rs := [1, 2]) (step := N.law16_Light_s0 a) (hd := fun v_ => h9_s0 a v_) (sv := fun v_ => t9_s0 a v_) (ex := x9_s0 a) (fun v_ => ?_) N.fuel i h1_ h2_
  refine (f9_s0 a v_).trans ((N.law16_Light_s0_bind a _ _ _ v_).trans ?_)
  refine congrArg _ (funext fun s_ => ?_)
  rcases s_ with v_ | a | a <;> rfl
noncomputable def B9 : List (DVal E.T) → St E.T → Tree (Res E.T × St E.T) := dbody E (lookS S9) (lookD []) L9 0 false Try.f9
theorem B9_ok : FnOk Try.prog E 9 B9 := bodyC_ok sound mix S9_ok (SD := []) trivial (L := L9) (N := 0) (keep := false) Try.func9 rfl (by
  intro k g hg fr st out ho
  match k, hg with
  | 0, hg => cases hg; exact lp_ok (allLp_cons q9_s0 (allLp_nil)) fr st out ho
  | _ + 1, hg => cases hg)
theorem F9 (a : N.TAsk) : (B9 [.val (.named 1) a] []).get = N.law16_Light_k N.fuel (fun x_ => some (.ret [.val .bool x_], [])) a := by kernel_rfl
noncomputable def i9 : Ins E (Res E.T × St E.T) := ⟨[.v (.named 1)], [], fun a => .opt (N.law16_Light N.fuel a) fun x_ => .ret (.ret [.val .bool x_], [])⟩
theorem i9_ok : InsOk Try.prog 9 i9 := ⟨B9, B9_ok, by intro a out_ h_; exact ((F9 a).trans (N.law16_Light_bind N.fuel _ a)).trans h_⟩
noncomputable def P9 : Nat × D.Spec E := (9, .pure [(.named 1)] (pureF [i9]))
theorem p9 : SpecOk Try.prog E P9.1 P9.2 := pureI_ok Try.call9 ⟨i9_ok, trivial⟩

/-! tenancy/tenancymade.Made -/
noncomputable def S10 : List (Nat × D.Spec E) := []
theorem S10_ok : AllS Try.prog E S10 := trivial
noncomputable def L10 : Nat → LoopInfo E := clL E 6 [] []
noncomputable def B10 : List (DVal E.T) → St E.T → Tree (Res E.T × St E.T) := tidyF (dbody E (lookS S10) (lookD []) L10 0 true Try.f10)
theorem B10_ok : FnOk Try.prog E 10 B10 := tidy_fn ok (bodyC_ok sound mix S10_ok (SD := []) trivial (L := L10) (N := 0) (keep := true) Try.func10 rfl (by
  intro k g hg fr st out ho
  match k, hg with
  | _, hg => cases hg))
theorem F10 (l : List UInt8) : (B10 [.val (.slice (.int .u8)) l] []).get = N.made_Made_k (fun x_ => some (.ret [.ptr 0 []], [.box false (.val (.named 3) x_)])) l := by kernel_rfl
noncomputable def i10 : Ins E (Res E.T × St E.T) := ⟨[.v (.slice (.int .u8))], [], fun l => .ret (.ret [.ptr 0 []], [.box false (.val (.named 3) (N.made_Made l))])⟩
theorem i10_ok : InsOk Try.prog 10 i10 := ⟨B10, B10_ok, by intro l out_ h_; exact ((F10 l).trans (N.made_Made_bind _ l)).trans h_⟩
noncomputable def P10 : Nat × D.Spec E := (10, .full [.data (.slice (.int .u8))] false (fullF [i10]))
theorem p10 : SpecOk Try.prog E P10.1 P10.2 := fullI_ok ok Try.call10 ⟨i10_ok, trivial⟩

/-! (*tenancy/tenancymade.Picks).Num -/
noncomputable def S27 : List (Nat × D.Spec E) := []
theorem S27_ok : AllS Try.prog E S27 := trivial
noncomputable def L27 : Nat → LoopInfo E := clL E 40 [] []
noncomputable def B27 : List (DVal E.T) → St E.T → Tree (Res E.T × St E.T) := tidyF (dbody E (lookS S27) (lookD []) L27 0 false Try.f27)
theorem B27_ok : FnOk Try.prog E 27 B27 := tidy_fn ok (bodyC_ok sound mix S27_ok (SD := []) trivial (L := L27) (N := 0) (keep := false) Try.func27 rfl (by
  intro k g hg fr st out ho
  match k, hg with
  | _, hg => cases hg))
theorem F27 (m : Int) (p : N.Ttenancymade_Picks) : (B27 [.ptr 0 [], .val (.int .i64) m] [.box false (.val (.named 3) p)]).get = N.made_Picks_Num_k (fun x_ => some (.ret [.val (.int .i64) x_.1], [.box false (.val (.named 3) x_.2)])) m p := by kernel_rfl
noncomputable def i27 : Ins E (Res E.T × St E.T) := ⟨[.ptr 0 [], .v (.int .i64)], [.box false (.v (.named 3))], fun m p => .opt (N.made_Picks_Num m p) fun x_ => .ret (.ret [.val (.int .i64) x_.1], [.box false (.val (.named 3) x_.2)])⟩
theorem i27_ok : InsOk Try.prog 27 i27 := ⟨B27, B27_ok, by intro m p out_ h_; exact ((F27 m p).trans (N.made_Picks_Num_bind _ m p)).trans h_⟩
noncomputable def P27 : Nat × D.Spec E := (27, .full [.ptr, .data (.int .i64)] false (fullF [i27]))
theorem p27 : SpecOk Try.prog E P27.1 P27.2 := fullI_ok ok Try.call27 ⟨i27_ok, trivial⟩

/-! (*tenancy/tenancymade.Picks).Write -/
noncomputable def S29 : List (Nat × D.Spec E) := [P27]
theorem S29_ok : AllS Try.prog E S29 := ⟨p27, trivial⟩
noncomputable def L29 : Nat → LoopInfo E := clL E 11 [] []
noncomputable def B29 : List (DVal E.T) → St E.T → Tree (Res E.T × St E.T) := tidyF (dbody E (lookS S29) (lookD []) L29 0 false Try.f29)
theorem B29_ok : FnOk Try.prog E 29 B29 := tidy_fn ok (bodyC_ok sound mix S29_ok (SD := []) trivial (L := L29) (N := 0) (keep := false) Try.func29 rfl (by
  intro k g hg fr st out ho
  match k, hg with
  | _, hg => cases hg))
theorem F29 (p : N.Ttenancymade_Picks) : (B29 [.ptr 0 []] [.box false (.val (.named 3) p)]).get = N.made_Picks_Write_k (fun x_ => some (.ret [.val (.named 0) x_.1], [.box false (.val (.named 3) x_.2)])) p := by kernel_rfl
noncomputable def i29 : Ins E (Res E.T × St E.T) := ⟨[.ptr 0 []], [.box false (.v (.named 3))], fun p => .opt (N.made_Picks_Write p) fun x_ => .ret (.ret [.val (.named 0) x_.1], [.box false (.val (.named 3) x_.2)])⟩
theorem i29_ok : InsOk Try.prog 29 i29 := ⟨B29, B29_ok, by intro p out_ h_; exact ((F29 p).trans (N.made_Picks_Write_bind _ p)).trans h_⟩
noncomputable def P29 : Nat × D.Spec E := (29, .full [.ptr] false (fullF [i29]))
theorem p29 : SpecOk Try.prog E P29.1 P29.2 := fullI_ok ok Try.call29 ⟨i29_ok, trivial⟩

/-! (*tenancy/tenancymade.Picks).Writes -/
noncomputable def S28 : List (Nat × D.Spec E) := [P27, P29]
theorem S28_ok : AllS Try.prog E S28 := ⟨p27, p29, trivial⟩
abbrev h28_s0 (i : Int) (p : N.Ttenancymade_Picks) (l : List N.TWrite) : Fr E.T := ofSlots E 21 [] [0, 5, 6] [.ptr 0 [], .own 1, .val (.int .i64) i]
abbrev t28_s0 (i : Int) (p : N.Ttenancymade_Picks) (l : List N.TWrite) : St E.T := [.box false (.val (.named 3) p), .arr .live (.named 0) l]
def x28_s0 (x_ : N.Ttenancymade_Picks × List N.TWrite) : Tree (CodeOut E) := .ret (.exit 0, ofSlots E 21 [] [4, 5] [.undef, .own 1], [.box false (.val (.named 3) x_.1), .arr .live (.named 0) x_.2])
noncomputable def g28_s0 : Ins E (CodeOut E) := ⟨[.ptr 0 [], .own 1, .v (.int .i64)], [.box false (.v (.named 3)), .arr .live (.named 0)], fun i p l => .opt (N.made_Picks_Writes_l0 N.fuel i p l) (x28_s0)⟩
noncomputable def L28 : Nat → LoopInfo E := clL E 21 [{ ks := [0, 5, 6], mvs := [], pro := [.pro (.slot 5) [] (.named 0)], d := [], g := some (insF [g28_s0]) }] []
theorem f28_s0 (i : Int) (p : N.Ttenancymade_Picks) (l : List N.TWrite) : ((stepOf E S28 L28 0 0 Try.f28 (h28_s0 i p l) (t28_s0 i p l)).bind (nx E [0, 5, 6] [] [4, 5] 2)).get = N.made_Picks_Writes_s0k (fun v_ => some (.inl (h28_s0 v_.1 v_.2.1 v_.2.2, t28_s0 v_.1 v_.2.1 v_.2.2))) (fun x_ => some (.inr (.exit 0, ofSlots E 21 [] [4, 5] [.undef, .own 1], [.box false (.val (.named 3) x_.1), .arr .live (.named 0) x_.2]))) i p l := by kernel_rfl
theorem q28_s0 : InsLp 21 [0, 5, 6] [] [] (stepOf E S28 L28 0 0 Try.f28) g28_s0 := by
  intro i p l out_ ho_
  obtain ⟨x_, h1_, h2_⟩ := Option.bind_eq_some_iff.1 ho_
  refine iter_loop (rs := [4, 5]) (step := N.made_Picks_Writes_s0) (hd := fun v_ => h28_s0 v_.1 v_.2.1 v_.2.2) (sv := fun v_ => t28_s0 v_.1 v_.2.1 v_.2.2) (ex := x28_s0) (fun v_ => ?_) N.fuel (i, p, l) h1_ h2_
  refine (f28_s0 v_.1 v_.2.1 v_.2.2).trans ((N.made_Picks_Writes_s0_bind _ _ v_.1 v_.2.1 v_.2.2).trans ?_)
  refine congrArg _ (funext fun s_ => ?_)
  rcases s_ with v_ | a <;> rfl
noncomputable def B28 : List (DVal E.T) → St E.T → Tree (Res E.T × St E.T) := tidyF (dbody E (lookS S28) (lookD []) L28 0 true Try.f28)
theorem B28_ok : FnOk Try.prog E 28 B28 := tidy_fn ok (bodyC_ok sound mix S28_ok (SD := []) trivial (L := L28) (N := 0) (keep := true) Try.func28 rfl (by
  intro k g hg fr st out ho
  match k, hg with
  | 0, hg => cases hg; exact lp_ok (allLp_cons q28_s0 (allLp_nil)) fr st out ho
  | _ + 1, hg => cases hg))
theorem F28 (most : Int) (p : N.Ttenancymade_Picks) : (B28 [.ptr 0 [], .val (.int .i64) most] [.box false (.val (.named 3) p)]).get = N.made_Picks_Writes_k N.fuel (fun x_ => some (.ret [.own 1], [.box false (.val (.named 3) x_.1), .arr .live (.named 0) x_.2])) most p := by kernel_rfl
noncomputable def i28 : Ins E (Res E.T × St E.T) := ⟨[.ptr 0 [], .v (.int .i64)], [.box false (.v (.named 3))], fun most p => .opt (N.made_Picks_Writes N.fuel most p) fun x_ => .ret (.ret [.own 1], [.box false (.val (.named 3) x_.1), .arr .live (.named 0) x_.2])⟩
theorem i28_ok : InsOk Try.prog 28 i28 := ⟨B28, B28_ok, by intro most p out_ h_; exact ((F28 most p).trans (N.made_Picks_Writes_bind N.fuel _ most p)).trans h_⟩
noncomputable def P28 : Nat × D.Spec E := (28, .full [.ptr, .data (.int .i64)] false (fullF [i28]))
theorem p28 : SpecOk Try.prog E P28.1 P28.2 := fullI_ok ok Try.call28 ⟨i28_ok, trivial⟩

/-! (*tenancy/tenancymade.Picks).Ask -/
noncomputable def S11 : List (Nat × D.Spec E) := [P27, P28, P29]
theorem S11_ok : AllS Try.prog E S11 := ⟨p27, p28, p29, trivial⟩
noncomputable def L11 : Nat → LoopInfo E := clL E 52 [] []
noncomputable def B11 : List (DVal E.T) → St E.T → Tree (Res E.T × St E.T) := tidyF (dbody E (lookS S11) (lookD []) L11 0 false Try.f11)
theorem B11_ok : FnOk Try.prog E 11 B11 := tidy_fn ok (bodyC_ok sound mix S11_ok (SD := []) trivial (L := L11) (N := 0) (keep := false) Try.func11 rfl (by
  intro k g hg fr st out ho
  match k, hg with
  | _, hg => cases hg))
theorem F11 (p : N.Ttenancymade_Picks) : (B11 [.ptr 0 []] [.box false (.val (.named 3) p)]).get = N.made_Picks_Ask_k N.fuel (fun x_ => some (.ret [.val (.named 1) x_.1], [.box false (.val (.named 3) x_.2)])) p := by kernel_rfl
noncomputable def i11 : Ins E (Res E.T × St E.T) := ⟨[.ptr 0 []], [.box false (.v (.named 3))], fun p => .opt (N.made_Picks_Ask N.fuel p) fun x_ => .ret (.ret [.val (.named 1) x_.1], [.box false (.val (.named 3) x_.2)])⟩
theorem i11_ok : InsOk Try.prog 11 i11 := ⟨B11, B11_ok, by intro p out_ h_; exact ((F11 p).trans (N.made_Picks_Ask_bind N.fuel _ p)).trans h_⟩
noncomputable def P11 : Nat × D.Spec E := (11, .full [.ptr] false (fullF [i11]))
theorem p11 : SpecOk Try.prog E P11.1 P11.2 := fullI_ok ok Try.call11 ⟨i11_ok, trivial⟩

/-! (*tenancy/tenancymade.Picks).Tell -/
noncomputable def S12 : List (Nat × D.Spec E) := [P27]
theorem S12_ok : AllS Try.prog E S12 := ⟨p27, trivial⟩
noncomputable def L12 : Nat → LoopInfo E := clL E 46 [] []
noncomputable def B12 : List (DVal E.T) → St E.T → Tree (Res E.T × St E.T) := tidyF (dbody E (lookS S12) (lookD []) L12 0 false Try.f12)
theorem B12_ok : FnOk Try.prog E 12 B12 := tidy_fn ok (bodyC_ok sound mix S12_ok (SD := []) trivial (L := L12) (N := 0) (keep := false) Try.func12 rfl (by
  intro k g hg fr st out ho
  match k, hg with
  | _, hg => cases hg))
theorem F12 (p : N.Ttenancymade_Picks) : (B12 [.ptr 0 []] [.box false (.val (.named 3) p)]).get = N.made_Picks_Tell_k (fun x_ => some (.ret [.val (.named 2) x_.1], [.box false (.val (.named 3) x_.2)])) p := by kernel_rfl
noncomputable def i12 : Ins E (Res E.T × St E.T) := ⟨[.ptr 0 []], [.box false (.v (.named 3))], fun p => .opt (N.made_Picks_Tell p) fun x_ => .ret (.ret [.val (.named 2) x_.1], [.box false (.val (.named 3) x_.2)])⟩
theorem i12_ok : InsOk Try.prog 12 i12 := ⟨B12, B12_ok, by intro p out_ h_; exact ((F12 p).trans (N.made_Picks_Tell_bind _ p)).trans h_⟩
noncomputable def P12 : Nat × D.Spec E := (12, .full [.ptr] false (fullF [i12]))
theorem p12 : SpecOk Try.prog E P12.1 P12.2 := fullI_ok ok Try.call12 ⟨i12_ok, trivial⟩

/-! tenancy/tenancyref13.num -/
noncomputable def S32 : List (Nat × D.Spec E) := []
theorem S32_ok : AllS Try.prog E S32 := trivial
noncomputable def L32 : Nat → LoopInfo E := clL E 12 [] []
noncomputable def B32 : List (DVal E.T) → St E.T → Tree (Res E.T × St E.T) := dbody E (lookS S32) (lookD []) L32 0 false Try.f32
theorem B32_ok : FnOk Try.prog E 32 B32 := bodyC_ok sound mix S32_ok (SD := []) trivial (L := L32) (N := 0) (keep := false) Try.func32 rfl (by
  intro k g hg fr st out ho
  match k, hg with
  | _, hg => cases hg)
theorem F32 (n : Int) (least : Int) : (B32 [.val (.int .i64) n, .val (.int .i64) least] []).get = N.ref13_num_k (fun x_ => some (.ret [.val .bool x_], [])) n least := by kernel_rfl
noncomputable def i32 : Ins E (Res E.T × St E.T) := ⟨[.v (.int .i64), .v (.int .i64)], [], fun n least => .ret (.ret [.val .bool (N.ref13_num n least)], [])⟩
theorem i32_ok : InsOk Try.prog 32 i32 := ⟨B32, B32_ok, by intro n least out_ h_; exact ((F32 n least).trans (N.ref13_num_bind _ n least)).trans h_⟩
noncomputable def P32 : Nat × D.Spec E := (32, .pure [(.int .i64), (.int .i64)] (pureF [i32]))
theorem p32 : SpecOk Try.prog E P32.1 P32.2 := pureI_ok Try.call32 ⟨i32_ok, trivial⟩

/-! tenancy/tenancyref7.MayName -/
noncomputable def S33 : List (Nat × D.Spec E) := []
theorem S33_ok : AllS Try.prog E S33 := trivial
abbrev h33_s0 (s : List UInt8) (i : Int) : Fr E.T := ofSlots E 28 [] [0, 3] [.val .str s, .val (.int .i64) i]
abbrev t33_s0 (s : List UInt8) (i : Int) : St E.T := []
def x33_s0 (s : List UInt8) (x_ : Unit ⊕ Unit) : Tree (CodeOut E) := altT x_ (fun u0_ => .ret (.ret, ofSlots E 28 [] [0, 2] [.val .str s, .val .bool false], [])) (fun w0_ => .ret (.exit 0, ofSlots E 28 [] [0, 2] [.val .str s, .undef], []))
noncomputable def g33_s0 : Ins E (CodeOut E) := ⟨[.v .str, .v (.int .i64)], [], fun s i => .opt (N.ref7_MayName_l0 N.fuel s i) (x33_s0 s)⟩
noncomputable def L33 : Nat → LoopInfo E := clL E 28 [{ ks := [0, 3], mvs := [], pro := [], d := [], g := some (insF [g33_s0]) }] []
theorem f33_s0 (s : List UInt8) (i : Int) : ((stepOf E S33 L33 0 0 Try.f33 (h33_s0 s i) (t33_s0 s i)).bind (nx E [0, 3] [] [0, 2] 0)).get = N.ref7_MayName_s0k s (fun v_ => some (.inl (h33_s0 s v_, t33_s0 s v_))) (fun x_ => some (.inr (.ret, ofSlots E 28 [] [0, 2] [.val .str s, .val .bool false], []))) (fun x_ => some (.inr (.exit 0, ofSlots E 28 [] [0, 2] [.val .str s, .undef], []))) i := by kernel_rfl
theorem q33_s0 : InsLp 28 [0, 3] [] [] (stepOf E S33 L33 0 0 Try.f33) g33_s0 := by
  intro s i out_ ho_
  obtain ⟨x_, h1_, h2_⟩ := Option.bind_eq_some_iff.1 ho_
  refine iter_loop (rs := [0, 2]) (step := N.ref7_MayName_s0 s) (hd := fun v_ => h33_s0 s v_) (sv := fun v_ => t33_s0 s v_) (ex := x33_s0 s) (fun v_ => ?_) N.fuel i h1_ h2_
  refine (f33_s0 s v_).trans ((N.ref7_MayName_s0_bind s _ _ _ v_).trans ?_)
  refine congrArg _ (funext fun s_ => ?_)
  rcases s_ with v_ | a | a <;> rfl
noncomputable def B33 : List (DVal E.T) → St E.T → Tree (Res E.T × St E.T) := dbody E (lookS S33) (lookD []) L33 0 false Try.f33
theorem B33_ok : FnOk Try.prog E 33 B33 := bodyC_ok sound mix S33_ok (SD := []) trivial (L := L33) (N := 0) (keep := false) Try.func33 rfl (by
  intro k g hg fr st out ho
  match k, hg with
  | 0, hg => cases hg; exact lp_ok (allLp_cons q33_s0 (allLp_nil)) fr st out ho
  | _ + 1, hg => cases hg)
theorem F33 (s : List UInt8) : (B33 [.val .str s] []).get = N.ref7_MayName_k N.fuel (fun x_ => some (.ret [.val .bool x_], [])) s := by kernel_rfl
noncomputable def i33 : Ins E (Res E.T × St E.T) := ⟨[.v .str], [], fun s => .opt (N.ref7_MayName N.fuel s) fun x_ => .ret (.ret [.val .bool x_], [])⟩
theorem i33_ok : InsOk Try.prog 33 i33 := ⟨B33, B33_ok, by intro s out_ h_; exact ((F33 s).trans (N.ref7_MayName_bind N.fuel _ s)).trans h_⟩
noncomputable def P33 : Nat × D.Spec E := (33, .pure [.str] (pureF [i33]))
theorem p33 : SpecOk Try.prog E P33.1 P33.2 := pureI_ok Try.call33 ⟨i33_ok, trivial⟩

/-! tenancy/tenancyref7.SameWrites -/
noncomputable def S42 : List (Nat × D.Spec E) := []
theorem S42_ok : AllS Try.prog E S42 := trivial
abbrev h42_s0 (a : List N.TWrite) (b : List N.TWrite) (i : Int) : Fr E.T := ofSlots E 26 [] [0, 1, 5] [.val (.slice (.named 0)) a, .val (.slice (.named 0)) b, .val (.int .i64) i]
abbrev t42_s0 (a : List N.TWrite) (b : List N.TWrite) (i : Int) : St E.T := []
def x42_s0 (a : List N.TWrite) (b : List N.TWrite) (x_ : Unit ⊕ Unit) : Tree (CodeOut E) := altT x_ (fun u0_ => .ret (.ret, ofSlots E 26 [] [4] [.val .bool false], [])) (fun w0_ => .ret (.exit 0, ofSlots E 26 [] [4] [.undef], []))
noncomputable def g42_s0 : Ins E (CodeOut E) := ⟨[.v (.slice (.named 0)), .v (.slice (.named 0)), .v (.int .i64)], [], fun a b i => .opt (N.ref7_SameWrites_l0 N.fuel a b i) (x42_s0 a b)⟩
noncomputable def L42 : Nat → LoopInfo E := clL E 26 [{ ks := [0, 1, 5], mvs := [], pro := [], d := [], g := some (insF [g42_s0]) }] []
theorem f42_s0 (a : List N.TWrite) (b : List N.TWrite) (i : Int) : ((stepOf E S42 L42 0 0 Try.f42 (h42_s0 a b i) (t42_s0 a b i)).bind (nx E [0, 1, 5] [] [4] 0)).get = N.ref7_SameWrites_s0k a b (fun v_ => some (.inl (h42_s0 a b v_, t42_s0 a b v_))) (fun x_ => some (.inr (.ret, ofSlots E 26 [] [4] [.val .bool false], []))) (fun x_ => some (.inr (.exit 0, ofSlots E 26 [] [4] [.undef], []))) i := by kernel_rfl
theorem q42_s0 : InsLp 26 [0, 1, 5] [] [] (stepOf E S42 L42 0 0 Try.f42) g42_s0 := by
  intro a b i out_ ho_
  obtain ⟨x_, h1_, h2_⟩ := Option.bind_eq_some_iff.1 ho_
  refine iter_loop (rs := [4]) (step := N.ref7_SameWrites_s0 a b) (hd := fun v_ => h42_s0 a b v_) (sv := fun v_ => t42_s0 a b v_) (ex := x42_s0 a b) (fun v_ => ?_) N.fuel i h1_ h2_
  refine (f42_s0 a b v_).trans ((N.ref7_SameWrites_s0_bind a b _ _ _ v_).trans ?_)
  refine congrArg _ (funext fun s_ => ?_)
  rcases s_ with v_ | a | a <;> rfl
noncomputable def B42 : List (DVal E.T) → St E.T → Tree (Res E.T × St E.T) := dbody E (lookS S42) (lookD []) L42 0 false Try.f42
theorem B42_ok : FnOk Try.prog E 42 B42 := bodyC_ok sound mix S42_ok (SD := []) trivial (L := L42) (N := 0) (keep := false) Try.func42 rfl (by
  intro k g hg fr st out ho
  match k, hg with
  | 0, hg => cases hg; exact lp_ok (allLp_cons q42_s0 (allLp_nil)) fr st out ho
  | _ + 1, hg => cases hg)
theorem F42 (a : List N.TWrite) (b : List N.TWrite) : (B42 [.val (.slice (.named 0)) a, .val (.slice (.named 0)) b] []).get = N.ref7_SameWrites_k N.fuel (fun x_ => some (.ret [.val .bool x_], [])) a b := by kernel_rfl
noncomputable def i42 : Ins E (Res E.T × St E.T) := ⟨[.v (.slice (.named 0)), .v (.slice (.named 0))], [], fun a b => .opt (N.ref7_SameWrites N.fuel a b) fun x_ => .ret (.ret [.val .bool x_], [])⟩
theorem i42_ok : InsOk Try.prog 42 i42 := ⟨B42, B42_ok, by intro a b out_ h_; exact ((F42 a b).trans (N.ref7_SameWrites_bind N.fuel _ a b)).trans h_⟩
noncomputable def P42 : Nat × D.Spec E := (42, .pure [(.slice (.named 0)), (.slice (.named 0))] (pureF [i42]))
theorem p42 : SpecOk Try.prog E P42.1 P42.2 := pureI_ok Try.call42 ⟨i42_ok, trivial⟩

/-! tenancy/tenancyref13.SameAsk -/
noncomputable def S18 : List (Nat × D.Spec E) := [P42]
theorem S18_ok : AllS Try.prog E S18 := ⟨p42, trivial⟩
noncomputable def L18 : Nat → LoopInfo E := clL E 59 [] []
noncomputable def B18 : List (DVal E.T) → St E.T → Tree (Res E.T × St E.T) := dbody E (lookS S18) (lookD []) L18 0 false Try.f18
theorem B18_ok : FnOk Try.prog E 18 B18 := bodyC_ok sound mix S18_ok (SD := []) trivial (L := L18) (N := 0) (keep := false) Try.func18 rfl (by
  intro k g hg fr st out ho
  match k, hg with
  | _, hg => cases hg)
theorem F18 (a : N.TAsk) (b : N.TAsk) : (B18 [.val (.named 1) a, .val (.named 1) b] []).get = N.ref13_SameAsk_k N.fuel (fun x_ => some (.ret [.val .bool x_], [])) a b := by kernel_rfl
noncomputable def i18 : Ins E (Res E.T × St E.T) := ⟨[.v (.named 1), .v (.named 1)], [], fun a b => .opt (N.ref13_SameAsk N.fuel a b) fun x_ => .ret (.ret [.val .bool x_], [])⟩
theorem i18_ok : InsOk Try.prog 18 i18 := ⟨B18, B18_ok, by intro a b out_ h_; exact ((F18 a b).trans (N.ref13_SameAsk_bind N.fuel _ a b)).trans h_⟩
noncomputable def P18 : Nat × D.Spec E := (18, .pure [(.named 1), (.named 1)] (pureF [i18]))
theorem p18 : SpecOk Try.prog E P18.1 P18.2 := pureI_ok Try.call18 ⟨i18_ok, trivial⟩

/-! tenancy/tenancyref7.MayWrite -/
noncomputable def S34 : List (Nat × D.Spec E) := []
theorem S34_ok : AllS Try.prog E S34 := trivial
noncomputable def L34 : Nat → LoopInfo E := clL E 26 [] []
noncomputable def B34 : List (DVal E.T) → St E.T → Tree (Res E.T × St E.T) := dbody E (lookS S34) (lookD []) L34 0 false Try.f34
theorem B34_ok : FnOk Try.prog E 34 B34 := bodyC_ok sound mix S34_ok (SD := []) trivial (L := L34) (N := 0) (keep := false) Try.func34 rfl (by
  intro k g hg fr st out ho
  match k, hg with
  | _, hg => cases hg)
theorem F34 (w : N.TWrite) : (B34 [.val (.named 0) w] []).get = N.ref7_MayWrite_k (fun x_ => some (.ret [.val .bool x_], [])) w := by kernel_rfl
noncomputable def i34 : Ins E (Res E.T × St E.T) := ⟨[.v (.named 0)], [], fun w => .ret (.ret [.val .bool (N.ref7_MayWrite w)], [])⟩
theorem i34_ok : InsOk Try.prog 34 i34 := ⟨B34, B34_ok, by intro w out_ h_; exact ((F34 w).trans (N.ref7_MayWrite_bind _ w)).trans h_⟩
noncomputable def P34 : Nat × D.Spec E := (34, .pure [(.named 0)] (pureF [i34]))
theorem p34 : SpecOk Try.prog E P34.1 P34.2 := pureI_ok Try.call34 ⟨i34_ok, trivial⟩

/-! tenancy/tenancyref13.MayAsk -/
noncomputable def S14 : List (Nat × D.Spec E) := [P18, P32, P33, P34]
theorem S14_ok : AllS Try.prog E S14 := ⟨p18, p32, p33, p34, trivial⟩
abbrev h14_s0 (a : N.TAsk) (x : N.TAsk) (ok : Bool) (i : Int) : Fr E.T := ofSlots E 134 [] [1, 3, 4, 5] [.ptr 0 [], .ptr 1 [], .val .bool ok, .val (.int .i64) i]
abbrev t14_s0 (a : N.TAsk) (x : N.TAsk) (ok : Bool) (i : Int) : St E.T := [.box false (.val (.named 1) a), .box false (.val (.named 1) x)]
def x14_s0 (a : N.TAsk) (x : N.TAsk) (x_ : Bool) : Tree (CodeOut E) := .ret (.exit 1, ofSlots E 134 [] [1, 2, 3, 4] [.ptr 0 [], .undef, .ptr 1 [], .val .bool x_], [.box false (.val (.named 1) a), .box false (.val (.named 1) x)])
noncomputable def g14_s0 : Ins E (CodeOut E) := ⟨[.ptr 0 [], .ptr 1 [], .v .bool, .v (.int .i64)], [.box false (.v (.named 1)), .box false (.v (.named 1))], fun ok i a x => .opt (N.ref13_MayAsk_l0 N.fuel a x ok i) (x14_s0 a x)⟩
noncomputable def L14 : Nat → LoopInfo E := clL E 134 [{ ks := [1, 3, 4, 5], mvs := [], pro := [], d := [], g := some (insF [g14_s0]) }] []
theorem f14_s0 (a : N.TAsk) (x : N.TAsk) (ok : Bool) (i : Int) : ((stepOf E S14 L14 0 0 Try.f14 (h14_s0 a x ok i) (t14_s0 a x ok i)).bind (nx E [1, 3, 4, 5] [] [1, 2, 3, 4] 2)).get = N.ref13_MayAsk_s0k a x (fun v_ => some (.inl (h14_s0 a x v_.1 v_.2, t14_s0 a x v_.1 v_.2))) (fun x_ => some (.inr (.exit 1, ofSlots E 134 [] [1, 2, 3, 4] [.ptr 0 [], .undef, .ptr 1 [], .val .bool x_], [.box false (.val (.named 1) a), .box false (.val (.named 1) x)]))) ok i := by kernel_rfl
theorem q14_s0 : InsLp 134 [1, 3, 4, 5] [] [] (stepOf E S14 L14 0 0 Try.f14) g14_s0 := by
  intro ok i a x out_ ho_
  obtain ⟨x_, h1_, h2_⟩ := Option.bind_eq_some_iff.1 ho_
  refine iter_loop (rs := [1, 2, 3, 4]) (step := N.ref13_MayAsk_s0 a x) (hd := fun v_ => h14_s0 a x v_.1 v_.2) (sv := fun v_ => t14_s0 a x v_.1 v_.2) (ex := x14_s0 a x) (fun v_ => ?_) N.fuel (ok, i) h1_ h2_
  refine (f14_s0 a x v_.1 v_.2).trans ((N.ref13_MayAsk_s0_bind a x _ _ v_.1 v_.2).trans ?_)
  refine congrArg _ (funext fun s_ => ?_)
  rcases s_ with v_ | a <;> rfl
noncomputable def B14 : List (DVal E.T) → St E.T → Tree (Res E.T × St E.T) := dbody E (lookS S14) (lookD []) L14 0 false Try.f14
theorem B14_ok : FnOk Try.prog E 14 B14 := bodyC_ok sound mix S14_ok (SD := []) trivial (L := L14) (N := 0) (keep := false) Try.func14 rfl (by
  intro k g hg fr st out ho
  match k, hg with
  | 0, hg => cases hg; exact lp_ok (allLp_cons q14_s0 (allLp_nil)) fr st out ho
  | _ + 1, hg => cases hg)
theorem F14 (a : N.TAsk) : (B14 [.val (.named 1) a] []).get = N.ref13_MayAsk_k N.fuel (fun x_ => some (.ret [.val .bool x_], [])) a := by kernel_rfl
noncomputable def i14 : Ins E (Res E.T × St E.T) := ⟨[.v (.named 1)], [], fun a => .opt (N.ref13_MayAsk N.fuel a) fun x_ => .ret (.ret [.val .bool x_], [])⟩
theorem i14_ok : InsOk Try.prog 14 i14 := ⟨B14, B14_ok, by intro a out_ h_; exact ((F14 a).trans (N.ref13_MayAsk_bind N.fuel _ a)).trans h_⟩
noncomputable def P14 : Nat × D.Spec E := (14, .pure [(.named 1)] (pureF [i14]))
theorem p14 : SpecOk Try.prog E P14.1 P14.2 := pureI_ok Try.call14 ⟨i14_ok, trivial⟩

/-! tenancy/tenancyref1.Put -/
noncomputable def S38 : List (Nat × D.Spec E) := []
theorem S38_ok : AllS Try.prog E S38 := trivial
abbrev h38_s0 (v : Int) (i : Int) (out : List UInt8) : Fr E.T := ofSlots E 34 [] [1, 7, 8] [.val (.int .i64) v, .own 0, .val (.int .i64) i]
abbrev t38_s0 (v : Int) (i : Int) (out : List UInt8) : St E.T := [.arr .live (.int .u8) out]
def x38_s0 (v : Int) (x_ : List UInt8) : Tree (CodeOut E) := .ret (.exit 0, ofSlots E 34 [] [6, 7] [.undef, .own 0], [.arr .live (.int .u8) x_])
noncomputable def g38_s0 : Ins E (CodeOut E) := ⟨[.v (.int .i64), .own 0, .v (.int .i64)], [.arr .live (.int .u8)], fun v i out => .opt (N.ref1_Put_l0 N.fuel v i out) (x38_s0 v)⟩
noncomputable def L38 : Nat → LoopInfo E := clL E 34 [{ ks := [1, 7, 8], mvs := [], pro := [], d := [], g := some (insF [g38_s0]) }] []
theorem f38_s0 (v : Int) (i : Int) (out : List UInt8) : ((stepOf E S38 L38 0 0 Try.f38 (h38_s0 v i out) (t38_s0 v i out)).bind (nx E [1, 7, 8] [] [6, 7] 1)).get = N.ref1_Put_s0k v (fun v_ => some (.inl (h38_s0 v v_.1 v_.2, t38_s0 v v_.1 v_.2))) (fun x_ => some (.inr (.exit 0, ofSlots E 34 [] [6, 7] [.undef, .own 0], [.arr .live (.int .u8) x_]))) i out := by kernel_rfl
theorem q38_s0 : InsLp 34 [1, 7, 8] [] [] (stepOf E S38 L38 0 0 Try.f38) g38_s0 := by
  intro v i out out_ ho_
  obtain ⟨x_, h1_, h2_⟩ := Option.bind_eq_some_iff.1 ho_
  refine iter_loop (rs := [6, 7]) (step := N.ref1_Put_s0 v) (hd := fun v_ => h38_s0 v v_.1 v_.2) (sv := fun v_ => t38_s0 v v_.1 v_.2) (ex := x38_s0 v) (fun v_ => ?_) N.fuel (i, out) h1_ h2_
  refine (f38_s0 v v_.1 v_.2).trans ((N.ref1_Put_s0_bind v _ _ v_.1 v_.2).trans ?_)
  refine congrArg _ (funext fun s_ => ?_)
  rcases s_ with v_ | a <;> rfl
noncomputable def B38 : List (DVal E.T) → St E.T → Tree (Res E.T × St E.T) := dbody E (lookS S38) (lookD []) L38 0 false Try.f38
theorem B38_ok : FnOk Try.prog E 38 B38 := bodyC_ok sound mix S38_ok (SD := []) trivial (L := L38) (N := 0) (keep := false) Try.func38 rfl (by
  intro k g hg fr st out ho
  match k, hg with
  | 0, hg => cases hg; exact lp_ok (allLp_cons q38_s0 (allLp_nil)) fr st out ho
  | _ + 1, hg => cases hg)
theorem F38 (b : List UInt8) (v : Int) (n : Int) : (B38 [.val (.slice (.int .u8)) b, .val (.int .i64) v, .val (.int .i64) n] []).get = N.ref1_Put_k N.fuel (fun x_ => some (.ret [.val (.slice (.int .u8)) x_], [])) b v n := by kernel_rfl
noncomputable def i38 : Ins E (Res E.T × St E.T) := ⟨[.v (.slice (.int .u8)), .v (.int .i64), .v (.int .i64)], [], fun b v n => .opt (N.ref1_Put N.fuel b v n) fun x_ => .ret (.ret [.val (.slice (.int .u8)) x_], [])⟩
theorem i38_ok : InsOk Try.prog 38 i38 := ⟨B38, B38_ok, by intro b v n out_ h_; exact ((F38 b v n).trans (N.ref1_Put_bind N.fuel _ b v n)).trans h_⟩
noncomputable def P38 : Nat × D.Spec E := (38, .pure [(.slice (.int .u8)), (.int .i64), (.int .i64)] (pureF [i38]))
theorem p38 : SpecOk Try.prog E P38.1 P38.2 := pureI_ok Try.call38 ⟨i38_ok, trivial⟩

/-! tenancy/tenancyref1.Text -/
noncomputable def S39 : List (Nat × D.Spec E) := []
theorem S39_ok : AllS Try.prog E S39 := trivial
noncomputable def L39 : Nat → LoopInfo E := clL E 21 [] []
noncomputable def B39 : List (DVal E.T) → St E.T → Tree (Res E.T × St E.T) := dbody E (lookS S39) (lookD []) L39 0 false Try.f39
theorem B39_ok : FnOk Try.prog E 39 B39 := bodyC_ok sound mix S39_ok (SD := []) trivial (L := L39) (N := 0) (keep := false) Try.func39 rfl (by
  intro k g hg fr st out ho
  match k, hg with
  | _, hg => cases hg)
theorem F39 (b : List UInt8) (s : List UInt8) : (B39 [.val (.slice (.int .u8)) b, .val .str s] []).get = N.ref1_Text_k (fun x_ => some (.ret [.val (.slice (.int .u8)) x_], [])) b s := by kernel_rfl
noncomputable def i39 : Ins E (Res E.T × St E.T) := ⟨[.v (.slice (.int .u8)), .v .str], [], fun b s => .opt (N.ref1_Text b s) fun x_ => .ret (.ret [.val (.slice (.int .u8)) x_], [])⟩
theorem i39_ok : InsOk Try.prog 39 i39 := ⟨B39, B39_ok, by intro b s out_ h_; exact ((F39 b s).trans (N.ref1_Text_bind _ b s)).trans h_⟩
noncomputable def P39 : Nat × D.Spec E := (39, .pure [(.slice (.int .u8)), .str] (pureF [i39]))
theorem p39 : SpecOk Try.prog E P39.1 P39.2 := pureI_ok Try.call39 ⟨i39_ok, trivial⟩

/-! tenancy/tenancyref1.Crc -/
noncomputable def S55 : List (Nat × D.Spec E) := []
theorem S55_ok : AllS Try.prog E S55 := trivial
abbrev h55_s0 (b : List UInt8) (i : Int) (c : Int) (k : Int) : Fr E.T := ofSlots E 33 [] [0, 3, 4, 5] [.val (.slice (.int .u8)) b, .val (.int .i64) c, .val (.int .i64) i, .val (.int .i64) k]
abbrev t55_s0 (b : List UInt8) (i : Int) (c : Int) (k : Int) : St E.T := []
def x55_s0 (b : List UInt8) (i : Int) (x_ : Int) : Tree (CodeOut E) := .ret (.exit 2, ofSlots E 33 [] [0, 2, 3, 4] [.val (.slice (.int .u8)) b, .undef, .val (.int .i64) x_, .val (.int .i64) i], [])
noncomputable def g55_s0 : Ins E (CodeOut E) := ⟨[.v (.slice (.int .u8)), .v (.int .i64), .v (.int .i64), .v (.int .i64)], [], fun b c i k => .opt (N.ref1_Crc_l0 N.fuel b i c k) (x55_s0 b i)⟩
abbrev h55_s1 (b : List UInt8) (c : Int) (i : Int) : Fr E.T := ofSlots E 33 [] [0, 3, 4] [.val (.slice (.int .u8)) b, .val (.int .i64) c, .val (.int .i64) i]
abbrev t55_s1 (b : List UInt8) (c : Int) (i : Int) : St E.T := []
def x55_s1 (b : List UInt8) (x_ : Int) : Tree (CodeOut E) := .ret (.exit 0, ofSlots E 33 [] [2, 3] [.undef, .val (.int .i64) x_], [])
noncomputable def g55_s1 : Ins E (CodeOut E) := ⟨[.v (.slice (.int .u8)), .v (.int .i64), .v (.int .i64)], [], fun b c i => .opt (N.ref1_Crc_l1 N.fuel b c i) (x55_s1 b)⟩
noncomputable def L55 : Nat → LoopInfo E := clL E 33 [{ ks := [0, 3, 4], mvs := [], pro := [], d := [], g := some (insF [g55_s1]) }, { ks := [0, 3, 4, 5], mvs := [], pro := [], d := [], g := some (insF [g55_s0]) }] []
theorem f55_s0 (b : List UInt8) (i : Int) (c : Int) (k : Int) : ((stepOf E S55 L55 0 1 Try.f55 (h55_s0 b i c k) (t55_s0 b i c k)).bind (nx E [0, 3, 4, 5] [] [0, 2, 3, 4] 0)).get = N.ref1_Crc_s0k b i (fun v_ => some (.inl (h55_s0 b i v_.1 v_.2, t55_s0 b i v_.1 v_.2))) (fun x_ => some (.inr (.exit 2, ofSlots E 33 [] [0, 2, 3, 4] [.val (.slice (.int .u8)) b, .undef, .val (.int .i64) x_, .val (.int .i64) i], []))) c k := by kernel_rfl
theorem q55_s0 : InsLp 33 [0, 3, 4, 5] [] [] (stepOf E S55 L55 0 1 Try.f55) g55_s0 := by
  intro b c i k out_ ho_
  obtain ⟨x_, h1_, h2_⟩ := Option.bind_eq_some_iff.1 ho_
  refine iter_loop (rs := [0, 2, 3, 4]) (step := N.ref1_Crc_s0 b i) (hd := fun v_ => h55_s0 b i v_.1 v_.2) (sv := fun v_ => t55_s0 b i v_.1 v_.2) (ex := x55_s0 b i) (fun v_ => ?_) N.fuel (c, k) h1_ h2_
  refine (f55_s0 b i v_.1 v_.2).trans ((N.ref1_Crc_s0_bind b i _ _ v_.1 v_.2).trans ?_)
  refine congrArg _ (funext fun s_ => ?_)
  rcases s_ with v_ | a <;> rfl
theorem f55_s1 (b : List UInt8) (c : Int) (i : Int) : ((stepOf E S55 L55 0 0 Try.f55 (h55_s1 b c i) (t55_s1 b c i)).bind (nx E [0, 3, 4] [] [2, 3] 0)).get = N.ref1_Crc_s1k N.fuel b (fun v_ => some (.inl (h55_s1 b v_.1 v_.2, t55_s1 b v_.1 v_.2))) (fun x_ => some (.inr (.exit 0, ofSlots E 33 [] [2, 3] [.undef, .val (.int .i64) x_], []))) c i := by kernel_rfl
theorem q55_s1 : InsLp 33 [0, 3, 4] [] [] (stepOf E S55 L55 0 0 Try.f55) g55_s1 := by
  intro b c i out_ ho_
  obtain ⟨x_, h1_, h2_⟩ := Option.bind_eq_some_iff.1 ho_
  refine iter_loop (rs := [2, 3]) (step := N.ref1_Crc_s1 N.fuel b) (hd := fun v_ => h55_s1 b v_.1 v_.2) (sv := fun v_ => t55_s1 b v_.1 v_.2) (ex := x55_s1 b) (fun v_ => ?_) N.fuel (c, i) h1_ h2_
  refine (f55_s1 b v_.1 v_.2).trans ((N.ref1_Crc_s1_bind N.fuel b _ _ v_.1 v_.2).trans ?_)
  refine congrArg _ (funext fun s_ => ?_)
  rcases s_ with v_ | a <;> rfl
noncomputable def B55 : List (DVal E.T) → St E.T → Tree (Res E.T × St E.T) := dbody E (lookS S55) (lookD []) L55 0 false Try.f55
theorem B55_ok : FnOk Try.prog E 55 B55 := bodyC_ok sound mix S55_ok (SD := []) trivial (L := L55) (N := 0) (keep := false) Try.func55 rfl (by
  intro k g hg fr st out ho
  match k, hg with
  | 0, hg => cases hg; exact lp_ok (allLp_cons q55_s1 (allLp_nil)) fr st out ho
  | 1, hg => cases hg; exact lp_ok (allLp_cons q55_s0 (allLp_nil)) fr st out ho
  | _ + 2, hg => cases hg)
theorem F55 (b : List UInt8) : (B55 [.val (.slice (.int .u8)) b] []).get = N.ref1_Crc_k N.fuel (fun x_ => some (.ret [.val (.int .u16) x_], [])) b := by kernel_rfl
noncomputable def i55 : Ins E (Res E.T × St E.T) := ⟨[.v (.slice (.int .u8))], [], fun b => .opt (N.ref1_Crc N.fuel b) fun x_ => .ret (.ret [.val (.int .u16) x_], [])⟩
theorem i55_ok : InsOk Try.prog 55 i55 := ⟨B55, B55_ok, by intro b out_ h_; exact ((F55 b).trans (N.ref1_Crc_bind N.fuel _ b)).trans h_⟩
noncomputable def P55 : Nat × D.Spec E := (55, .pure [(.slice (.int .u8))] (pureF [i55]))
theorem p55 : SpecOk Try.prog E P55.1 P55.2 := pureI_ok Try.call55 ⟨i55_ok, trivial⟩

/-! tenancy/tenancyref13.sealed -/
noncomputable def S40 : List (Nat × D.Spec E) := [P38, P55]
theorem S40_ok : AllS Try.prog E S40 := ⟨p38, p55, trivial⟩
noncomputable def L40 : Nat → LoopInfo E := clL E 8 [] []
noncomputable def B40 : List (DVal E.T) → St E.T → Tree (Res E.T × St E.T) := dbody E (lookS S40) (lookD []) L40 0 false Try.f40
theorem B40_ok : FnOk Try.prog E 40 B40 := bodyC_ok sound mix S40_ok (SD := []) trivial (L := L40) (N := 0) (keep := false) Try.func40 rfl (by
  intro k g hg fr st out ho
  match k, hg with
  | _, hg => cases hg)
theorem F40 (b : List UInt8) : (B40 [.val (.slice (.int .u8)) b] []).get = N.ref13_sealed_k N.fuel (fun x_ => some (.ret [.val (.slice (.int .u8)) x_], [])) b := by kernel_rfl
noncomputable def i40 : Ins E (Res E.T × St E.T) := ⟨[.v (.slice (.int .u8))], [], fun b => .opt (N.ref13_sealed N.fuel b) fun x_ => .ret (.ret [.val (.slice (.int .u8)) x_], [])⟩
theorem i40_ok : InsOk Try.prog 40 i40 := ⟨B40, B40_ok, by intro b out_ h_; exact ((F40 b).trans (N.ref13_sealed_bind N.fuel _ b)).trans h_⟩
noncomputable def P40 : Nat × D.Spec E := (40, .pure [(.slice (.int .u8))] (pureF [i40]))
theorem p40 : SpecOk Try.prog E P40.1 P40.2 := pureI_ok Try.call40 ⟨i40_ok, trivial⟩

/-! tenancy/tenancyref13.PutAsk -/
noncomputable def S16 : List (Nat × D.Spec E) := [P14, P38, P39, P40]
theorem S16_ok : AllS Try.prog E S16 := ⟨p14, p38, p39, p40, trivial⟩
abbrev h16_s0 (a : N.TAsk) (b : List UInt8) (i : Int) : Fr E.T := ofSlots E 58 [] [1, 3, 4] [.ptr 0 [], .val (.slice (.int .u8)) b, .val (.int .i64) i]
abbrev t16_s0 (a : N.TAsk) (b : List UInt8) (i : Int) : St E.T := [.box false (.val (.named 1) a)]
def x16_s0 (a : N.TAsk) (x_ : List UInt8) : Tree (CodeOut E) := .ret (.exit 0, ofSlots E 58 [] [2, 3] [.undef, .val (.slice (.int .u8)) x_], [.box false (.val (.named 1) a)])
noncomputable def g16_s0 : Ins E (CodeOut E) := ⟨[.ptr 0 [], .v (.slice (.int .u8)), .v (.int .i64)], [.box false (.v (.named 1))], fun b i a => .opt (N.ref13_PutAsk_l0 N.fuel a b i) (x16_s0 a)⟩
noncomputable def L16 : Nat → LoopInfo E := clL E 58 [{ ks := [1, 3, 4], mvs := [], pro := [], d := [], g := some (insF [g16_s0]) }] []
theorem f16_s0 (a : N.TAsk) (b : List UInt8) (i : Int) : ((stepOf E S16 L16 0 0 Try.f16 (h16_s0 a b i) (t16_s0 a b i)).bind (nx E [1, 3, 4] [] [2, 3] 1)).get = N.ref13_PutAsk_s0k N.fuel a (fun v_ => some (.inl (h16_s0 a v_.1 v_.2, t16_s0 a v_.1 v_.2))) (fun x_ => some (.inr (.exit 0, ofSlots E 58 [] [2, 3] [.undef, .val (.slice (.int .u8)) x_], [.box false (.val (.named 1) a)]))) b i := by kernel_rfl
theorem q16_s0 : InsLp 58 [1, 3, 4] [] [] (stepOf E S16 L16 0 0 Try.f16) g16_s0 := by
  intro b i a out_ ho_
  obtain ⟨x_, h1_, h2_⟩ := Option.bind_eq_some_iff.1 ho_
  refine iter_loop (rs := [2, 3]) (step := N.ref13_PutAsk_s0 N.fuel a) (hd := fun v_ => h16_s0 a v_.1 v_.2) (sv := fun v_ => t16_s0 a v_.1 v_.2) (ex := x16_s0 a) (fun v_ => ?_) N.fuel (b, i) h1_ h2_
  refine (f16_s0 a v_.1 v_.2).trans ((N.ref13_PutAsk_s0_bind N.fuel a _ _ v_.1 v_.2).trans ?_)
  refine congrArg _ (funext fun s_ => ?_)
  rcases s_ with v_ | a <;> rfl
noncomputable def B16 : List (DVal E.T) → St E.T → Tree (Res E.T × St E.T) := dbody E (lookS S16) (lookD []) L16 0 false Try.f16
theorem B16_ok : FnOk Try.prog E 16 B16 := bodyC_ok sound mix S16_ok (SD := []) trivial (L := L16) (N := 0) (keep := false) Try.func16 rfl (by
  intro k g hg fr st out ho
  match k, hg with
  | 0, hg => cases hg; exact lp_ok (allLp_cons q16_s0 (allLp_nil)) fr st out ho
  | _ + 1, hg => cases hg)
theorem F16 (a : N.TAsk) : (B16 [.val (.named 1) a] []).get = N.ref13_PutAsk_k N.fuel (fun x_ => some (.ret [.val (.slice (.int .u8)) x_], [])) a := by kernel_rfl
noncomputable def i16 : Ins E (Res E.T × St E.T) := ⟨[.v (.named 1)], [], fun a => .opt (N.ref13_PutAsk N.fuel a) fun x_ => .ret (.ret [.val (.slice (.int .u8)) x_], [])⟩
theorem i16_ok : InsOk Try.prog 16 i16 := ⟨B16, B16_ok, by intro a out_ h_; exact ((F16 a).trans (N.ref13_PutAsk_bind N.fuel _ a)).trans h_⟩
noncomputable def P16 : Nat × D.Spec E := (16, .pure [(.named 1)] (pureF [i16]))
theorem p16 : SpecOk Try.prog E P16.1 P16.2 := pureI_ok Try.call16 ⟨i16_ok, trivial⟩

/-! tenancy/tenancyref13.MayTell -/
noncomputable def S20 : List (Nat × D.Spec E) := [P32]
theorem S20_ok : AllS Try.prog E S20 := ⟨p32, trivial⟩
noncomputable def L20 : Nat → LoopInfo E := clL E 107 [] []
noncomputable def B20 : List (DVal E.T) → St E.T → Tree (Res E.T × St E.T) := dbody E (lookS S20) (lookD []) L20 0 false Try.f20
theorem B20_ok : FnOk Try.prog E 20 B20 := bodyC_ok sound mix S20_ok (SD := []) trivial (L := L20) (N := 0) (keep := false) Try.func20 rfl (by
  intro k g hg fr st out ho
  match k, hg with
  | _, hg => cases hg)
theorem F20 (t : N.TTell) : (B20 [.val (.named 2) t] []).get = N.ref13_MayTell_k (fun x_ => some (.ret [.val .bool x_], [])) t := by kernel_rfl
noncomputable def i20 : Ins E (Res E.T × St E.T) := ⟨[.v (.named 2)], [], fun t => .ret (.ret [.val .bool (N.ref13_MayTell t)], [])⟩
theorem i20_ok : InsOk Try.prog 20 i20 := ⟨B20, B20_ok, by intro t out_ h_; exact ((F20 t).trans (N.ref13_MayTell_bind _ t)).trans h_⟩
noncomputable def P20 : Nat × D.Spec E := (20, .pure [(.named 2)] (pureF [i20]))
theorem p20 : SpecOk Try.prog E P20.1 P20.2 := pureI_ok Try.call20 ⟨i20_ok, trivial⟩

/-! tenancy/tenancyref13.PutTell -/
noncomputable def S22 : List (Nat × D.Spec E) := [P20, P38, P39, P40]
theorem S22_ok : AllS Try.prog E S22 := ⟨p20, p38, p39, p40, trivial⟩
noncomputable def L22 : Nat → LoopInfo E := clL E 37 [] []
noncomputable def B22 : List (DVal E.T) → St E.T → Tree (Res E.T × St E.T) := dbody E (lookS S22) (lookD []) L22 0 false Try.f22
theorem B22_ok : FnOk Try.prog E 22 B22 := bodyC_ok sound mix S22_ok (SD := []) trivial (L := L22) (N := 0) (keep := false) Try.func22 rfl (by
  intro k g hg fr st out ho
  match k, hg with
  | _, hg => cases hg)
theorem F22 (t : N.TTell) : (B22 [.val (.named 2) t] []).get = N.ref13_PutTell_k N.fuel (fun x_ => some (.ret [.val (.slice (.int .u8)) x_], [])) t := by kernel_rfl
noncomputable def i22 : Ins E (Res E.T × St E.T) := ⟨[.v (.named 2)], [], fun t => .opt (N.ref13_PutTell N.fuel t) fun x_ => .ret (.ret [.val (.slice (.int .u8)) x_], [])⟩
theorem i22_ok : InsOk Try.prog 22 i22 := ⟨B22, B22_ok, by intro t out_ h_; exact ((F22 t).trans (N.ref13_PutTell_bind N.fuel _ t)).trans h_⟩
noncomputable def P22 : Nat × D.Spec E := (22, .pure [(.named 2)] (pureF [i22]))
theorem p22 : SpecOk Try.prog E P22.1 P22.2 := pureI_ok Try.call22 ⟨i22_ok, trivial⟩

/-! tenancy/tenancyref1.Take -/
noncomputable def S60 : List (Nat × D.Spec E) := []
theorem S60_ok : AllS Try.prog E S60 := trivial
abbrev h60_s0 (b : List UInt8) (n : Int) (v : Int) (i : Int) : Fr E.T := ofSlots E 34 [] [0, 1, 6, 7] [.val (.slice (.int .u8)) b, .val (.int .i64) n, .val (.int .i64) v, .val (.int .i64) i]
abbrev t60_s0 (b : List UInt8) (n : Int) (v : Int) (i : Int) : St E.T := []
def x60_s0 (b : List UInt8) (n : Int) (x_ : Int) : Tree (CodeOut E) := .ret (.exit 0, ofSlots E 34 [] [4, 5, 6] [.undef, .undef, .val (.int .i64) x_], [])
noncomputable def g60_s0 : Ins E (CodeOut E) := ⟨[.v (.slice (.int .u8)), .v (.int .i64), .v (.int .i64), .v (.int .i64)], [], fun b n v i => .opt (N.ref1_Take_l0 N.fuel b n v i) (x60_s0 b n)⟩
noncomputable def L60 : Nat → LoopInfo E := clL E 34 [{ ks := [0, 1, 6, 7], mvs := [], pro := [], d := [], g := some (insF [g60_s0]) }] []
theorem f60_s0 (b : List UInt8) (n : Int) (v : Int) (i : Int) : ((stepOf E S60 L60 0 0 Try.f60 (h60_s0 b n v i) (t60_s0 b n v i)).bind (nx E [0, 1, 6, 7] [] [4, 5, 6] 0)).get = N.ref1_Take_s0k b n (fun v_ => some (.inl (h60_s0 b n v_.1 v_.2, t60_s0 b n v_.1 v_.2))) (fun x_ => some (.inr (.exit 0, ofSlots E 34 [] [4, 5, 6] [.undef, .undef, .val (.int .i64) x_], []))) v i := by kernel_rfl
theorem q60_s0 : InsLp 34 [0, 1, 6, 7] [] [] (stepOf E S60 L60 0 0 Try.f60) g60_s0 := by
  intro b n v i out_ ho_
  obtain ⟨x_, h1_, h2_⟩ := Option.bind_eq_some_iff.1 ho_
  refine iter_loop (rs := [4, 5, 6]) (step := N.ref1_Take_s0 b n) (hd := fun v_ => h60_s0 b n v_.1 v_.2) (sv := fun v_ => t60_s0 b n v_.1 v_.2) (ex := x60_s0 b n) (fun v_ => ?_) N.fuel (v, i) h1_ h2_
  refine (f60_s0 b n v_.1 v_.2).trans ((N.ref1_Take_s0_bind b n _ _ v_.1 v_.2).trans ?_)
  refine congrArg _ (funext fun s_ => ?_)
  rcases s_ with v_ | a <;> rfl
noncomputable def B60 : List (DVal E.T) → St E.T → Tree (Res E.T × St E.T) := dbody E (lookS S60) (lookD []) L60 0 false Try.f60
theorem B60_ok : FnOk Try.prog E 60 B60 := bodyC_ok sound mix S60_ok (SD := []) trivial (L := L60) (N := 0) (keep := false) Try.func60 rfl (by
  intro k g hg fr st out ho
  match k, hg with
  | 0, hg => cases hg; exact lp_ok (allLp_cons q60_s0 (allLp_nil)) fr st out ho
  | _ + 1, hg => cases hg)
theorem F60 (b : List UInt8) (n : Int) : (B60 [.val (.slice (.int .u8)) b, .val (.int .i64) n] []).get = N.ref1_Take_k N.fuel (fun x_ => some (.ret [.val (.int .i64) x_.1, .val .bool x_.2], [])) b n := by kernel_rfl
noncomputable def i60 : Ins E (Res E.T × St E.T) := ⟨[.v (.slice (.int .u8)), .v (.int .i64)], [], fun b n => .opt (N.ref1_Take N.fuel b n) fun x_ => .ret (.ret [.val (.int .i64) x_.1, .val .bool x_.2], [])⟩
theorem i60_ok : InsOk Try.prog 60 i60 := ⟨B60, B60_ok, by intro b n out_ h_; exact ((F60 b n).trans (N.ref1_Take_bind N.fuel _ b n)).trans h_⟩
noncomputable def P60 : Nat × D.Spec E := (60, .pure [(.slice (.int .u8)), (.int .i64)] (pureF [i60]))
theorem p60 : SpecOk Try.prog E P60.1 P60.2 := pureI_ok Try.call60 ⟨i60_ok, trivial⟩

/-! (*tenancy/tenancyref13.Reader).Num -/
noncomputable def S45 : List (Nat × D.Spec E) := [P60]
theorem S45_ok : AllS Try.prog E S45 := ⟨p60, trivial⟩
noncomputable def L45 : Nat → LoopInfo E := clL E 35 [] []
noncomputable def B45 : List (DVal E.T) → St E.T → Tree (Res E.T × St E.T) := tidyF (dbody E (lookS S45) (lookD []) L45 0 false Try.f45)
theorem B45_ok : FnOk Try.prog E 45 B45 := tidy_fn ok (bodyC_ok sound mix S45_ok (SD := []) trivial (L := L45) (N := 0) (keep := false) Try.func45 rfl (by
  intro k g hg fr st out ho
  match k, hg with
  | _, hg => cases hg))
theorem F45 (n : Int) (r : N.Ttenancyref13_Reader) : (B45 [.ptr 0 [], .val (.int .i64) n] [.box false (.val (.named 4) r)]).get = N.ref13_Reader_Num_k N.fuel (fun x_ => some (.ret [.val (.int .i64) x_.1], [.box false (.val (.named 4) x_.2)])) n r := by kernel_rfl
noncomputable def i45 : Ins E (Res E.T × St E.T) := ⟨[.ptr 0 [], .v (.int .i64)], [.box false (.v (.named 4))], fun n r => .opt (N.ref13_Reader_Num N.fuel n r) fun x_ => .ret (.ret [.val (.int .i64) x_.1], [.box false (.val (.named 4) x_.2)])⟩
theorem i45_ok : InsOk Try.prog 45 i45 := ⟨B45, B45_ok, by intro n r out_ h_; exact ((F45 n r).trans (N.ref13_Reader_Num_bind N.fuel _ n r)).trans h_⟩
noncomputable def P45 : Nat × D.Spec E := (45, .full [.ptr, .data (.int .i64)] false (fullF [i45]))
theorem p45 : SpecOk Try.prog E P45.1 P45.2 := fullI_ok ok Try.call45 ⟨i45_ok, trivial⟩

/-! tenancy/tenancyref1.TakeText -/
noncomputable def S61 : List (Nat × D.Spec E) := []
theorem S61_ok : AllS Try.prog E S61 := trivial
noncomputable def L61 : Nat → LoopInfo E := clL E 29 [] []
noncomputable def B61 : List (DVal E.T) → St E.T → Tree (Res E.T × St E.T) := dbody E (lookS S61) (lookD []) L61 0 false Try.f61
theorem B61_ok : FnOk Try.prog E 61 B61 := bodyC_ok sound mix S61_ok (SD := []) trivial (L := L61) (N := 0) (keep := false) Try.func61 rfl (by
  intro k g hg fr st out ho
  match k, hg with
  | _, hg => cases hg)
theorem F61 (b : List UInt8) : (B61 [.val (.slice (.int .u8)) b] []).get = N.ref1_TakeText_k (fun x_ => some (.ret [.val .str x_.1, .val (.int .i64) x_.2.1, .val .bool x_.2.2], [])) b := by kernel_rfl
noncomputable def i61 : Ins E (Res E.T × St E.T) := ⟨[.v (.slice (.int .u8))], [], fun b => .opt (N.ref1_TakeText b) fun x_ => .ret (.ret [.val .str x_.1, .val (.int .i64) x_.2.1, .val .bool x_.2.2], [])⟩
theorem i61_ok : InsOk Try.prog 61 i61 := ⟨B61, B61_ok, by intro b out_ h_; exact ((F61 b).trans (N.ref1_TakeText_bind _ b)).trans h_⟩
noncomputable def P61 : Nat × D.Spec E := (61, .pure [(.slice (.int .u8))] (pureF [i61]))
theorem p61 : SpecOk Try.prog E P61.1 P61.2 := pureI_ok Try.call61 ⟨i61_ok, trivial⟩

/-! (*tenancy/tenancyref13.Reader).Text -/
noncomputable def S46 : List (Nat × D.Spec E) := [P61]
theorem S46_ok : AllS Try.prog E S46 := ⟨p61, trivial⟩
noncomputable def L46 : Nat → LoopInfo E := clL E 34 [] []
noncomputable def B46 : List (DVal E.T) → St E.T → Tree (Res E.T × St E.T) := tidyF (dbody E (lookS S46) (lookD []) L46 0 false Try.f46)
theorem B46_ok : FnOk Try.prog E 46 B46 := tidy_fn ok (bodyC_ok sound mix S46_ok (SD := []) trivial (L := L46) (N := 0) (keep := false) Try.func46 rfl (by
  intro k g hg fr st out ho
  match k, hg with
  | _, hg => cases hg))
theorem F46 (r : N.Ttenancyref13_Reader) : (B46 [.ptr 0 []] [.box false (.val (.named 4) r)]).get = N.ref13_Reader_Text_k (fun x_ => some (.ret [.val .str x_.1], [.box false (.val (.named 4) x_.2)])) r := by kernel_rfl
noncomputable def i46 : Ins E (Res E.T × St E.T) := ⟨[.ptr 0 []], [.box false (.v (.named 4))], fun r => .opt (N.ref13_Reader_Text r) fun x_ => .ret (.ret [.val .str x_.1], [.box false (.val (.named 4) x_.2)])⟩
theorem i46_ok : InsOk Try.prog 46 i46 := ⟨B46, B46_ok, by intro r out_ h_; exact ((F46 r).trans (N.ref13_Reader_Text_bind _ r)).trans h_⟩
noncomputable def P46 : Nat × D.Spec E := (46, .full [.ptr] false (fullF [i46]))
theorem p46 : SpecOk Try.prog E P46.1 P46.2 := fullI_ok ok Try.call46 ⟨i46_ok, trivial⟩

/-! tenancy/tenancyref13.TakeAsk -/
noncomputable def S24 : List (Nat × D.Spec E) := [P14, P16, P45, P46]
theorem S24_ok : AllS Try.prog E S24 := ⟨p14, p16, p45, p46, trivial⟩
abbrev h24_s0 (b : List UInt8) (n : Int) (o0 : N.TAsk) (r : N.Ttenancyref13_Reader) (a : N.TAsk) : Fr E.T := ofSlots E 76 [] [0, 2, 4, 5, 6] [.val (.slice (.int .u8)) b, .ptr 0 [], .ptr 1 [], .ptr 2 [], .val (.int .i64) n]
abbrev t24_s0 (b : List UInt8) (n : Int) (o0 : N.TAsk) (r : N.Ttenancyref13_Reader) (a : N.TAsk) : St E.T := [.box false (.agg 1 [.val (.int .i64) o0.Kind, .val (.int .i64) o0.From, .val (.int .i64) o0.Epoch, .val (.int .i64) o0.Seq, .val .str o0.Name, .val (.int .i64) o0.File, .val (.int .i64) o0.Mode, .nils]), .box false (.val (.named 4) r), .box false (.agg 1 [.val (.int .i64) a.Kind, .val (.int .i64) a.From, .val (.int .i64) a.Epoch, .val (.int .i64) a.Seq, .val .str a.Name, .val (.int .i64) a.File, .val (.int .i64) a.Mode, .own 3]), .arr .live (.named 0) a.Writes]
def x24_s0 (b : List UInt8) (x_ : N.TAsk × N.Ttenancyref13_Reader × N.TAsk) : Tree (CodeOut E) := .ret (.exit 0, ofSlots E 76 [] [0, 2, 3, 4, 5] [.val (.slice (.int .u8)) b, .ptr 0 [], .undef, .ptr 1 [], .ptr 2 []], [.box false (.agg 1 [.val (.int .i64) x_.1.Kind, .val (.int .i64) x_.1.From, .val (.int .i64) x_.1.Epoch, .val (.int .i64) x_.1.Seq, .val .str x_.1.Name, .val (.int .i64) x_.1.File, .val (.int .i64) x_.1.Mode, .nils]), .box false (.val (.named 4) x_.2.1), .box false (.agg 1 [.val (.int .i64) x_.2.2.Kind, .val (.int .i64) x_.2.2.From, .val (.int .i64) x_.2.2.Epoch, .val (.int .i64) x_.2.2.Seq, .val .str x_.2.2.Name, .val (.int .i64) x_.2.2.File, .val (.int .i64) x_.2.2.Mode, .own 3]), .arr .live (.named 0) x_.2.2.Writes])
noncomputable def g24_s0 : Ins E (CodeOut E) := ⟨[.v (.slice (.int .u8)), .ptr 0 [], .ptr 1 [], .ptr 2 [], .v (.int .i64)], [.box false (.agg 1 [.v (.int .i64), .v (.int .i64), .v (.int .i64), .v (.int .i64), .v .str, .v (.int .i64), .v (.int .i64), .nils]), .box false (.v (.named 4)), .box false (.agg 1 [.v (.int .i64), .v (.int .i64), .v (.int .i64), .v (.int .i64), .v .str, .v (.int .i64), .v (.int .i64), .own 3]), .arr .live (.named 0)], fun b n o0_Kind o0_From o0_Epoch o0_Seq o0_Name o0_File o0_Mode r a_Kind a_From a_Epoch a_Seq a_Name a_File a_Mode a3_ => .opt (N.ref13_TakeAsk_l0 N.fuel b n (N.TAsk.mk o0_Kind o0_From o0_Epoch o0_Seq o0_Name o0_File o0_Mode []) r (N.TAsk.mk a_Kind a_From a_Epoch a_Seq a_Name a_File a_Mode a3_)) (x24_s0 b)⟩
noncomputable def L24 : Nat → LoopInfo E := clL E 76 [{ ks := [0, 2, 4, 5, 6], mvs := [], pro := [.pro (.obj 2) [7] (.named 0)], d := [], g := some (insF [g24_s0]) }] []
theorem f24_s0 (b : List UInt8) (n : Int) (o0 : N.TAsk) (r : N.Ttenancyref13_Reader) (a : N.TAsk) : ((stepOf E S24 L24 0 0 Try.f24 (h24_s0 b n o0 r a) (t24_s0 b n o0 r a)).bind (nx E [0, 2, 4, 5, 6] [] [0, 2, 3, 4, 5] 4)).get = N.ref13_TakeAsk_s0k N.fuel b (fun v_ => some (.inl (h24_s0 b v_.1 v_.2.1 v_.2.2.1 v_.2.2.2, t24_s0 b v_.1 v_.2.1 v_.2.2.1 v_.2.2.2))) (fun x_ => some (.inr (.exit 0, ofSlots E 76 [] [0, 2, 3, 4, 5] [.val (.slice (.int .u8)) b, .ptr 0 [], .undef, .ptr 1 [], .ptr 2 []], [.box false (.agg 1 [.val (.int .i64) x_.1.Kind, .val (.int .i64) x_.1.From, .val (.int .i64) x_.1.Epoch, .val (.int .i64) x_.1.Seq, .val .str x_.1.Name, .val (.int .i64) x_.1.File, .val (.int .i64) x_.1.Mode, .nils]), .box false (.val (.named 4) x_.2.1), .box false (.agg 1 [.val (.int .i64) x_.2.2.Kind, .val (.int .i64) x_.2.2.From, .val (.int .i64) x_.2.2.Epoch, .val (.int .i64) x_.2.2.Seq, .val .str x_.2.2.Name, .val (.int .i64) x_.2.2.File, .val (.int .i64) x_.2.2.Mode, .own 3]), .arr .live (.named 0) x_.2.2.Writes]))) n o0 r a := by kernel_rfl
theorem q24_s0 : InsLp 76 [0, 2, 4, 5, 6] [] [] (stepOf E S24 L24 0 0 Try.f24) g24_s0 := by
  intro b n o0_Kind o0_From o0_Epoch o0_Seq o0_Name o0_File o0_Mode r a_Kind a_From a_Epoch a_Seq a_Name a_File a_Mode a3_ out_ ho_
  obtain ⟨x_, h1_, h2_⟩ := Option.bind_eq_some_iff.1 ho_
  refine iter_loop (rs := [0, 2, 3, 4, 5]) (step := N.ref13_TakeAsk_s0 N.fuel b) (hd := fun v_ => h24_s0 b v_.1 v_.2.1 v_.2.2.1 v_.2.2.2) (sv := fun v_ => t24_s0 b v_.1 v_.2.1 v_.2.2.1 v_.2.2.2) (ex := x24_s0 b) (fun v_ => ?_) N.fuel (n, (N.TAsk.mk o0_Kind o0_From o0_Epoch o0_Seq o0_Name o0_File o0_Mode []), r, (N.TAsk.mk a_Kind a_From a_Epoch a_Seq a_Name a_File a_Mode a3_)) h1_ h2_
  refine (f24_s0 b v_.1 v_.2.1 v_.2.2.1 v_.2.2.2).trans ((N.ref13_TakeAsk_s0_bind N.fuel b _ _ v_.1 v_.2.1 v_.2.2.1 v_.2.2.2).trans ?_)
  refine congrArg _ (funext fun s_ => ?_)
  rcases s_ with v_ | a <;> rfl
noncomputable def B24 : List (DVal E.T) → St E.T → Tree (Res E.T × St E.T) := dbody E (lookS S24) (lookD []) L24 0 false Try.f24
theorem B24_ok : FnOk Try.prog E 24 B24 := bodyC_ok sound mix S24_ok (SD := []) trivial (L := L24) (N := 0) (keep := false) Try.func24 rfl (by
  intro k g hg fr st out ho
  match k, hg with
  | 0, hg => cases hg; exact lp_ok (allLp_cons q24_s0 (allLp_nil)) fr st out ho
  | _ + 1, hg => cases hg)
theorem F24 (b : List UInt8) : (B24 [.val (.slice (.int .u8)) b] []).get = N.ref13_TakeAsk_k N.fuel (fun x_ => some (.ret [.val (.named 1) x_.1, .val .bool x_.2], [])) b := by kernel_rfl
noncomputable def i24 : Ins E (Res E.T × St E.T) := ⟨[.v (.slice (.int .u8))], [], fun b => .opt (N.ref13_TakeAsk N.fuel b) fun x_ => .ret (.ret [.val (.named 1) x_.1, .val .bool x_.2], [])⟩
theorem i24_ok : InsOk Try.prog 24 i24 := ⟨B24, B24_ok, by intro b out_ h_; exact ((F24 b).trans (N.ref13_TakeAsk_bind N.fuel _ b)).trans h_⟩
noncomputable def P24 : Nat × D.Spec E := (24, .pure [(.slice (.int .u8))] (pureF [i24]))
theorem p24 : SpecOk Try.prog E P24.1 P24.2 := pureI_ok Try.call24 ⟨i24_ok, trivial⟩

/-! tenancy/tenancyref13.TakeTell -/
noncomputable def S26 : List (Nat × D.Spec E) := [P20, P22, P45, P46]
theorem S26_ok : AllS Try.prog E S26 := ⟨p20, p22, p45, p46, trivial⟩
noncomputable def L26 : Nat → LoopInfo E := clL E 55 [] []
noncomputable def B26 : List (DVal E.T) → St E.T → Tree (Res E.T × St E.T) := dbody E (lookS S26) (lookD []) L26 0 false Try.f26
theorem B26_ok : FnOk Try.prog E 26 B26 := bodyC_ok sound mix S26_ok (SD := []) trivial (L := L26) (N := 0) (keep := false) Try.func26 rfl (by
  intro k g hg fr st out ho
  match k, hg with
  | _, hg => cases hg)
theorem F26 (b : List UInt8) : (B26 [.val (.slice (.int .u8)) b] []).get = N.ref13_TakeTell_k N.fuel (fun x_ => some (.ret [.val (.named 2) x_.1, .val .bool x_.2], [])) b := by kernel_rfl
noncomputable def i26 : Ins E (Res E.T × St E.T) := ⟨[.v (.slice (.int .u8))], [], fun b => .opt (N.ref13_TakeTell N.fuel b) fun x_ => .ret (.ret [.val (.named 2) x_.1, .val .bool x_.2], [])⟩
theorem i26_ok : InsOk Try.prog 26 i26 := ⟨B26, B26_ok, by intro b out_ h_; exact ((F26 b).trans (N.ref13_TakeTell_bind N.fuel _ b)).trans h_⟩
noncomputable def P26 : Nat × D.Spec E := (26, .pure [(.slice (.int .u8))] (pureF [i26]))
theorem p26 : SpecOk Try.prog E P26.1 P26.2 := pureI_ok Try.call26 ⟨i26_ok, trivial⟩

/-! tenancy/tenancylaw16.MsgAll -/
noncomputable def S3 : List (Nat × D.Spec E) := [P10, P11, P12, P13, P14, P15, P16, P17, P18, P19, P20, P21, P22, P23, P24, P25, P26, P8, P9]
theorem S3_ok : AllS Try.prog E S3 := ⟨p10, p11, p12, p13, p14, p15, p16, p17, p18, p19, p20, p21, p22, p23, p24, p25, p26, p8, p9, trivial⟩
abbrev h3_s0 (b : List UInt8) (l : List N.TAsk) (m : List N.TTell) (o0 : N.TAsk) (o1 : N.TTell) (o2 : N.Ttenancymade_Picks) (i : Int) : Fr E.T := ofSlots E 177 [] [3, 10, 11, 12] [.val (.slice (.int .u8)) b, .val (.slice (.named 1)) l, .val (.slice (.named 2)) m, .val (.int .i64) i]
abbrev t3_s0 (b : List UInt8) (l : List N.TAsk) (m : List N.TTell) (o0 : N.TAsk) (o1 : N.TTell) (o2 : N.Ttenancymade_Picks) (i : Int) : St E.T := [.box false (.val (.named 1) o0), .box false (.val (.named 2) o1), .box false (.val (.named 3) o2)]
def x3_s0 (b : List UInt8) (l : List N.TAsk) (m : List N.TTell) (o0 : N.TAsk) (o1 : N.TTell) (o2 : N.Ttenancymade_Picks) (x_ : Unit ⊕ Unit) : Tree (CodeOut E) := altT x_ (fun u0_ => .ret (.ret, ofSlots E 177 [] [3, 8, 10, 11] [.val (.slice (.int .u8)) b, .val .bool false, .val (.slice (.named 1)) l, .val (.slice (.named 2)) m], [.box false (.val (.named 1) o0), .box false (.val (.named 2) o1), .box false (.val (.named 3) o2)])) (fun w0_ => .ret (.exit 0, ofSlots E 177 [] [3, 8, 10, 11] [.val (.slice (.int .u8)) b, .undef, .val (.slice (.named 1)) l, .val (.slice (.named 2)) m], [.box false (.val (.named 1) o0), .box false (.val (.named 2) o1), .box false (.val (.named 3) o2)]))
noncomputable def g3_s0 : Ins E (CodeOut E) := ⟨[.v (.slice (.int .u8)), .v (.slice (.named 1)), .v (.slice (.named 2)), .v (.int .i64)], [.box false (.v (.named 1)), .box false (.v (.named 2)), .box false (.v (.named 3))], fun b l m i o0 o1 o2 => .opt (N.law16_MsgAll_l0 N.fuel b l m o0 o1 o2 i) (x3_s0 b l m o0 o1 o2)⟩
noncomputable def L3 : Nat → LoopInfo E := clL E 177 [{ ks := [3, 10, 11, 12], mvs := [], pro := [], d := [], g := some (insF [g3_s0]) }] []
theorem f3_s0 (b : List UInt8) (l : List N.TAsk) (m : List N.TTell) (o0 : N.TAsk) (o1 : N.TTell) (o2 : N.Ttenancymade_Picks) (i : Int) : ((stepOf E S3 L3 0 0 Try.f3 (h3_s0 b l m o0 o1 o2 i) (t3_s0 b l m o0 o1 o2 i)).bind (nx E [3, 10, 11, 12] [] [3, 8, 10, 11] 3)).get = N.law16_MsgAll_s0k N.fuel b l m o0 o1 o2 (fun v_ => some (.inl (h3_s0 b l m o0 o1 o2 v_, t3_s0 b l m o0 o1 o2 v_))) (fun x_ => some (.inr (.ret, ofSlots E 177 [] [3, 8, 10, 11] [.val (.slice (.int .u8)) b, .val .bool false, .val (.slice (.named 1)) l, .val (.slice (.named 2)) m], [.box false (.val (.named 1) o0), .box false (.val (.named 2) o1), .box false (.val (.named 3) o2)]))) (fun x_ => some (.inr (.exit 0, ofSlots E 177 [] [3, 8, 10, 11] [.val (.slice (.int .u8)) b, .undef, .val (.slice (.named 1)) l, .val (.slice (.named 2)) m], [.box false (.val (.named 1) o0), .box false (.val (.named 2) o1), .box false (.val (.named 3) o2)]))) i := by kernel_rfl
theorem q3_s0 : InsLp 177 [3, 10, 11, 12] [] [] (stepOf E S3 L3 0 0 Try.f3) g3_s0 := by
  intro b l m i o0 o1 o2 out_ ho_
  obtain ⟨x_, h1_, h2_⟩ := Option.bind_eq_some_iff.1 ho_
  refine iter_loop (rs := [3, 8, 10, 11]) (step := N.law16_MsgAll_s0 N.fuel b l m o0 o1 o2) (hd := fun v_ => h3_s0 b l m o0 o1 o2 v_) (sv := fun v_ => t3_s0 b l m o0 o1 o2 v_) (ex := x3_s0 b l m o0 o1 o2) (fun v_ => ?_) N.fuel i h1_ h2_
  refine (f3_s0 b l m o0 o1 o2 v_).trans ((N.law16_MsgAll_s0_bind N.fuel b l m o0 o1 o2 _ _ _ v_).trans ?_)
  refine congrArg _ (funext fun s_ => ?_)
  rcases s_ with v_ | a | a <;> rfl
noncomputable def B3 : List (DVal E.T) → St E.T → Tree (Res E.T × St E.T) := dbody E (lookS S3) (lookD []) L3 0 false Try.f3
theorem B3_ok : FnOk Try.prog E 3 B3 := bodyC_ok sound mix S3_ok (SD := []) trivial (L := L3) (N := 0) (keep := false) Try.func3 rfl (by
  intro k g hg fr st out ho
  match k, hg with
  | 0, hg => cases hg; exact lp_ok (allLp_cons q3_s0 (allLp_nil)) fr st out ho
  | _ + 1, hg => cases hg)
theorem F3 (wild : N.TAsk) (odd : N.TTell) (picks : List UInt8) (b : List UInt8) : (B3 [.val (.named 1) wild, .val (.named 2) odd, .val (.slice (.int .u8)) picks, .val (.slice (.int .u8)) b] []).get = N.law16_MsgAll_k N.fuel (fun x_ => some (.ret [.val .bool x_], [])) wild odd picks b := by kernel_rfl
noncomputable def i3 : Ins E (Res E.T × St E.T) := ⟨[.v (.named 1), .v (.named 2), .v (.slice (.int .u8)), .v (.slice (.int .u8))], [], fun wild odd picks b => .opt (N.law16_MsgAll N.fuel wild odd picks b) fun x_ => .ret (.ret [.val .bool x_], [])⟩
theorem i3_ok : InsOk Try.prog 3 i3 := ⟨B3, B3_ok, by intro wild odd picks b out_ h_; exact ((F3 wild odd picks b).trans (N.law16_MsgAll_bind N.fuel _ wild odd picks b)).trans h_⟩
noncomputable def P3 : Nat × D.Spec E := (3, .pure [(.named 1), (.named 2), (.slice (.int .u8)), (.slice (.int .u8))] (pureF [i3]))
theorem p3 : SpecOk Try.prog E P3.1 P3.2 := pureI_ok Try.call3 ⟨i3_ok, trivial⟩

/-! tenancy/tenancylaw16.MsgBack -/
noncomputable def S4 : List (Nat × D.Spec E) := [P10, P11, P12, P15, P18, P21, P23, P25, P8]
theorem S4_ok : AllS Try.prog E S4 := ⟨p10, p11, p12, p15, p18, p21, p23, p25, p8, trivial⟩
noncomputable def L4 : Nat → LoopInfo E := clL E 188 [] []
noncomputable def B4 : List (DVal E.T) → St E.T → Tree (Res E.T × St E.T) := dbody E (lookS S4) (lookD []) L4 0 false Try.f4
theorem B4_ok : FnOk Try.prog E 4 B4 := bodyC_ok sound mix S4_ok (SD := []) trivial (L := L4) (N := 0) (keep := false) Try.func4 rfl (by
  intro k g hg fr st out ho
  match k, hg with
  | _, hg => cases hg)
theorem F4 (a : List UInt8) (b : List UInt8) (at_ : Int) (by_ : UInt8) (more : UInt8) : (B4 [.val (.slice (.int .u8)) a, .val (.slice (.int .u8)) b, .val (.int .u16) at_, .val (.int .u8) by_, .val (.int .u8) more] []).get = N.law16_MsgBack_k N.fuel (fun x_ => some (.ret [.val .bool x_], [])) a b at_ by_ more := by kernel_rfl
noncomputable def i4 : Ins E (Res E.T × St E.T) := ⟨[.v (.slice (.int .u8)), .v (.slice (.int .u8)), .v (.int .u16), .v (.int .u8), .v (.int .u8)], [], fun a b at_ by_ more => .opt (N.law16_MsgBack N.fuel a b at_ by_ more) fun x_ => .ret (.ret [.val .bool x_], [])⟩
theorem i4_ok : InsOk Try.prog 4 i4 := ⟨B4, B4_ok, by intro a b at_ by_ more out_ h_; exact ((F4 a b at_ by_ more).trans (N.law16_MsgBack_bind N.fuel _ a b at_ by_ more)).trans h_⟩
noncomputable def P4 : Nat × D.Spec E := (4, .pure [(.slice (.int .u8)), (.slice (.int .u8)), (.int .u16), (.int .u8), (.int .u8)] (pureF [i4]))
theorem p4 : SpecOk Try.prog E P4.1 P4.2 := pureI_ok Try.call4 ⟨i4_ok, trivial⟩

/-! tenancy/tenancylaw16.MsgForms -/
noncomputable def S5 : List (Nat × D.Spec E) := [P13, P15, P18, P19, P21, P23, P25, P8]
theorem S5_ok : AllS Try.prog E S5 := ⟨p13, p15, p18, p19, p21, p23, p25, p8, trivial⟩
abbrev h5_s0 (good : List N.TAsk) (bad : List N.TAsk) (r0 : List N.TWrite) (i : Int) : Fr E.T := ofSlots E 196 [] [2, 3, 4] [.val (.slice (.named 1)) good, .val (.slice (.named 1)) bad, .val (.int .i64) i]
abbrev t5_s0 (good : List N.TAsk) (bad : List N.TAsk) (r0 : List N.TWrite) (i : Int) : St E.T := [.arr .froz (.named 0) r0]
def x5_s0 (good : List N.TAsk) (bad : List N.TAsk) (r0 : List N.TWrite) (x_ : N.TAsk ⊕ Unit) : Tree (CodeOut E) := altT x_ (fun u0_ => .ret (.ret, ofSlots E 196 [] [0, 3] [.val .bool false, .val (.slice (.named 1)) bad], [.arr .froz (.named 0) r0, .box false (.val (.named 1) u0_)])) (fun w0_ => .ret (.exit 0, ofSlots E 196 [] [0, 3] [.undef, .val (.slice (.named 1)) bad], [.arr .froz (.named 0) r0]))
noncomputable def g5_s0 : Ins E (CodeOut E) := ⟨[.v (.slice (.named 1)), .v (.slice (.named 1)), .v (.int .i64)], [.arr .froz (.named 0)], fun good bad i r0 => .opt (N.law16_MsgForms_l0 N.fuel good bad r0 i) (x5_s0 good bad r0)⟩
abbrev h5_s1 (bad : List N.TAsk) (r0 : List N.TWrite) (i : Int) : Fr E.T := ofSlots E 196 [] [3, 7] [.val (.slice (.named 1)) bad, .val (.int .i64) i]
abbrev t5_s1 (bad : List N.TAsk) (r0 : List N.TWrite) (i : Int) : St E.T := [.arr .froz (.named 0) r0]
def x5_s1 (bad : List N.TAsk) (r0 : List N.TWrite) (x_ : Unit ⊕ Unit) : Tree (CodeOut E) := altT x_ (fun u0_ => .ret (.ret, ofSlots E 196 [] [0] [.val .bool false], [.arr .froz (.named 0) r0])) (fun w0_ => .ret (.exit 2, ofSlots E 196 [] [0] [.undef], [.arr .froz (.named 0) r0]))
noncomputable def g5_s1 : Ins E (CodeOut E) := ⟨[.v (.slice (.named 1)), .v (.int .i64)], [.arr .froz (.named 0)], fun bad i r0 => .opt (N.law16_MsgForms_l1 N.fuel bad r0 i) (x5_s1 bad r0)⟩
abbrev h5_s2 (tells : List N.TTell) (none_ : List N.TTell) (r0 : List N.TWrite) (i : Int) : Fr E.T := ofSlots E 196 [] [8, 9, 10] [.val (.slice (.named 2)) tells, .val (.slice (.named 2)) none_, .val (.int .i64) i]
abbrev t5_s2 (tells : List N.TTell) (none_ : List N.TTell) (r0 : List N.TWrite) (i : Int) : St E.T := [.arr .froz (.named 0) r0]
def x5_s2 (tells : List N.TTell) (none_ : List N.TTell) (r0 : List N.TWrite) (x_ : N.TTell ⊕ Unit) : Tree (CodeOut E) := altT x_ (fun u0_ => .ret (.ret, ofSlots E 196 [] [0, 9] [.val .bool false, .val (.slice (.named 2)) none_], [.arr .froz (.named 0) r0, .box false (.val (.named 2) u0_)])) (fun w0_ => .ret (.exit 4, ofSlots E 196 [] [0, 9] [.undef, .val (.slice (.named 2)) none_], [.arr .froz (.named 0) r0]))
noncomputable def g5_s2 : Ins E (CodeOut E) := ⟨[.v (.slice (.named 2)), .v (.slice (.named 2)), .v (.int .i64)], [.arr .froz (.named 0)], fun tells none_ i r0 => .opt (N.law16_MsgForms_l2 N.fuel tells none_ r0 i) (x5_s2 tells none_ r0)⟩
abbrev h5_s3 (none_ : List N.TTell) (r0 : List N.TWrite) (i : Int) : Fr E.T := ofSlots E 196 [] [9, 13] [.val (.slice (.named 2)) none_, .val (.int .i64) i]
abbrev t5_s3 (none_ : List N.TTell) (r0 : List N.TWrite) (i : Int) : St E.T := [.arr .froz (.named 0) r0]
def x5_s3 (none_ : List N.TTell) (r0 : List N.TWrite) (x_ : Unit ⊕ Unit) : Tree (CodeOut E) := altT x_ (fun u0_ => .ret (.ret, ofSlots E 196 [] [0] [.val .bool false], [.arr .froz (.named 0) r0])) (fun w0_ => .ret (.exit 6, ofSlots E 196 [] [0] [.undef], [.arr .froz (.named 0) r0]))
noncomputable def g5_s3 : Ins E (CodeOut E) := ⟨[.v (.slice (.named 2)), .v (.int .i64)], [.arr .froz (.named 0)], fun none_ i r0 => .opt (N.law16_MsgForms_l3 N.fuel none_ r0 i) (x5_s3 none_ r0)⟩
noncomputable def L5 : Nat → LoopInfo E := clL E 196 [{ ks := [2, 3, 4], mvs := [], pro := [], d := [], g := some (insF [g5_s0]) }, { ks := [3, 7], mvs := [], pro := [], d := [], g := some (insF [g5_s1]) }, { ks := [8, 9, 10], mvs := [], pro := [], d := [], g := some (insF [g5_s2]) }, { ks := [9, 13], mvs := [], pro := [], d := [], g := some (insF [g5_s3]) }] []
theorem f5_s0 (good : List N.TAsk) (bad : List N.TAsk) (r0 : List N.TWrite) (i : Int) : ((stepOf E S5 L5 0 0 Try.f5 (h5_s0 good bad r0 i) (t5_s0 good bad r0 i)).bind (nx E [2, 3, 4] [] [0, 3] 1)).get = N.law16_MsgForms_s0k N.fuel good bad r0 (fun v_ => some (.inl (h5_s0 good bad r0 v_, t5_s0 good bad r0 v_))) (fun x_ => some (.inr (.ret, ofSlots E 196 [] [0, 3] [.val .bool false, .val (.slice (.named 1)) bad], [.arr .froz (.named 0) r0, .box false (.val (.named 1) x_)]))) (fun x_ => some (.inr (.exit 0, ofSlots E 196 [] [0, 3] [.undef, .val (.slice (.named 1)) bad], [.arr .froz (.named 0) r0]))) i := by kernel_rfl
theorem q5_s0 : InsLp 196 [2, 3, 4] [] [] (stepOf E S5 L5 0 0 Try.f5) g5_s0 := by
  intro good bad i r0 out_ ho_
  obtain ⟨x_, h1_, h2_⟩ := Option.bind_eq_some_iff.1 ho_
  refine iter_loop (rs := [0, 3]) (step := N.law16_MsgForms_s0 N.fuel good bad r0) (hd := fun v_ => h5_s0 good bad r0 v_) (sv := fun v_ => t5_s0 good bad r0 v_) (ex := x5_s0 good bad r0) (fun v_ => ?_) N.fuel i h1_ h2_
  refine (f5_s0 good bad r0 v_).trans ((N.law16_MsgForms_s0_bind N.fuel good bad r0 _ _ _ v_).trans ?_)
  refine congrArg _ (funext fun s_ => ?_)
  rcases s_ with v_ | a | a <;> rfl
theorem f5_s1 (bad : List N.TAsk) (r0 : List N.TWrite) (i : Int) : ((stepOf E S5 L5 0 1 Try.f5 (h5_s1 bad r0 i) (t5_s1 bad r0 i)).bind (nx E [3, 7] [] [0] 1)).get = N.law16_MsgForms_s1k N.fuel bad r0 (fun v_ => some (.inl (h5_s1 bad r0 v_, t5_s1 bad r0 v_))) (fun x_ => some (.inr (.ret, ofSlots E 196 [] [0] [.val .bool false], [.arr .froz (.named 0) r0]))) (fun x_ => some (.inr (.exit 2, ofSlots E 196 [] [0] [.undef], [.arr .froz (.named 0) r0]))) i := by kernel_rfl
theorem q5_s1 : InsLp 196 [3, 7] [] [] (stepOf E S5 L5 0 1 Try.f5) g5_s1 := by
  intro bad i r0 out_ ho_
  obtain ⟨x_, h1_, h2_⟩ := Option.bind_eq_some_iff.1 ho_
  refine iter_loop (rs := [0]) (step := N.law16_MsgForms_s1 N.fuel bad r0) (hd := fun v_ => h5_s1 bad r0 v_) (sv := fun v_ => t5_s1 bad r0 v_) (ex := x5_s1 bad r0) (fun v_ => ?_) N.fuel i h1_ h2_
  refine (f5_s1 bad r0 v_).trans ((N.law16_MsgForms_s1_bind N.fuel bad r0 _ _ _ v_).trans ?_)
  refine congrArg _ (funext fun s_ => ?_)
  rcases s_ with v_ | a | a <;> rfl
theorem f5_s2 (tells : List N.TTell) (none_ : List N.TTell) (r0 : List N.TWrite) (i : Int) : ((stepOf E S5 L5 0 2 Try.f5 (h5_s2 tells none_ r0 i) (t5_s2 tells none_ r0 i)).bind (nx E [8, 9, 10] [] [0, 9] 1)).get = N.law16_MsgForms_s2k N.fuel tells none_ r0 (fun v_ => some (.inl (h5_s2 tells none_ r0 v_, t5_s2 tells none_ r0 v_))) (fun x_ => some (.inr (.ret, ofSlots E 196 [] [0, 9] [.val .bool false, .val (.slice (.named 2)) none_], [.arr .froz (.named 0) r0, .box false (.val (.named 2) x_)]))) (fun x_ => some (.inr (.exit 4, ofSlots E 196 [] [0, 9] [.undef, .val (.slice (.named 2)) none_], [.arr .froz (.named 0) r0]))) i := by kernel_rfl
theorem q5_s2 : InsLp 196 [8, 9, 10] [] [] (stepOf E S5 L5 0 2 Try.f5) g5_s2 := by
  intro tells none_ i r0 out_ ho_
  obtain ⟨x_, h1_, h2_⟩ := Option.bind_eq_some_iff.1 ho_
  refine iter_loop (rs := [0, 9]) (step := N.law16_MsgForms_s2 N.fuel tells none_ r0) (hd := fun v_ => h5_s2 tells none_ r0 v_) (sv := fun v_ => t5_s2 tells none_ r0 v_) (ex := x5_s2 tells none_ r0) (fun v_ => ?_) N.fuel i h1_ h2_
  refine (f5_s2 tells none_ r0 v_).trans ((N.law16_MsgForms_s2_bind N.fuel tells none_ r0 _ _ _ v_).trans ?_)
  refine congrArg _ (funext fun s_ => ?_)
  rcases s_ with v_ | a | a <;> rfl
theorem f5_s3 (none_ : List N.TTell) (r0 : List N.TWrite) (i : Int) : ((stepOf E S5 L5 0 3 Try.f5 (h5_s3 none_ r0 i) (t5_s3 none_ r0 i)).bind (nx E [9, 13] [] [0] 1)).get = N.law16_MsgForms_s3k N.fuel none_ r0 (fun v_ => some (.inl (h5_s3 none_ r0 v_, t5_s3 none_ r0 v_))) (fun x_ => some (.inr (.ret, ofSlots E 196 [] [0] [.val .bool false], [.arr .froz (.named 0) r0]))) (fun x_ => some (.inr (.exit 6, ofSlots E 196 [] [0] [.undef], [.arr .froz (.named 0) r0]))) i := by kernel_rfl
theorem q5_s3 : InsLp 196 [9, 13] [] [] (stepOf E S5 L5 0 3 Try.f5) g5_s3 := by
  intro none_ i r0 out_ ho_
  obtain ⟨x_, h1_, h2_⟩ := Option.bind_eq_some_iff.1 ho_
  refine iter_loop (rs := [0]) (step := N.law16_MsgForms_s3 N.fuel none_ r0) (hd := fun v_ => h5_s3 none_ r0 v_) (sv := fun v_ => t5_s3 none_ r0 v_) (ex := x5_s3 none_ r0) (fun v_ => ?_) N.fuel i h1_ h2_
  refine (f5_s3 none_ r0 v_).trans ((N.law16_MsgForms_s3_bind N.fuel none_ r0 _ _ _ v_).trans ?_)
  refine congrArg _ (funext fun s_ => ?_)
  rcases s_ with v_ | a | a <;> rfl
noncomputable def B5 : List (DVal E.T) → St E.T → Tree (Res E.T × St E.T) := dbody E (lookS S5) (lookD []) L5 0 false Try.f5
theorem B5_ok : FnOk Try.prog E 5 B5 := bodyC_ok sound mix S5_ok (SD := []) trivial (L := L5) (N := 0) (keep := false) Try.func5 rfl (by
  intro k g hg fr st out ho
  match k, hg with
  | 0, hg => cases hg; exact lp_ok (allLp_cons q5_s0 (allLp_nil)) fr st out ho
  | 1, hg => cases hg; exact lp_ok (allLp_cons q5_s1 (allLp_nil)) fr st out ho
  | 2, hg => cases hg; exact lp_ok (allLp_cons q5_s2 (allLp_nil)) fr st out ho
  | 3, hg => cases hg; exact lp_ok (allLp_cons q5_s3 (allLp_nil)) fr st out ho
  | _ + 4, hg => cases hg)
theorem F5 : (B5 [] []).get = N.law16_MsgForms_k N.fuel (fun x_ => some (.ret [.val .bool x_], [])) := by kernel_rfl
noncomputable def i5 : Ins E (Res E.T × St E.T) := ⟨[], [], .opt (N.law16_MsgForms N.fuel) fun x_ => .ret (.ret [.val .bool x_], [])⟩
theorem i5_ok : InsOk Try.prog 5 i5 := ⟨B5, B5_ok, by intro out_ h_; exact ((F5).trans (N.law16_MsgForms_bind N.fuel _)).trans h_⟩
noncomputable def P5 : Nat × D.Spec E := (5, .pure [] (pureF [i5]))
theorem p5 : SpecOk Try.prog E P5.1 P5.2 := pureI_ok Try.call5 ⟨i5_ok, trivial⟩

/-! tenancy/tenancylaw16.MsgApart -/
noncomputable def S6 : List (Nat × D.Spec E) := [P10, P11, P12, P15, P17, P21, P8]
theorem S6_ok : AllS Try.prog E S6 := ⟨p10, p11, p12, p15, p17, p21, p8, trivial⟩
noncomputable def L6 : Nat → LoopInfo E := clL E 60 [] []
noncomputable def B6 : List (DVal E.T) → St E.T → Tree (Res E.T × St E.T) := dbody E (lookS S6) (lookD []) L6 0 false Try.f6
theorem B6_ok : FnOk Try.prog E 6 B6 := bodyC_ok sound mix S6_ok (SD := []) trivial (L := L6) (N := 0) (keep := false) Try.func6 rfl (by
  intro k g hg fr st out ho
  match k, hg with
  | _, hg => cases hg)
theorem F6 (a : List UInt8) (b : List UInt8) : (B6 [.val (.slice (.int .u8)) a, .val (.slice (.int .u8)) b] []).get = N.law16_MsgApart_k N.fuel (fun x_ => some (.ret [.val .bool x_], [])) a b := by kernel_rfl
noncomputable def i6 : Ins E (Res E.T × St E.T) := ⟨[.v (.slice (.int .u8)), .v (.slice (.int .u8))], [], fun a b => .opt (N.law16_MsgApart N.fuel a b) fun x_ => .ret (.ret [.val .bool x_], [])⟩
theorem i6_ok : InsOk Try.prog 6 i6 := ⟨B6, B6_ok, by intro a b out_ h_; exact ((F6 a b).trans (N.law16_MsgApart_bind N.fuel _ a b)).trans h_⟩
noncomputable def P6 : Nat × D.Spec E := (6, .pure [(.slice (.int .u8)), (.slice (.int .u8))] (pureF [i6]))
theorem p6 : SpecOk Try.prog E P6.1 P6.2 := pureI_ok Try.call6 ⟨i6_ok, trivial⟩

/-! tenancy/tenancylaw16.MsgLong -/
noncomputable def S7 : List (Nat × D.Spec E) := [P10, P11, P12, P15, P21, P8]
theorem S7_ok : AllS Try.prog E S7 := ⟨p10, p11, p12, p15, p21, p8, trivial⟩
abbrev h7_s0 (o0 : N.Ttenancymade_Picks) (o1 : N.Ttenancymade_Picks) (x : N.TAsk) (y : N.TTell) (n : Int) (i : Int) : Fr E.T := ofSlots E 61 [] [5, 6, 7, 8] [.ptr 2 [], .ptr 3 [], .val (.int .i64) n, .val (.int .i64) i]
abbrev t7_s0 (o0 : N.Ttenancymade_Picks) (o1 : N.Ttenancymade_Picks) (x : N.TAsk) (y : N.TTell) (n : Int) (i : Int) : St E.T := [.box false (.val (.named 3) o0), .box false (.val (.named 3) o1), .box false (.val (.named 1) x), .box false (.val (.named 2) y)]
def x7_s0 (o0 : N.Ttenancymade_Picks) (o1 : N.Ttenancymade_Picks) (x : N.TAsk) (y : N.TTell) (x_ : Int) : Tree (CodeOut E) := .ret (.exit 0, ofSlots E 61 [] [4, 5, 6, 7] [.undef, .ptr 2 [], .ptr 3 [], .val (.int .i64) x_], [.box false (.val (.named 3) o0), .box false (.val (.named 3) o1), .box false (.val (.named 1) x), .box false (.val (.named 2) y)])
noncomputable def g7_s0 : Ins E (CodeOut E) := ⟨[.ptr 2 [], .ptr 3 [], .v (.int .i64), .v (.int .i64)], [.box false (.v (.named 3)), .box false (.v (.named 3)), .box false (.v (.named 1)), .box false (.v (.named 2))], fun n i o0 o1 x y => .opt (N.law16_MsgLong_l0 N.fuel o0 o1 x y n i) (x7_s0 o0 o1 x y)⟩
noncomputable def L7 : Nat → LoopInfo E := clL E 61 [{ ks := [5, 6, 7, 8], mvs := [], pro := [], d := [], g := some (insF [g7_s0]) }] []
theorem f7_s0 (o0 : N.Ttenancymade_Picks) (o1 : N.Ttenancymade_Picks) (x : N.TAsk) (y : N.TTell) (n : Int) (i : Int) : ((stepOf E S7 L7 0 0 Try.f7 (h7_s0 o0 o1 x y n i) (t7_s0 o0 o1 x y n i)).bind (nx E [5, 6, 7, 8] [] [4, 5, 6, 7] 4)).get = N.law16_MsgLong_s0k o0 o1 x y (fun v_ => some (.inl (h7_s0 o0 o1 x y v_.1 v_.2, t7_s0 o0 o1 x y v_.1 v_.2))) (fun x_ => some (.inr (.exit 0, ofSlots E 61 [] [4, 5, 6, 7] [.undef, .ptr 2 [], .ptr 3 [], .val (.int .i64) x_], [.box false (.val (.named 3) o0), .box false (.val (.named 3) o1), .box false (.val (.named 1) x), .box false (.val (.named 2) y)]))) n i := by kernel_rfl
theorem q7_s0 : InsLp 61 [5, 6, 7, 8] [] [] (stepOf E S7 L7 0 0 Try.f7) g7_s0 := by
  intro n i o0 o1 x y out_ ho_
  obtain ⟨x_, h1_, h2_⟩ := Option.bind_eq_some_iff.1 ho_
  refine iter_loop (rs := [4, 5, 6, 7]) (step := N.law16_MsgLong_s0 o0 o1 x y) (hd := fun v_ => h7_s0 o0 o1 x y v_.1 v_.2) (sv := fun v_ => t7_s0 o0 o1 x y v_.1 v_.2) (ex := x7_s0 o0 o1 x y) (fun v_ => ?_) N.fuel (n, i) h1_ h2_
  refine (f7_s0 o0 o1 x y v_.1 v_.2).trans ((N.law16_MsgLong_s0_bind o0 o1 x y _ _ v_.1 v_.2).trans ?_)
  refine congrArg _ (funext fun s_ => ?_)
  rcases s_ with v_ | a <;> rfl
noncomputable def B7 : List (DVal E.T) → St E.T → Tree (Res E.T × St E.T) := dbody E (lookS S7) (lookD []) L7 0 false Try.f7
theorem B7_ok : FnOk Try.prog E 7 B7 := bodyC_ok sound mix S7_ok (SD := []) trivial (L := L7) (N := 0) (keep := false) Try.func7 rfl (by
  intro k g hg fr st out ho
  match k, hg with
  | 0, hg => cases hg; exact lp_ok (allLp_cons q7_s0 (allLp_nil)) fr st out ho
  | _ + 1, hg => cases hg)
theorem F7 (a : List UInt8) (b : List UInt8) : (B7 [.val (.slice (.int .u8)) a, .val (.slice (.int .u8)) b] []).get = N.law16_MsgLong_k N.fuel (fun x_ => some (.ret [.val .bool x_], [])) a b := by kernel_rfl
noncomputable def i7 : Ins E (Res E.T × St E.T) := ⟨[.v (.slice (.int .u8)), .v (.slice (.int .u8))], [], fun a b => .opt (N.law16_MsgLong N.fuel a b) fun x_ => .ret (.ret [.val .bool x_], [])⟩
theorem i7_ok : InsOk Try.prog 7 i7 := ⟨B7, B7_ok, by intro a b out_ h_; exact ((F7 a b).trans (N.law16_MsgLong_bind N.fuel _ a b)).trans h_⟩
noncomputable def P7 : Nat × D.Spec E := (7, .pure [(.slice (.int .u8)), (.slice (.int .u8))] (pureF [i7]))
theorem p7 : SpecOk Try.prog E P7.1 P7.2 := pureI_ok Try.call7 ⟨i7_ok, trivial⟩

end Go.Proofs.Ytphcaobgkegbaaa.M

/- The seat's functions, and the nice ones (1). -/
import Derived.Test.YtddhfdbfackahaaDoorSeat1
import Derived.Test.YtddhfdbfackahaaDoorSeat2
set_option linter.unusedVariables false
set_option maxRecDepth 100000
namespace Go.Proofs.YtddhfdbfackahaaDoor.J
open Go Go.Proofs.YtddhfdbfackahaaDoor.D
noncomputable def S26 : List (Nat × D.Spec E) := []
theorem S26_ok : AllS Tryd.prog E S26 := trivial
noncomputable def L26 : Nat → LoopInfo E := clL E 3 [] []
noncomputable def B26 : List (DVal E.T) → St E.T → Tree (Res E.T × St E.T) := dbody E (lookS S26) (lookD []) L26 0 false Tryd.f26
theorem B26_ok : FnOk Tryd.prog E 26 B26 := bodyC_ok sound mix S26_ok (SD := []) trivial (L := L26) (N := 0) (keep := false) Tryd.func26 rfl (by
  intro k g hg fr st out ho
  match k, hg with
  | _, hg => cases hg)
theorem F26 : (B26 [] []).get = N.ref5_noughts_k (fun x_ => some (.ret [.val .str ([0, 0, 0, 0, 0, 0, 0, 0, 0, 0, 0, 0, 0, 0, 0, 0, 0, 0, 0, 0, 0, 0, 0, 0, 0, 0, 0, 0, 0, 0, 0, 0])], [])) := by kernel_rfl
noncomputable def i26 : Ins E (Res E.T × St E.T) := ⟨[], [], .ret (.ret [.val .str ([0, 0, 0, 0, 0, 0, 0, 0, 0, 0, 0, 0, 0, 0, 0, 0, 0, 0, 0, 0, 0, 0, 0, 0, 0, 0, 0, 0, 0, 0, 0, 0])], [])⟩
theorem i26_ok : InsOk Tryd.prog 26 i26 := ⟨B26, B26_ok, by intro out_ h_; exact ((F26).trans (N.ref5_noughts_bind _)).trans h_⟩
noncomputable def P26 : Nat × D.Spec E := (26, .pure [] (pureF [i26]))
theorem p26 : SpecOk Tryd.prog E P26.1 P26.2 := pureI_ok Tryd.call26 ⟨i26_ok, trivial⟩
noncomputable def S10 : List (Nat × D.Spec E) := [P26]
theorem S10_ok : AllS Tryd.prog E S10 := ⟨p26, trivial⟩
abbrev h10_s0 (n : Int) (i : Int) (o0 : N.TDisk) (d : N.TDisk) : Fr E.T := ofSlots E 22 [] [0, 2, 3, 4] [.val (.int .i64) n, .ptr 0 [], .ptr 1 [], .val (.int .i64) i]
abbrev t10_s0 (n : Int) (i : Int) (o0 : N.TDisk) (d : N.TDisk) : St E.T := [.box false (.agg 1 [.nils, .nils, .val (.int .i64) o0.Arm, .val .bool o0.Down]), .box false (.agg 1 [.own 2, .nils, .val (.int .i64) d.Arm, .val .bool d.Down]), .arr .live .str d.Last]
def x10_s0 (n : Int) (x_ : N.TDisk × N.TDisk) : Tree (CodeOut E) := .ret (.exit 0, ofSlots E 22 [] [2, 3] [.ptr 0 [], .ptr 1 []], [.box false (.agg 1 [.nils, .nils, .val (.int .i64) x_.1.Arm, .val .bool x_.1.Down]), .box false (.agg 1 [.own 2, .nils, .val (.int .i64) x_.2.Arm, .val .bool x_.2.Down]), .arr .live .str x_.2.Last])
noncomputable def g10_s0 : Ins E (CodeOut E) := ⟨[.v (.int .i64), .ptr 0 [], .ptr 1 [], .v (.int .i64)], [.box false (.agg 1 [.nils, .nils, .v (.int .i64), .v .bool]), .box false (.agg 1 [.own 2, .nils, .v (.int .i64), .v .bool]), .arr .live .str], fun n i o0_Arm o0_Down d_Arm d_Down a2_ => .opt (N.ref5_New_l0 N.fuel n i (N.TDisk.mk [] [] o0_Arm o0_Down) (N.TDisk.mk a2_ [] d_Arm d_Down)) (x10_s0 n)⟩
noncomputable def L10 : Nat → LoopInfo E := clL E 22 [{ ks := [0, 2, 3, 4], mvs := [], pro := [.pro (.obj 1) [0] .str], d := [], g := some (insF [g10_s0]) }] []
theorem f10_s0 (n : Int) (i : Int) (o0 : N.TDisk) (d : N.TDisk) : ((stepOf E S10 L10 0 0 Tryd.f10 (h10_s0 n i o0 d) (t10_s0 n i o0 d)).bind (nx E [0, 2, 3, 4] [] [2, 3] 3)).get = N.ref5_New_s0k n (fun v_ => some (.inl (h10_s0 n v_.1 v_.2.1 v_.2.2, t10_s0 n v_.1 v_.2.1 v_.2.2))) (fun x_ => some (.inr (.exit 0, ofSlots E 22 [] [2, 3] [.ptr 0 [], .ptr 1 []], [.box false (.agg 1 [.nils, .nils, .val (.int .i64) x_.1.Arm, .val .bool x_.1.Down]), .box false (.agg 1 [.own 2, .nils, .val (.int .i64) x_.2.Arm, .val .bool x_.2.Down]), .arr .live .str x_.2.Last]))) i o0 d := by kernel_rfl
theorem q10_s0 : InsLp 22 [0, 2, 3, 4] [] [] (stepOf E S10 L10 0 0 Tryd.f10) g10_s0 := by
  intro n i o0_Arm o0_Down d_Arm d_Down a2_ out_ ho_
  obtain ⟨x_, h1_, h2_⟩ := Option.bind_eq_some_iff.1 ho_
  refine iter_loop (rs := [2, 3]) (step := N.ref5_New_s0 n) (hd := fun v_ => h10_s0 n v_.1 v_.2.1 v_.2.2) (sv := fun v_ => t10_s0 n v_.1 v_.2.1 v_.2.2) (ex := x10_s0 n) (fun v_ => ?_) N.fuel (i, (N.TDisk.mk [] [] o0_Arm o0_Down), (N.TDisk.mk a2_ [] d_Arm d_Down)) h1_ h2_
  refine (f10_s0 n v_.1 v_.2.1 v_.2.2).trans ((N.ref5_New_s0_bind n _ _ v_.1 v_.2.1 v_.2.2).trans ?_)
  refine congrArg _ (funext fun s_ => ?_)
  rcases s_ with v_ | a <;> rfl
noncomputable def B10 : List (DVal E.T) → St E.T → Tree (Res E.T × St E.T) := dbody E (lookS S10) (lookD []) L10 0 false Tryd.f10
theorem B10_ok : FnOk Tryd.prog E 10 B10 := bodyC_ok sound mix S10_ok (SD := []) trivial (L := L10) (N := 0) (keep := false) Tryd.func10 rfl (by
  intro k g hg fr st out ho
  match k, hg with
  | 0, hg => cases hg; exact lp_ok (allLp_cons q10_s0 (allLp_nil)) fr st out ho
  | _ + 1, hg => cases hg)
theorem F10 (n : Int) : (B10 [.val (.int .i64) n] []).get = N.ref5_New_k N.fuel (fun x_ => some (.ret [.val (.named 1) x_], [])) n := by kernel_rfl
noncomputable def i10 : Ins E (Res E.T × St E.T) := ⟨[.v (.int .i64)], [], fun n => .opt (N.ref5_New N.fuel n) fun x_ => .ret (.ret [.val (.named 1) x_], [])⟩
theorem i10_ok : InsOk Tryd.prog 10 i10 := ⟨B10, B10_ok, by intro n out_ h_; exact ((F10 n).trans (N.ref5_New_bind N.fuel _ n)).trans h_⟩
noncomputable def P10 : Nat × D.Spec E := (10, .pure [(.int .i64)] (pureF [i10]))
theorem p10 : SpecOk Tryd.prog E P10.1 P10.2 := pureI_ok Tryd.call10 ⟨i10_ok, trivial⟩
noncomputable def S16 : List (Nat × D.Spec E) := []
theorem S16_ok : AllS Tryd.prog E S16 := trivial
abbrev h16_s0 (n : UInt8) (i : Int) (b : List UInt8) : Fr E.T := ofSlots E 25 [] [0, 3, 4] [.val (.int .u8) n, .own 0, .val (.int .i64) i]
abbrev t16_s0 (n : UInt8) (i : Int) (b : List UInt8) : St E.T := [.arr .live (.int .u8) b]
def x16_s0 (n : UInt8) (x_ : List UInt8) : Tree (CodeOut E) := .ret (.exit 0, ofSlots E 25 [] [2, 3] [.undef, .own 0], [.arr .live (.int .u8) x_])
noncomputable def g16_s0 : Ins E (CodeOut E) := ⟨[.v (.int .u8), .own 0, .v (.int .i64)], [.arr .live (.int .u8)], fun n i b => .opt (N.law6_sector_l0 N.fuel n i b) (x16_s0 n)⟩
noncomputable def L16 : Nat → LoopInfo E := clL E 25 [{ ks := [0, 3, 4], mvs := [], pro := [], d := [], g := some (insF [g16_s0]) }] []
theorem f16_s0 (n : UInt8) (i : Int) (b : List UInt8) : ((stepOf E S16 L16 0 0 Tryd.f16 (h16_s0 n i b) (t16_s0 n i b)).bind (nx E [0, 3, 4] [] [2, 3] 1)).get = N.law6_sector_s0k n (fun v_ => some (.inl (h16_s0 n v_.1 v_.2, t16_s0 n v_.1 v_.2))) (fun x_ => some (.inr (.exit 0, ofSlots E 25 [] [2, 3] [.undef, .own 0], [.arr .live (.int .u8) x_]))) i b := by kernel_rfl
theorem q16_s0 : InsLp 25 [0, 3, 4] [] [] (stepOf E S16 L16 0 0 Tryd.f16) g16_s0 := by
  intro n i b out_ ho_
  obtain ⟨x_, h1_, h2_⟩ := Option.bind_eq_some_iff.1 ho_
  refine iter_loop (rs := [2, 3]) (step := N.law6_sector_s0 n) (hd := fun v_ => h16_s0 n v_.1 v_.2) (sv := fun v_ => t16_s0 n v_.1 v_.2) (ex := x16_s0 n) (fun v_ => ?_) N.fuel (i, b) h1_ h2_
  refine (f16_s0 n v_.1 v_.2).trans ((N.law6_sector_s0_bind n _ _ v_.1 v_.2).trans ?_)
  refine congrArg _ (funext fun s_ => ?_)
  rcases s_ with v_ | a <;> rfl
noncomputable def B16 : List (DVal E.T) → St E.T → Tree (Res E.T × St E.T) := dbody E (lookS S16) (lookD []) L16 0 false Tryd.f16
theorem B16_ok : FnOk Tryd.prog E 16 B16 := bodyC_ok sound mix S16_ok (SD := []) trivial (L := L16) (N := 0) (keep := false) Tryd.func16 rfl (by
  intro k g hg fr st out ho
  match k, hg with
  | 0, hg => cases hg; exact lp_ok (allLp_cons q16_s0 (allLp_nil)) fr st out ho
  | _ + 1, hg => cases hg)
theorem F16 (n : UInt8) : (B16 [.val (.int .u8) n] []).get = N.law6_sector_k N.fuel (fun x_ => some (.ret [.val .str x_], [])) n := by kernel_rfl
noncomputable def i16 : Ins E (Res E.T × St E.T) := ⟨[.v (.int .u8)], [], fun n => .opt (N.law6_sector N.fuel n) fun x_ => .ret (.ret [.val .str x_], [])⟩
theorem i16_ok : InsOk Tryd.prog 16 i16 := ⟨B16, B16_ok, by intro n out_ h_; exact ((F16 n).trans (N.law6_sector_bind N.fuel _ n)).trans h_⟩
noncomputable def P16 : Nat × D.Spec E := (16, .pure [(.int .u8)] (pureF [i16]))
theorem p16 : SpecOk Tryd.prog E P16.1 P16.2 := pureI_ok Tryd.call16 ⟨i16_ok, trivial⟩
noncomputable def S20 : List (Nat × D.Spec E) := []
theorem S20_ok : AllS Tryd.prog E S20 := trivial
abbrev h20_s0 (home : Int) (l : List N.TPut) (t10 : List N.TPut) (t11 : Int) (d : N.TDisk) (last : Int) (t12 : Int) : Fr E.T := ofSlots E 48 [] [1, 2, 3, 7, 10, 11, 12] [.val (.int .i64) home, .val (.slice (.named 0)) l, .ptr 0 [], .val (.int .i64) last, .val (.slice (.named 0)) t10, .val (.int .i64) t11, .val (.int .i64) t12]
abbrev t20_s0 (home : Int) (l : List N.TPut) (t10 : List N.TPut) (t11 : Int) (d : N.TDisk) (last : Int) (t12 : Int) : St E.T := [.box false (.val (.named 1) d)]
def x20_s0 (home : Int) (l : List N.TPut) (t10 : List N.TPut) (t11 : Int) (d : N.TDisk) (x_ : N.TPut ⊕ Unit) : Tree (CodeOut E) := altT x_ (fun u0_ => .ret (.ret, ofSlots E 48 [] [1, 2, 3, 6] [.val (.int .i64) home, .val (.slice (.named 0)) l, .ptr 0 [], .val .bool false], [.box false (.val (.named 1) d), .box false (.val (.named 0) u0_)])) (fun w0_ => .ret (.exit 0, ofSlots E 48 [] [1, 2, 3, 6] [.val (.int .i64) home, .val (.slice (.named 0)) l, .ptr 0 [], .undef], [.box false (.val (.named 1) d)]))
noncomputable def g20_s0 : Ins E (CodeOut E) := ⟨[.v (.int .i64), .v (.slice (.named 0)), .ptr 0 [], .v (.int .i64), .v (.slice (.named 0)), .v (.int .i64), .v (.int .i64)], [.box false (.v (.named 1))], fun home l last t10 t11 t12 d => .opt (N.jrnl_may_l0 N.fuel home l t10 t11 d last t12) (x20_s0 home l t10 t11 d)⟩
noncomputable def L20 : Nat → LoopInfo E := clL E 48 [{ ks := [1, 2, 3, 7, 10, 11, 12], mvs := [], pro := [], d := [], g := some (insF [g20_s0]) }] []
theorem f20_s0 (home : Int) (l : List N.TPut) (t10 : List N.TPut) (t11 : Int) (d : N.TDisk) (last : Int) (t12 : Int) : ((stepOf E S20 L20 0 0 Tryd.f20 (h20_s0 home l t10 t11 d last t12) (t20_s0 home l t10 t11 d last t12)).bind (nx E [1, 2, 3, 7, 10, 11, 12] [] [1, 2, 3, 6] 1)).get = N.jrnl_may_s0k home l t10 t11 d (fun v_ => some (.inl (h20_s0 home l t10 t11 d v_.1 v_.2, t20_s0 home l t10 t11 d v_.1 v_.2))) (fun x_ => some (.inr (.ret, ofSlots E 48 [] [1, 2, 3, 6] [.val (.int .i64) home, .val (.slice (.named 0)) l, .ptr 0 [], .val .bool false], [.box false (.val (.named 1) d), .box false (.val (.named 0) x_)]))) (fun x_ => some (.inr (.exit 0, ofSlots E 48 [] [1, 2, 3, 6] [.val (.int .i64) home, .val (.slice (.named 0)) l, .ptr 0 [], .undef], [.box false (.val (.named 1) d)]))) last t12 := by kernel_rfl
theorem q20_s0 : InsLp 48 [1, 2, 3, 7, 10, 11, 12] [] [] (stepOf E S20 L20 0 0 Tryd.f20) g20_s0 := by
  intro home l last t10 t11 t12 d out_ ho_
  obtain ⟨x_, h1_, h2_⟩ := Option.bind_eq_some_iff.1 ho_
  refine iter_loop (rs := [1, 2, 3, 6]) (step := N.jrnl_may_s0 home l t10 t11 d) (hd := fun v_ => h20_s0 home l t10 t11 d v_.1 v_.2) (sv := fun v_ => t20_s0 home l t10 t11 d v_.1 v_.2) (ex := x20_s0 home l t10 t11 d) (fun v_ => ?_) N.fuel (last, t12) h1_ h2_
  refine (f20_s0 home l t10 t11 d v_.1 v_.2).trans ((N.jrnl_may_s0_bind home l t10 t11 d _ _ _ v_.1 v_.2).trans ?_)
  refine congrArg _ (funext fun s_ => ?_)
  rcases s_ with v_ | a | a <;> rfl
noncomputable def B20 : List (DVal E.T) → St E.T → Tree (Res E.T × St E.T) := dbody E (lookS S20) (lookD []) L20 0 false Tryd.f20
theorem B20_ok : FnOk Tryd.prog E 20 B20 := bodyC_ok sound mix S20_ok (SD := []) trivial (L := L20) (N := 0) (keep := false) Tryd.func20 rfl (by
  intro k g hg fr st out ho
  match k, hg with
  | 0, hg => cases hg; exact lp_ok (allLp_cons q20_s0 (allLp_nil)) fr st out ho
  | _ + 1, hg => cases hg)
theorem F20 (d : N.TDisk) (home : Int) (l : List N.TPut) : (B20 [.val (.named 1) d, .val (.int .i64) home, .val (.slice (.named 0)) l] []).get = N.jrnl_may_k N.fuel (fun x_ => some (.ret [.val .bool x_], [])) d home l := by kernel_rfl
noncomputable def i20 : Ins E (Res E.T × St E.T) := ⟨[.v (.named 1), .v (.int .i64), .v (.slice (.named 0))], [], fun d home l => .opt (N.jrnl_may N.fuel d home l) fun x_ => .ret (.ret [.val .bool x_], [])⟩
theorem i20_ok : InsOk Tryd.prog 20 i20 := ⟨B20, B20_ok, by intro d home l out_ h_; exact ((F20 d home l).trans (N.jrnl_may_bind N.fuel _ d home l)).trans h_⟩
noncomputable def P20 : Nat × D.Spec E := (20, .pure [(.named 1), (.int .i64), (.slice (.named 0))] (pureF [i20]))
theorem p20 : SpecOk Tryd.prog E P20.1 P20.2 := pureI_ok Tryd.call20 ⟨i20_ok, trivial⟩
noncomputable def S23 : List (Nat × D.Spec E) := []
theorem S23_ok : AllS Tryd.prog E S23 := trivial
noncomputable def L23 : Nat → LoopInfo E := clL E 2 [] []
noncomputable def B23 : List (DVal E.T) → St E.T → Tree (Res E.T × St E.T) := dbody E (lookS S23) (lookD []) L23 0 false Tryd.f23
theorem B23_ok : FnOk Tryd.prog E 23 B23 := bodyC_ok sound mix S23_ok (SD := []) trivial (L := L23) (N := 0) (keep := false) Tryd.func23 rfl (by
  intro k g hg fr st out ho
  match k, hg with
  | _, hg => cases hg)
theorem F23 : (B23 [] []).get = N.jrnl_noughts_k (fun x_ => some (.ret [.val (.slice (.int .u8)) ([0, 0, 0, 0, 0, 0, 0, 0, 0, 0, 0, 0, 0, 0, 0, 0, 0, 0, 0, 0, 0, 0, 0, 0, 0, 0, 0, 0, 0, 0, 0, 0])], [])) := by kernel_rfl
noncomputable def i23 : Ins E (Res E.T × St E.T) := ⟨[], [], .ret (.ret [.val (.slice (.int .u8)) ([0, 0, 0, 0, 0, 0, 0, 0, 0, 0, 0, 0, 0, 0, 0, 0, 0, 0, 0, 0, 0, 0, 0, 0, 0, 0, 0, 0, 0, 0, 0, 0])], [])⟩
theorem i23_ok : InsOk Tryd.prog 23 i23 := ⟨B23, B23_ok, by intro out_ h_; exact ((F23).trans (N.jrnl_noughts_bind _)).trans h_⟩
noncomputable def P23 : Nat × D.Spec E := (23, .pure [] (pureF [i23]))
theorem p23 : SpecOk Tryd.prog E P23.1 P23.2 := pureI_ok Tryd.call23 ⟨i23_ok, trivial⟩
def B18 : List (DVal E.T) → St E.T → Tree (Res E.T × St E.T) := cloneF E .str
noncomputable def P18 : Nat × D.Spec E := (18, .full [.data (.slice .str)] false B18)
theorem cf18 : ∃ R0 C R id o1 o2, Tryd.f18.body = some (.seq R0 (.seq (.seq (.region id #[o1, o2] false) C) R)) ∧ (o1.op = .move (.tmp 0) ∧ o1.dst = some 3 ∧ o1.guard = none) ∧ (o2.op = .binOp .eql 25 (.tmp 3) (.const (.slice none 0 0)) 25 ∧ o2.dst = some 4 ∧ o2.guard = none) ∧
    CloneFacts E Tryd.f18 .str R0 C R (fun xs => put E (frame E Tryd.f18 [.val (.slice .str) xs]) (some 2) .nils) (fun xs => put E (put E (put E (put E (frame E Tryd.f18 [.val (.slice .str) xs]) (some 2) .nils) (some 3) (.val (.slice .str) xs)) (some 4) (.val .bool true)) (some 2) .nils) (fun xs n => put E (put E (put E (put E (put E (put E (put E (frame E Tryd.f18 [.val (.slice .str) xs]) (some 2) .nils) (some 3) (.val (.slice .str) xs)) (some 4) (.val .bool false)) (some 5) .nils) (some 6) (.val (.slice .str) xs)) (some 7) (.own n)) (some 2) (.own n)) :=
  ⟨_, _, _, _, _, _, rfl, ⟨rfl, rfl, rfl⟩, ⟨rfl, rfl, rfl⟩, by
    constructor
    all_goals intros
    all_goals kernel_rfl⟩
theorem p18 : SpecOk Tryd.prog E P18.1 P18.2 := by
  obtain ⟨R0, C, R, id, o1, o2, hb, h1, h2, hF⟩ := cf18
  exact ⟨Tryd.call18, clone_fn sound mix Tryd.func18 hb h1 h2 ⟨_, Tryd.underlying25⟩ hF⟩
def B19 : List (DVal E.T) → St E.T → Tree (Res E.T × St E.T) := cloneF E (.named 0)
noncomputable def P19 : Nat × D.Spec E := (19, .full [.data (.slice (.named 0))] false B19)
theorem cf19 : ∃ R0 C R id o1 o2, Tryd.f19.body = some (.seq R0 (.seq (.seq (.region id #[o1, o2] false) C) R)) ∧ (o1.op = .move (.tmp 0) ∧ o1.dst = some 3 ∧ o1.guard = none) ∧ (o2.op = .binOp .eql 26 (.tmp 3) (.const (.slice none 0 0)) 26 ∧ o2.dst = some 4 ∧ o2.guard = none) ∧
    CloneFacts E Tryd.f19 (.named 0) R0 C R (fun xs => put E (frame E Tryd.f19 [.val (.slice (.named 0)) xs]) (some 2) .nils) (fun xs => put E (put E (put E (put E (frame E Tryd.f19 [.val (.slice (.named 0)) xs]) (some 2) .nils) (some 3) (.val (.slice (.named 0)) xs)) (some 4) (.val .bool true)) (some 2) .nils) (fun xs n => put E (put E (put E (put E (put E (put E (put E (frame E Tryd.f19 [.val (.slice (.named 0)) xs]) (some 2) .nils) (some 3) (.val (.slice (.named 0)) xs)) (some 4) (.val .bool false)) (some 5) .nils) (some 6) (.val (.slice (.named 0)) xs)) (some 7) (.own n)) (some 2) (.own n)) :=
  ⟨_, _, _, _, _, _, rfl, ⟨rfl, rfl, rfl⟩, ⟨rfl, rfl, rfl⟩, by
    constructor
    all_goals intros
    all_goals kernel_rfl⟩
theorem p19 : SpecOk Tryd.prog E P19.1 P19.2 := by
  obtain ⟨R0, C, R, id, o1, o2, hb, h1, h2, hF⟩ := cf19
  exact ⟨Tryd.call19, clone_fn sound mix Tryd.func19 hb h1 h2 ⟨_, Tryd.underlying26⟩ hF⟩
noncomputable def S37 : List (Nat × D.Spec E) := [P18, P19]
theorem S37_ok : AllS Tryd.prog E S37 := ⟨p18, p19, trivial⟩
noncomputable def L37 : Nat → LoopInfo E := clL E 12 [] []
noncomputable def B37 : List (DVal E.T) → St E.T → Tree (Res E.T × St E.T) := tidyF (dbody E (lookS S37) (lookD []) L37 0 true Tryd.f37)
theorem B37_ok : FnOk Tryd.prog E 37 B37 := tidy_fn ok (bodyC_ok sound mix S37_ok (SD := []) trivial (L := L37) (N := 0) (keep := true) Tryd.func37 rfl (by
  intro k g hg fr st out ho
  match k, hg with
  | _, hg => cases hg))
theorem F37 (d : N.TDisk) : (B37 [.val (.named 1) d] []).get = N.disk_twin_k (fun x_ => some (.ret [.agg 1 [.own 2, .own 3, .val (.int .i64) d.Arm, .val .bool d.Down]], [.dead, .dead, .arr .live .str d.Last, .arr .live (.named 0) d.Wait])) d := by kernel_rfl
noncomputable def i37 : Ins E (Res E.T × St E.T) := ⟨[.v (.named 1)], [], fun d => .ret (.ret [.agg 1 [.own 2, .own 3, .val (.int .i64) d.Arm, .val .bool d.Down]], [.dead, .dead, .arr .live .str d.Last, .arr .live (.named 0) d.Wait])⟩
theorem i37_ok : InsOk Tryd.prog 37 i37 := ⟨B37, B37_ok, by intro d out_ h_; exact ((F37 d).trans (N.disk_twin_bind _ d)).trans h_⟩
noncomputable def P37 : Nat × D.Spec E := (37, .full [.data (.named 1)] false (fullF [i37]))
theorem p37 : SpecOk Tryd.prog E P37.1 P37.2 := fullI_ok ok Tryd.call37 ⟨i37_ok, trivial⟩
noncomputable def S38 : List (Nat × D.Spec E) := []
theorem S38_ok : AllS Tryd.prog E S38 := trivial
noncomputable def L38 : Nat → LoopInfo E := clL E 19 [] []
noncomputable def B38 : List (DVal E.T) → St E.T → Tree (Res E.T × St E.T) := dbody E (lookS S38) (lookD []) L38 0 false Tryd.f38
theorem B38_ok : FnOk Tryd.prog E 38 B38 := bodyC_ok sound mix S38_ok (SD := []) trivial (L := L38) (N := 0) (keep := false) Tryd.func38 rfl (by
  intro k g hg fr st out ho
  match k, hg with
  | _, hg => cases hg)
theorem F38 (d : N.TDisk) (i : Int) : (B38 [.val (.named 1) d, .val (.int .i64) i] []).get = N.disk_there_k (fun x_ => some (.ret [.val .bool x_], [])) d i := by kernel_rfl
noncomputable def i38 : Ins E (Res E.T × St E.T) := ⟨[.v (.named 1), .v (.int .i64)], [], fun d i => .ret (.ret [.val .bool (N.disk_there d i)], [])⟩
theorem i38_ok : InsOk Tryd.prog 38 i38 := ⟨B38, B38_ok, by intro d i out_ h_; exact ((F38 d i).trans (N.disk_there_bind _ d i)).trans h_⟩
noncomputable def P38 : Nat × D.Spec E := (38, .pure [(.named 1), (.int .i64)] (pureF [i38]))
theorem p38 : SpecOk Tryd.prog E P38.1 P38.2 := pureI_ok Tryd.call38 ⟨i38_ok, trivial⟩
noncomputable def S33 : List (Nat × D.Spec E) := [P37, P38]
theorem S33_ok : AllS Tryd.prog E S33 := ⟨p37, p38, trivial⟩
noncomputable def L33 : Nat → LoopInfo E := clL E 43 [] []
noncomputable def B33 : List (DVal E.T) → St E.T → Tree (Res E.T × St E.T) := dbody E (lookS S33) (lookD []) L33 0 false Tryd.f33
theorem B33_ok : FnOk Tryd.prog E 33 B33 := bodyC_ok sound mix S33_ok (SD := []) trivial (L := L33) (N := 0) (keep := false) Tryd.func33 rfl (by
  intro k g hg fr st out ho
  match k, hg with
  | _, hg => cases hg)
theorem F33 (d : N.TDisk) (i : Int) (b : List UInt8) : (B33 [.val (.named 1) d, .val (.int .i64) i, .val .str b] []).get = N.disk_Write_k (fun x_ => some (.ret [.val (.named 1) x_.1, .val .bool x_.2], [])) d i b := by kernel_rfl
noncomputable def i33 : Ins E (Res E.T × St E.T) := ⟨[.v (.named 1), .v (.int .i64), .v .str], [], fun d i b => .opt (N.disk_Write d i b) fun x_ => .ret (.ret [.val (.named 1) x_.1, .val .bool x_.2], [])⟩
theorem i33_ok : InsOk Tryd.prog 33 i33 := ⟨B33, B33_ok, by intro d i b out_ h_; exact ((F33 d i b).trans (N.disk_Write_bind _ d i b)).trans h_⟩
noncomputable def P33 : Nat × D.Spec E := (33, .pure [(.named 1), (.int .i64), .str] (pureF [i33]))
theorem p33 : SpecOk Tryd.prog E P33.1 P33.2 := pureI_ok Tryd.call33 ⟨i33_ok, trivial⟩
noncomputable def S32 : List (Nat × D.Spec E) := []
theorem S32_ok : AllS Tryd.prog E S32 := trivial
noncomputable def L32 : Nat → LoopInfo E := clL E 14 [] []
noncomputable def B32 : List (DVal E.T) → St E.T → Tree (Res E.T × St E.T) := tidyF (dbody E (lookS S32) (lookD []) L32 0 false Tryd.f32)
theorem B32_ok : FnOk Tryd.prog E 32 B32 := tidy_fn ok (bodyC_ok sound mix S32_ok (SD := []) trivial (L := L32) (N := 0) (keep := false) Tryd.func32 rfl (by
  intro k g hg fr st out ho
  match k, hg with
  | _, hg => cases hg))
theorem F32 (d : N.TDisk) (ok : Bool) (w_d_Arm : Int) (w_d_Down : Bool) (a1_ : List (List UInt8)) (a2_ : List N.TPut) : (B32 [.ptr 0 [], .val (.named 1) d, .val .bool ok] [.box false (.agg 2 [.agg 1 [.own 1, .own 2, .val (.int .i64) w_d_Arm, .val .bool w_d_Down]]), .arr .froz .str a1_, .arr .froz (.named 0) a2_]).get = N.jrnl_writer_does_k (fun x_ => some (.ret [], [.box false (.val (.named 2) x_), .arr .froz .str a1_, .arr .froz (.named 0) a2_])) (fun x_ => some (.panic (.ifc 70 (.val (.named 3) N.TNil0.mk)), [.box false (.val (.named 2) x_), .arr .froz .str a1_, .arr .froz (.named 0) a2_])) d ok (N.Tjrnl_writer.mk (N.TDisk.mk a1_ a2_ w_d_Arm w_d_Down)) := by kernel_rfl
noncomputable def i32 : Ins E (Res E.T × St E.T) := ⟨[.ptr 0 [], .v (.named 1), .v .bool], [.box false (.agg 2 [.agg 1 [.own 1, .own 2, .v (.int .i64), .v .bool]]), .arr .froz .str, .arr .froz (.named 0)], fun d ok w_d_Arm w_d_Down a1_ a2_ => .opt (N.jrnl_writer_does d ok (N.Tjrnl_writer.mk (N.TDisk.mk a1_ a2_ w_d_Arm w_d_Down))) fun x_ => altT x_ (fun u0_ => .ret (.ret [], [.box false (.val (.named 2) u0_), .arr .froz .str a1_, .arr .froz (.named 0) a2_])) (fun w0_ => .ret (.panic (.ifc 70 (.val (.named 3) N.TNil0.mk)), [.box false (.val (.named 2) w0_), .arr .froz .str a1_, .arr .froz (.named 0) a2_]))⟩
theorem i32_ok : InsOk Tryd.prog 32 i32 := ⟨B32, B32_ok, by intro d ok w_d_Arm w_d_Down a1_ a2_ out_ h_; exact ((F32 d ok w_d_Arm w_d_Down a1_ a2_).trans (N.jrnl_writer_does_bind _ _ d ok (N.Tjrnl_writer.mk (N.TDisk.mk a1_ a2_ w_d_Arm w_d_Down)))).trans h_⟩
noncomputable def S32a : List (Nat × D.Spec E) := []
theorem S32a_ok : AllS Tryd.prog E S32a := trivial
noncomputable def L32a : Nat → LoopInfo E := clL E 14 [] []
noncomputable def B32a : List (DVal E.T) → St E.T → Tree (Res E.T × St E.T) := tidyF (dbody E (lookS S32a) (lookD []) L32a 0 false Tryd.f32)
theorem B32a_ok : FnOk Tryd.prog E 32 B32a := tidy_fn ok (bodyC_ok sound mix S32a_ok (SD := []) trivial (L := L32a) (N := 0) (keep := false) Tryd.func32 rfl (by
  intro k g hg fr st out ho
  match k, hg with
  | _, hg => cases hg))
theorem F32a (d : N.TDisk) (ok : Bool) (w : N.Tjrnl_writer) : (B32a [.ptr 0 [], .val (.named 1) d, .val .bool ok] [.box false (.val (.named 2) w)]).get = N.jrnl_writer_does_2_k (fun x_ => some (.ret [], [.box false (.val (.named 2) x_)])) (fun x_ => some (.panic (.ifc 70 (.val (.named 3) N.TNil0.mk)), [.box false (.val (.named 2) x_)])) d ok w := by kernel_rfl
noncomputable def i32a : Ins E (Res E.T × St E.T) := ⟨[.ptr 0 [], .v (.named 1), .v .bool], [.box false (.v (.named 2))], fun d ok w => .opt (N.jrnl_writer_does_2 d ok w) fun x_ => altT x_ (fun u0_ => .ret (.ret [], [.box false (.val (.named 2) u0_)])) (fun w0_ => .ret (.panic (.ifc 70 (.val (.named 3) N.TNil0.mk)), [.box false (.val (.named 2) w0_)]))⟩
theorem i32a_ok : InsOk Tryd.prog 32 i32a := ⟨B32a, B32a_ok, by intro d ok w out_ h_; exact ((F32a d ok w).trans (N.jrnl_writer_does_2_bind _ _ d ok w)).trans h_⟩
noncomputable def P32 : Nat × D.Spec E := (32, .full [.ptr, .data (.named 1), .data .bool] false (fullF [i32, i32a]))
theorem p32 : SpecOk Tryd.prog E P32.1 P32.2 := fullI_ok ok Tryd.call32 ⟨i32_ok, i32a_ok, trivial⟩
noncomputable def S22 : List (Nat × D.Spec E) := [P32, P33]
theorem S22_ok : AllS Tryd.prog E S22 := ⟨p32, p33, trivial⟩
noncomputable def L22 : Nat → LoopInfo E := clL E 17 [] []
noncomputable def B22 : List (DVal E.T) → St E.T → Tree (Res E.T × St E.T) := tidyF (dbody E (lookS S22) (lookD []) L22 0 false Tryd.f22)
theorem B22_ok : FnOk Tryd.prog E 22 B22 := tidy_fn ok (bodyC_ok sound mix S22_ok (SD := []) trivial (L := L22) (N := 0) (keep := false) Tryd.func22 rfl (by
  intro k g hg fr st out ho
  match k, hg with
  | _, hg => cases hg))
theorem F22 (i : Int) (b : List UInt8) (w_d_Arm : Int) (w_d_Down : Bool) (a1_ : List (List UInt8)) (a2_ : List N.TPut) : (B22 [.ptr 0 [], .val (.int .i64) i, .val .str b] [.box false (.agg 2 [.agg 1 [.own 1, .own 2, .val (.int .i64) w_d_Arm, .val .bool w_d_Down]]), .arr .live .str a1_, .arr .live (.named 0) a2_]).get = N.jrnl_writer_write_k (fun x_ => some (.ret [], [.box false (.val (.named 2) x_.1), .arr .froz .str x_.2.1, .arr .froz (.named 0) x_.2.2])) (fun x_ => some (.panic (.ifc 70 (.val (.named 3) N.TNil0.mk)), [.box false (.val (.named 2) x_.1), .arr .froz .str x_.2.1, .arr .froz (.named 0) x_.2.2])) i b (N.Tjrnl_writer.mk (N.TDisk.mk a1_ a2_ w_d_Arm w_d_Down)) := by kernel_rfl
noncomputable def i22 : Ins E (Res E.T × St E.T) := ⟨[.ptr 0 [], .v (.int .i64), .v .str], [.box false (.agg 2 [.agg 1 [.own 1, .own 2, .v (.int .i64), .v .bool]]), .arr .live .str, .arr .live (.named 0)], fun i b w_d_Arm w_d_Down a1_ a2_ => .opt (N.jrnl_writer_write i b (N.Tjrnl_writer.mk (N.TDisk.mk a1_ a2_ w_d_Arm w_d_Down))) fun x_ => altT x_ (fun u0_ => .ret (.ret [], [.box false (.val (.named 2) u0_.1), .arr .froz .str u0_.2.1, .arr .froz (.named 0) u0_.2.2])) (fun w0_ => .ret (.panic (.ifc 70 (.val (.named 3) N.TNil0.mk)), [.box false (.val (.named 2) w0_.1), .arr .froz .str w0_.2.1, .arr .froz (.named 0) w0_.2.2]))⟩
theorem i22_ok : InsOk Tryd.prog 22 i22 := ⟨B22, B22_ok, by intro i b w_d_Arm w_d_Down a1_ a2_ out_ h_; exact ((F22 i b w_d_Arm w_d_Down a1_ a2_).trans (N.jrnl_writer_write_bind _ _ i b (N.Tjrnl_writer.mk (N.TDisk.mk a1_ a2_ w_d_Arm w_d_Down)))).trans h_⟩
noncomputable def S22a : List (Nat × D.Spec E) := [P32, P33]
theorem S22a_ok : AllS Tryd.prog E S22a := ⟨p32, p33, trivial⟩
noncomputable def L22a : Nat → LoopInfo E := clL E 17 [] []
noncomputable def B22a : List (DVal E.T) → St E.T → Tree (Res E.T × St E.T) := tidyF (dbody E (lookS S22a) (lookD []) L22a 0 false Tryd.f22)
theorem B22a_ok : FnOk Tryd.prog E 22 B22a := tidy_fn ok (bodyC_ok sound mix S22a_ok (SD := []) trivial (L := L22a) (N := 0) (keep := false) Tryd.func22 rfl (by
  intro k g hg fr st out ho
  match k, hg with
  | _, hg => cases hg))
theorem F22a (i : Int) (b : List UInt8) (w : N.Tjrnl_writer) : (B22a [.ptr 0 [], .val (.int .i64) i, .val .str b] [.box false (.val (.named 2) w)]).get = N.jrnl_writer_write_2_k (fun x_ => some (.ret [], [.box false (.val (.named 2) x_)])) (fun x_ => some (.panic (.ifc 70 (.val (.named 3) N.TNil0.mk)), [.box false (.val (.named 2) x_)])) i b w := by kernel_rfl
noncomputable def i22a : Ins E (Res E.T × St E.T) := ⟨[.ptr 0 [], .v (.int .i64), .v .str], [.box false (.v (.named 2))], fun i b w => .opt (N.jrnl_writer_write_2 i b w) fun x_ => altT x_ (fun u0_ => .ret (.ret [], [.box false (.val (.named 2) u0_)])) (fun w0_ => .ret (.panic (.ifc 70 (.val (.named 3) N.TNil0.mk)), [.box false (.val (.named 2) w0_)]))⟩
theorem i22a_ok : InsOk Tryd.prog 22 i22a := ⟨B22a, B22a_ok, by intro i b w out_ h_; exact ((F22a i b w).trans (N.jrnl_writer_write_2_bind _ _ i b w)).trans h_⟩
noncomputable def P22 : Nat × D.Spec E := (22, .full [.ptr, .data (.int .i64), .data .str] false (fullF [i22, i22a]))
theorem p22 : SpecOk Tryd.prog E P22.1 P22.2 := fullI_ok ok Tryd.call22 ⟨i22_ok, i22a_ok, trivial⟩
noncomputable def S39 : List (Nat × D.Spec E) := []
theorem S39_ok : AllS Tryd.prog E S39 := trivial
noncomputable def L39 : Nat → LoopInfo E := clL E 60 [] []
noncomputable def B39 : List (DVal E.T) → St E.T → Tree (Res E.T × St E.T) := tidyF (dbody E (lookS S39) (lookD []) L39 0 false Tryd.f39)
theorem B39_ok : FnOk Tryd.prog E 39 B39 := tidy_fn ok (bodyC_ok sound mix S39_ok (SD := []) trivial (L := L39) (N := 0) (keep := false) Tryd.func39 rfl (by
  intro k g hg fr st out ho
  match k, hg with
  | _, hg => cases hg))
theorem F39 (p : N.TPut) (n : Int) (f_d_Arm : Int) (f_d_Down : Bool) (a1_ : List (List UInt8)) (a2_ : List N.TPut) : (B39 [.ptr 0 [], .val (.named 0) p, .val (.int .i64) n] [.box false (.agg 4 [.agg 1 [.own 1, .own 2, .val (.int .i64) f_d_Arm, .val .bool f_d_Down]]), .arr .live .str a1_, .arr .live (.named 0) a2_]).get = N.disk_lasting_lasts_k (fun x_ => some (.ret [], [.box false (.agg 4 [.agg 1 [.own 1, .own 2, .val (.int .i64) x_.d.Arm, .val .bool x_.d.Down]]), .arr .live .str x_.d.Last, .arr .live (.named 0) x_.d.Wait])) p n (N.Tdisk_lasting.mk (N.TDisk.mk a1_ a2_ f_d_Arm f_d_Down)) := by kernel_rfl
noncomputable def i39 : Ins E (Res E.T × St E.T) := ⟨[.ptr 0 [], .v (.named 0), .v (.int .i64)], [.box false (.agg 4 [.agg 1 [.own 1, .own 2, .v (.int .i64), .v .bool]]), .arr .live .str, .arr .live (.named 0)], fun p n f_d_Arm f_d_Down a1_ a2_ => .opt (N.disk_lasting_lasts p n (N.Tdisk_lasting.mk (N.TDisk.mk a1_ a2_ f_d_Arm f_d_Down))) fun x_ => .ret (.ret [], [.box false (.agg 4 [.agg 1 [.own 1, .own 2, .val (.int .i64) x_.d.Arm, .val .bool x_.d.Down]]), .arr .live .str x_.d.Last, .arr .live (.named 0) x_.d.Wait])⟩
theorem i39_ok : InsOk Tryd.prog 39 i39 := ⟨B39, B39_ok, by intro p n f_d_Arm f_d_Down a1_ a2_ out_ h_; exact ((F39 p n f_d_Arm f_d_Down a1_ a2_).trans (N.disk_lasting_lasts_bind _ p n (N.Tdisk_lasting.mk (N.TDisk.mk a1_ a2_ f_d_Arm f_d_Down)))).trans h_⟩
noncomputable def P39 : Nat × D.Spec E := (39, .full [.ptr, .data (.named 0), .data (.int .i64)] false (fullF [i39]))
theorem p39 : SpecOk Tryd.prog E P39.1 P39.2 := fullI_ok ok Tryd.call39 ⟨i39_ok, trivial⟩
noncomputable def S34 : List (Nat × D.Spec E) := [P37, P39]
theorem S34_ok : AllS Tryd.prog E S34 := ⟨p37, p39, trivial⟩
abbrev h34_s0 (t18 : List N.TPut) (t19 : Int) (o0 : N.TDisk) (t20 : Int) (o1 : N.TDisk) (f : N.Tdisk_lasting) : Fr E.T := ofSlots E 36 [] [2, 4, 18, 19, 20] [.ptr 1 [], .ptr 6 [], .val (.slice (.named 0)) t18, .val (.int .i64) t19, .val (.int .i64) t20]
abbrev t34_s0 (t18 : List N.TPut) (t19 : Int) (o0 : N.TDisk) (t20 : Int) (o1 : N.TDisk) (f : N.Tdisk_lasting) : St E.T := [.box false (.val (.named 1) o0), .box false (.agg 1 [.nils, .nils, .val (.int .i64) o1.Arm, .val .bool o1.Down]), .dead, .dead, .arr .live .str f.d.Last, .arr .live (.named 0) f.d.Wait, .box false (.agg 4 [.agg 1 [.own 4, .own 5, .val (.int .i64) f.d.Arm, .val .bool f.d.Down]])]
def x34_s0 (t18 : List N.TPut) (t19 : Int) (o0 : N.TDisk) (x_ : N.TDisk × N.Tdisk_lasting) : Tree (CodeOut E) := .ret (.exit 0, ofSlots E 36 [] [2, 3, 4] [.ptr 1 [], .undef, .ptr 6 []], [.box false (.val (.named 1) o0), .box false (.agg 1 [.nils, .nils, .val (.int .i64) x_.1.Arm, .val .bool x_.1.Down]), .dead, .dead, .arr .live .str x_.2.d.Last, .arr .live (.named 0) x_.2.d.Wait, .box false (.agg 4 [.agg 1 [.own 4, .own 5, .val (.int .i64) x_.2.d.Arm, .val .bool x_.2.d.Down]])])
noncomputable def g34_s0 : Ins E (CodeOut E) := ⟨[.ptr 1 [], .ptr 6 [], .v (.slice (.named 0)), .v (.int .i64), .v (.int .i64)], [.box false (.v (.named 1)), .box false (.agg 1 [.nils, .nils, .v (.int .i64), .v .bool]), .dead, .dead, .arr .live .str, .arr .live (.named 0), .box false (.agg 4 [.agg 1 [.own 4, .own 5, .v (.int .i64), .v .bool]])], fun t18 t19 t20 o0 o1_Arm o1_Down a4_ a5_ f_d_Arm f_d_Down => .opt (N.disk_Flush_l0 N.fuel t18 t19 o0 t20 (N.TDisk.mk [] [] o1_Arm o1_Down) (N.Tdisk_lasting.mk (N.TDisk.mk a4_ a5_ f_d_Arm f_d_Down))) (x34_s0 t18 t19 o0)⟩
noncomputable def L34 : Nat → LoopInfo E := clL E 36 [{ ks := [2, 4, 18, 19, 20], mvs := [], pro := [], d := [], g := some (insF [g34_s0]) }] []
theorem f34_s0 (t18 : List N.TPut) (t19 : Int) (o0 : N.TDisk) (t20 : Int) (o1 : N.TDisk) (f : N.Tdisk_lasting) : ((stepOf E S34 L34 0 0 Tryd.f34 (h34_s0 t18 t19 o0 t20 o1 f) (t34_s0 t18 t19 o0 t20 o1 f)).bind (nx E [2, 4, 18, 19, 20] [] [2, 3, 4] 7)).get = N.disk_Flush_s0k t18 t19 o0 (fun v_ => some (.inl (h34_s0 t18 t19 o0 v_.1 v_.2.1 v_.2.2, t34_s0 t18 t19 o0 v_.1 v_.2.1 v_.2.2))) (fun x_ => some (.inr (.exit 0, ofSlots E 36 [] [2, 3, 4] [.ptr 1 [], .undef, .ptr 6 []], [.box false (.val (.named 1) o0), .box false (.agg 1 [.nils, .nils, .val (.int .i64) x_.1.Arm, .val .bool x_.1.Down]), .dead, .dead, .arr .live .str x_.2.d.Last, .arr .live (.named 0) x_.2.d.Wait, .box false (.agg 4 [.agg 1 [.own 4, .own 5, .val (.int .i64) x_.2.d.Arm, .val .bool x_.2.d.Down]])]))) t20 o1 f := by kernel_rfl
theorem q34_s0 : InsLp 36 [2, 4, 18, 19, 20] [] [] (stepOf E S34 L34 0 0 Tryd.f34) g34_s0 := by
  intro t18 t19 t20 o0 o1_Arm o1_Down a4_ a5_ f_d_Arm f_d_Down out_ ho_
  obtain ⟨x_, h1_, h2_⟩ := Option.bind_eq_some_iff.1 ho_
  refine iter_loop (rs := [2, 3, 4]) (step := N.disk_Flush_s0 t18 t19 o0) (hd := fun v_ => h34_s0 t18 t19 o0 v_.1 v_.2.1 v_.2.2) (sv := fun v_ => t34_s0 t18 t19 o0 v_.1 v_.2.1 v_.2.2) (ex := x34_s0 t18 t19 o0) (fun v_ => ?_) N.fuel (t20, (N.TDisk.mk [] [] o1_Arm o1_Down), (N.Tdisk_lasting.mk (N.TDisk.mk a4_ a5_ f_d_Arm f_d_Down))) h1_ h2_
  refine (f34_s0 t18 t19 o0 v_.1 v_.2.1 v_.2.2).trans ((N.disk_Flush_s0_bind t18 t19 o0 _ _ v_.1 v_.2.1 v_.2.2).trans ?_)
  refine congrArg _ (funext fun s_ => ?_)
  rcases s_ with v_ | a <;> rfl
noncomputable def B34 : List (DVal E.T) → St E.T → Tree (Res E.T × St E.T) := dbody E (lookS S34) (lookD []) L34 0 false Tryd.f34
theorem B34_ok : FnOk Tryd.prog E 34 B34 := bodyC_ok sound mix S34_ok (SD := []) trivial (L := L34) (N := 0) (keep := false) Tryd.func34 rfl (by
  intro k g hg fr st out ho
  match k, hg with
  | 0, hg => cases hg; exact lp_ok (allLp_cons q34_s0 (allLp_nil)) fr st out ho
  | _ + 1, hg => cases hg)
theorem F34 (d : N.TDisk) : (B34 [.val (.named 1) d] []).get = N.disk_Flush_k N.fuel (fun x_ => some (.ret [.val (.named 1) x_.1, .val .bool x_.2], [])) d := by kernel_rfl
noncomputable def i34 : Ins E (Res E.T × St E.T) := ⟨[.v (.named 1)], [], fun d => .opt (N.disk_Flush N.fuel d) fun x_ => .ret (.ret [.val (.named 1) x_.1, .val .bool x_.2], [])⟩
theorem i34_ok : InsOk Tryd.prog 34 i34 := ⟨B34, B34_ok, by intro d out_ h_; exact ((F34 d).trans (N.disk_Flush_bind N.fuel _ d)).trans h_⟩
noncomputable def P34 : Nat × D.Spec E := (34, .pure [(.named 1)] (pureF [i34]))
theorem p34 : SpecOk Tryd.prog E P34.1 P34.2 := pureI_ok Tryd.call34 ⟨i34_ok, trivial⟩
noncomputable def S24 : List (Nat × D.Spec E) := [P32, P34]
theorem S24_ok : AllS Tryd.prog E S24 := ⟨p32, p34, trivial⟩
noncomputable def L24 : Nat → LoopInfo E := clL E 11 [] []
noncomputable def B24 : List (DVal E.T) → St E.T → Tree (Res E.T × St E.T) := tidyF (dbody E (lookS S24) (lookD []) L24 0 false Tryd.f24)
theorem B24_ok : FnOk Tryd.prog E 24 B24 := tidy_fn ok (bodyC_ok sound mix S24_ok (SD := []) trivial (L := L24) (N := 0) (keep := false) Tryd.func24 rfl (by
  intro k g hg fr st out ho
  match k, hg with
  | _, hg => cases hg))
theorem F24 (w : N.Tjrnl_writer) : (B24 [.ptr 0 []] [.box false (.val (.named 2) w)]).get = N.jrnl_writer_flush_k N.fuel (fun x_ => some (.ret [], [.box false (.val (.named 2) x_)])) (fun x_ => some (.panic (.ifc 70 (.val (.named 3) N.TNil0.mk)), [.box false (.val (.named 2) x_)])) w := by kernel_rfl
noncomputable def i24 : Ins E (Res E.T × St E.T) := ⟨[.ptr 0 []], [.box false (.v (.named 2))], fun w => .opt (N.jrnl_writer_flush N.fuel w) fun x_ => altT x_ (fun u0_ => .ret (.ret [], [.box false (.val (.named 2) u0_)])) (fun w0_ => .ret (.panic (.ifc 70 (.val (.named 3) N.TNil0.mk)), [.box false (.val (.named 2) w0_)]))⟩
theorem i24_ok : InsOk Tryd.prog 24 i24 := ⟨B24, B24_ok, by intro w out_ h_; exact ((F24 w).trans (N.jrnl_writer_flush_bind N.fuel _ _ w)).trans h_⟩
noncomputable def P24 : Nat × D.Spec E := (24, .full [.ptr] false (fullF [i24]))
theorem p24 : SpecOk Tryd.prog E P24.1 P24.2 := fullI_ok ok Tryd.call24 ⟨i24_ok, trivial⟩
noncomputable def S23k : List (Nat × D.Spec E) := []
theorem S23k_ok : AllS Tryd.prog E S23k := trivial
noncomputable def L23k : Nat → LoopInfo E := clL E 2 [] []
noncomputable def B23k : List (DVal E.T) → St E.T → Tree (Res E.T × St E.T) := tidyF (dbody E (lookS S23k) (lookD []) L23k 0 true Tryd.f23)
theorem B23k_ok : FnOk Tryd.prog E 23 B23k := tidy_fn ok (bodyC_ok sound mix S23k_ok (SD := []) trivial (L := L23k) (N := 0) (keep := true) Tryd.func23 rfl (by
  intro k g hg fr st out ho
  match k, hg with
  | _, hg => cases hg))
theorem F23k : (B23k [] []).get = N.jrnl_noughts_2_k (fun x_ => some (.ret [.own 0], [.arr .live (.int .u8) ([0, 0, 0, 0, 0, 0, 0, 0, 0, 0, 0, 0, 0, 0, 0, 0, 0, 0, 0, 0, 0, 0, 0, 0, 0, 0, 0, 0, 0, 0, 0, 0])])) := by kernel_rfl
noncomputable def i23k : Ins E (Res E.T × St E.T) := ⟨[], [], .ret (.ret [.own 0], [.arr .live (.int .u8) ([0, 0, 0, 0, 0, 0, 0, 0, 0, 0, 0, 0, 0, 0, 0, 0, 0, 0, 0, 0, 0, 0, 0, 0, 0, 0, 0, 0, 0, 0, 0, 0])])⟩
theorem i23k_ok : InsOk Tryd.prog 23 i23k := ⟨B23k, B23k_ok, by intro out_ h_; exact ((F23k).trans (N.jrnl_noughts_2_bind _)).trans h_⟩
noncomputable def P23k : Nat × D.Spec E := (23, .full [] false (fullF [i23k]))
theorem p23k : SpecOk Tryd.prog E P23k.1 P23k.2 := fullI_ok ok Tryd.call23 ⟨i23k_ok, trivial⟩
noncomputable def S25 : List (Nat × D.Spec E) := [P23k]
theorem S25_ok : AllS Tryd.prog E S25 := ⟨p23k, trivial⟩
abbrev h25_s0 (t16 : List N.TPut) (t17 : Int) (t18 : Int) (b : List UInt8) : Fr E.T := ofSlots E 33 [] [3, 16, 17, 18] [.own 0, .val (.slice (.named 0)) t16, .val (.int .i64) t17, .val (.int .i64) t18]
abbrev t25_s0 (t16 : List N.TPut) (t17 : Int) (t18 : Int) (b : List UInt8) : St E.T := [.arr .live (.int .u8) b]
def x25_s0 (t16 : List N.TPut) (t17 : Int) (x_ : List UInt8) : Tree (CodeOut E) := .ret (.exit 0, ofSlots E 33 [] [2, 3] [.undef, .own 0], [.arr .live (.int .u8) x_])
noncomputable def g25_s0 : Ins E (CodeOut E) := ⟨[.own 0, .v (.slice (.named 0)), .v (.int .i64), .v (.int .i64)], [.arr .live (.int .u8)], fun t16 t17 t18 b => .opt (N.jrnl_head_l0 N.fuel t16 t17 t18 b) (x25_s0 t16 t17)⟩
noncomputable def L25 : Nat → LoopInfo E := clL E 33 [{ ks := [3, 16, 17, 18], mvs := [], pro := [], d := [], g := some (insF [g25_s0]) }] []
theorem f25_s0 (t16 : List N.TPut) (t17 : Int) (t18 : Int) (b : List UInt8) : ((stepOf E S25 L25 0 0 Tryd.f25 (h25_s0 t16 t17 t18 b) (t25_s0 t16 t17 t18 b)).bind (nx E [3, 16, 17, 18] [] [2, 3] 1)).get = N.jrnl_head_s0k t16 t17 (fun v_ => some (.inl (h25_s0 t16 t17 v_.1 v_.2, t25_s0 t16 t17 v_.1 v_.2))) (fun x_ => some (.inr (.exit 0, ofSlots E 33 [] [2, 3] [.undef, .own 0], [.arr .live (.int .u8) x_]))) t18 b := by kernel_rfl
theorem q25_s0 : InsLp 33 [3, 16, 17, 18] [] [] (stepOf E S25 L25 0 0 Tryd.f25) g25_s0 := by
  intro t16 t17 t18 b out_ ho_
  obtain ⟨x_, h1_, h2_⟩ := Option.bind_eq_some_iff.1 ho_
  refine iter_loop (rs := [2, 3]) (step := N.jrnl_head_s0 t16 t17) (hd := fun v_ => h25_s0 t16 t17 v_.1 v_.2) (sv := fun v_ => t25_s0 t16 t17 v_.1 v_.2) (ex := x25_s0 t16 t17) (fun v_ => ?_) N.fuel (t18, b) h1_ h2_
  refine (f25_s0 t16 t17 v_.1 v_.2).trans ((N.jrnl_head_s0_bind t16 t17 _ _ v_.1 v_.2).trans ?_)
  refine congrArg _ (funext fun s_ => ?_)
  rcases s_ with v_ | a <;> rfl
noncomputable def B25 : List (DVal E.T) → St E.T → Tree (Res E.T × St E.T) := dbody E (lookS S25) (lookD []) L25 0 false Tryd.f25
theorem B25_ok : FnOk Tryd.prog E 25 B25 := bodyC_ok sound mix S25_ok (SD := []) trivial (L := L25) (N := 0) (keep := false) Tryd.func25 rfl (by
  intro k g hg fr st out ho
  match k, hg with
  | 0, hg => cases hg; exact lp_ok (allLp_cons q25_s0 (allLp_nil)) fr st out ho
  | _ + 1, hg => cases hg)
theorem F25 (l : List N.TPut) : (B25 [.val (.slice (.named 0)) l] []).get = N.jrnl_head_k N.fuel (fun x_ => some (.ret [.val .str x_], [])) l := by kernel_rfl
noncomputable def i25 : Ins E (Res E.T × St E.T) := ⟨[.v (.slice (.named 0))], [], fun l => .opt (N.jrnl_head N.fuel l) fun x_ => .ret (.ret [.val .str x_], [])⟩
theorem i25_ok : InsOk Tryd.prog 25 i25 := ⟨B25, B25_ok, by intro l out_ h_; exact ((F25 l).trans (N.jrnl_head_bind N.fuel _ l)).trans h_⟩
noncomputable def P25 : Nat × D.Spec E := (25, .pure [(.slice (.named 0))] (pureF [i25]))
theorem p25 : SpecOk Tryd.prog E P25.1 P25.2 := pureI_ok Tryd.call25 ⟨i25_ok, trivial⟩
noncomputable def S21 : List (Nat × D.Spec E) := []
theorem S21_ok : AllS Tryd.prog E S21 := trivial
noncomputable def L21 : Nat → LoopInfo E := clL E 28 [] []
noncomputable def B21 : DSpec E := dbodyD E (lookS S21) L21 0 Tryd.f21
theorem p21 : DSpecOk Tryd.prog E 21 B21 := dfullD_ok sound mix S21_ok (L := L21) (fun _ => rfl) Tryd.call21 Tryd.func21 rfl
noncomputable def S9 : List (Nat × D.Spec E) := [P18, P19, P20, P22, P23, P24, P25]
theorem S9_ok : AllS Tryd.prog E S9 := ⟨p18, p19, p20, p22, p23, p24, p25, trivial⟩
noncomputable def D9 : List (Nat × DSpec E) := [(21, B21)]
theorem D9_ok : AllD Tryd.prog E D9 := ⟨p21, trivial⟩
abbrev h9_s0 (home : Int) (l : List N.TPut) (t54 : List N.TPut) (t55 : Int) (o0 : N.TDisk) (ok : Bool) (r4 : List (List UInt8)) (r5 : List N.TPut) (t56 : Int) (x : N.TDisk) (w : N.Tjrnl_writer) : Fr E.T := ofSlots E 98 [(21, [.ptr 3 [], .ptr 1 [], .ptr 2 []])] [1, 2, 6, 7, 8, 54, 55, 56] [.val (.int .i64) home, .val (.slice (.named 0)) l, .ptr 1 [], .ptr 2 [], .ptr 3 [], .val (.slice (.named 0)) t54, .val (.int .i64) t55, .val (.int .i64) t56]
abbrev t9_s0 (home : Int) (l : List N.TPut) (t54 : List N.TPut) (t55 : Int) (o0 : N.TDisk) (ok : Bool) (r4 : List (List UInt8)) (r5 : List N.TPut) (t56 : Int) (x : N.TDisk) (w : N.Tjrnl_writer) : St E.T := [.box false (.val (.named 1) o0), .box false (.agg 1 [.nils, .nils, .val (.int .i64) x.Arm, .val .bool x.Down]), .box false (.val .bool ok), .box false (.val (.named 2) w), .arr .froz .str r4, .arr .froz (.named 0) r5]
def x9_s0 (home : Int) (l : List N.TPut) (t54 : List N.TPut) (t55 : Int) (o0 : N.TDisk) (ok : Bool) (r4 : List (List UInt8)) (r5 : List N.TPut) (x_ : (N.TDisk × N.Tjrnl_writer × N.TPut) ⊕ (N.TDisk × N.Tjrnl_writer)) : Tree (CodeOut E) := altT x_ (fun u0_ => .ret (.panic (.ifc 70 (.val (.named 3) N.TNil0.mk)), ofSlots E 98 [(21, [.ptr 3 [], .ptr 1 [], .ptr 2 []])] [1, 2, 6, 7, 8] [.val (.int .i64) home, .val (.slice (.named 0)) l, .ptr 1 [], .ptr 2 [], .ptr 3 []], [.box false (.val (.named 1) o0), .box false (.agg 1 [.nils, .nils, .val (.int .i64) u0_.1.Arm, .val .bool u0_.1.Down]), .box false (.val .bool ok), .box false (.val (.named 2) u0_.2.1), .arr .froz .str r4, .arr .froz (.named 0) r5, .box false (.val (.named 0) u0_.2.2)])) (fun w0_ => .ret (.exit 0, ofSlots E 98 [(21, [.ptr 3 [], .ptr 1 [], .ptr 2 []])] [1, 2, 6, 7, 8] [.val (.int .i64) home, .val (.slice (.named 0)) l, .ptr 1 [], .ptr 2 [], .ptr 3 []], [.box false (.val (.named 1) o0), .box false (.agg 1 [.nils, .nils, .val (.int .i64) w0_.1.Arm, .val .bool w0_.1.Down]), .box false (.val .bool ok), .box false (.val (.named 2) w0_.2), .arr .froz .str r4, .arr .froz (.named 0) r5]))
noncomputable def g9_s0 : Ins E (CodeOut E) := ⟨[.v (.int .i64), .v (.slice (.named 0)), .ptr 1 [], .ptr 2 [], .ptr 3 [], .v (.slice (.named 0)), .v (.int .i64), .v (.int .i64)], [.box false (.v (.named 1)), .box false (.agg 1 [.nils, .nils, .v (.int .i64), .v .bool]), .box false (.v .bool), .box false (.v (.named 2)), .arr .froz .str, .arr .froz (.named 0)], fun home l t54 t55 t56 o0 x_Arm x_Down ok w r4 r5 => .opt (N.jrnl_Commit_l0 N.fuel home l t54 t55 o0 ok r4 r5 t56 (N.TDisk.mk [] [] x_Arm x_Down) w) (x9_s0 home l t54 t55 o0 ok r4 r5)⟩
abbrev h9_s1 (t79 : List N.TPut) (t80 : Int) (o0 : N.TDisk) (ok : Bool) (r4 : List (List UInt8)) (r5 : List N.TPut) (t81 : Int) (x : N.TDisk) (w : N.Tjrnl_writer) : Fr E.T := ofSlots E 98 [(21, [.ptr 3 [], .ptr 1 [], .ptr 2 []])] [6, 7, 8, 79, 80, 81] [.ptr 1 [], .ptr 2 [], .ptr 3 [], .val (.slice (.named 0)) t79, .val (.int .i64) t80, .val (.int .i64) t81]
abbrev t9_s1 (t79 : List N.TPut) (t80 : Int) (o0 : N.TDisk) (ok : Bool) (r4 : List (List UInt8)) (r5 : List N.TPut) (t81 : Int) (x : N.TDisk) (w : N.Tjrnl_writer) : St E.T := [.box false (.val (.named 1) o0), .box false (.agg 1 [.nils, .nils, .val (.int .i64) x.Arm, .val .bool x.Down]), .box false (.val .bool ok), .box false (.val (.named 2) w), .arr .froz .str r4, .arr .froz (.named 0) r5]
def x9_s1 (t79 : List N.TPut) (t80 : Int) (o0 : N.TDisk) (ok : Bool) (r4 : List (List UInt8)) (r5 : List N.TPut) (x_ : (N.TDisk × N.Tjrnl_writer × N.TPut) ⊕ (N.TDisk × N.Tjrnl_writer)) : Tree (CodeOut E) := altT x_ (fun u0_ => .ret (.panic (.ifc 70 (.val (.named 3) N.TNil0.mk)), ofSlots E 98 [(21, [.ptr 3 [], .ptr 1 [], .ptr 2 []])] [6, 7, 8] [.ptr 1 [], .ptr 2 [], .ptr 3 []], [.box false (.val (.named 1) o0), .box false (.agg 1 [.nils, .nils, .val (.int .i64) u0_.1.Arm, .val .bool u0_.1.Down]), .box false (.val .bool ok), .box false (.val (.named 2) u0_.2.1), .arr .froz .str r4, .arr .froz (.named 0) r5, .box false (.val (.named 0) u0_.2.2)])) (fun w0_ => .ret (.exit 2, ofSlots E 98 [(21, [.ptr 3 [], .ptr 1 [], .ptr 2 []])] [6, 7, 8] [.ptr 1 [], .ptr 2 [], .ptr 3 []], [.box false (.val (.named 1) o0), .box false (.agg 1 [.nils, .nils, .val (.int .i64) w0_.1.Arm, .val .bool w0_.1.Down]), .box false (.val .bool ok), .box false (.val (.named 2) w0_.2), .arr .froz .str r4, .arr .froz (.named 0) r5]))
noncomputable def g9_s1 : Ins E (CodeOut E) := ⟨[.ptr 1 [], .ptr 2 [], .ptr 3 [], .v (.slice (.named 0)), .v (.int .i64), .v (.int .i64)], [.box false (.v (.named 1)), .box false (.agg 1 [.nils, .nils, .v (.int .i64), .v .bool]), .box false (.v .bool), .box false (.v (.named 2)), .arr .froz .str, .arr .froz (.named 0)], fun t79 t80 t81 o0 x_Arm x_Down ok w r4 r5 => .opt (N.jrnl_Commit_l1 N.fuel t79 t80 o0 ok r4 r5 t81 (N.TDisk.mk [] [] x_Arm x_Down) w) (x9_s1 t79 t80 o0 ok r4 r5)⟩
noncomputable def L9 : Nat → LoopInfo E := clL E 98 [{ ks := [1, 2, 6, 7, 8, 54, 55, 56], mvs := [], pro := [], d := [(21, [.ptr 3 [], .ptr 1 [], .ptr 2 []])], g := some (insF [g9_s0]) }, { ks := [6, 7, 8, 79, 80, 81], mvs := [], pro := [], d := [(21, [.ptr 3 [], .ptr 1 [], .ptr 2 []])], g := some (insF [g9_s1]) }] []
theorem f9_s0 (home : Int) (l : List N.TPut) (t54 : List N.TPut) (t55 : Int) (o0 : N.TDisk) (ok : Bool) (r4 : List (List UInt8)) (r5 : List N.TPut) (t56 : Int) (x : N.TDisk) (w : N.Tjrnl_writer) : ((stepOf E S9 L9 0 0 Tryd.f9 (h9_s0 home l t54 t55 o0 ok r4 r5 t56 x w) (t9_s0 home l t54 t55 o0 ok r4 r5 t56 x w)).bind (nx E [1, 2, 6, 7, 8, 54, 55, 56] [] [1, 2, 6, 7, 8] 6)).get = N.jrnl_Commit_s0k home l t54 t55 o0 ok r4 r5 (fun v_ => some (.inl (h9_s0 home l t54 t55 o0 ok r4 r5 v_.1 v_.2.1 v_.2.2, t9_s0 home l t54 t55 o0 ok r4 r5 v_.1 v_.2.1 v_.2.2))) (fun x_ => some (.inr (.panic (.ifc 70 (.val (.named 3) N.TNil0.mk)), ofSlots E 98 [(21, [.ptr 3 [], .ptr 1 [], .ptr 2 []])] [1, 2, 6, 7, 8] [.val (.int .i64) home, .val (.slice (.named 0)) l, .ptr 1 [], .ptr 2 [], .ptr 3 []], [.box false (.val (.named 1) o0), .box false (.agg 1 [.nils, .nils, .val (.int .i64) x_.1.Arm, .val .bool x_.1.Down]), .box false (.val .bool ok), .box false (.val (.named 2) x_.2.1), .arr .froz .str r4, .arr .froz (.named 0) r5, .box false (.val (.named 0) x_.2.2)]))) (fun x_ => some (.inr (.exit 0, ofSlots E 98 [(21, [.ptr 3 [], .ptr 1 [], .ptr 2 []])] [1, 2, 6, 7, 8] [.val (.int .i64) home, .val (.slice (.named 0)) l, .ptr 1 [], .ptr 2 [], .ptr 3 []], [.box false (.val (.named 1) o0), .box false (.agg 1 [.nils, .nils, .val (.int .i64) x_.1.Arm, .val .bool x_.1.Down]), .box false (.val .bool ok), .box false (.val (.named 2) x_.2), .arr .froz .str r4, .arr .froz (.named 0) r5]))) t56 x w := by kernel_rfl
theorem q9_s0 : InsLp 98 [1, 2, 6, 7, 8, 54, 55, 56] [] [(21, [.ptr 3 [], .ptr 1 [], .ptr 2 []])] (stepOf E S9 L9 0 0 Tryd.f9) g9_s0 := by
  intro home l t54 t55 t56 o0 x_Arm x_Down ok w r4 r5 out_ ho_
  obtain ⟨x_, h1_, h2_⟩ := Option.bind_eq_some_iff.1 ho_
  refine iter_loop (rs := [1, 2, 6, 7, 8]) (step := N.jrnl_Commit_s0 home l t54 t55 o0 ok r4 r5) (hd := fun v_ => h9_s0 home l t54 t55 o0 ok r4 r5 v_.1 v_.2.1 v_.2.2) (sv := fun v_ => t9_s0 home l t54 t55 o0 ok r4 r5 v_.1 v_.2.1 v_.2.2) (ex := x9_s0 home l t54 t55 o0 ok r4 r5) (fun v_ => ?_) N.fuel (t56, (N.TDisk.mk [] [] x_Arm x_Down), w) h1_ h2_
  refine (f9_s0 home l t54 t55 o0 ok r4 r5 v_.1 v_.2.1 v_.2.2).trans ((N.jrnl_Commit_s0_bind home l t54 t55 o0 ok r4 r5 _ _ _ v_.1 v_.2.1 v_.2.2).trans ?_)
  refine congrArg _ (funext fun s_ => ?_)
  rcases s_ with v_ | a | a <;> rfl
theorem f9_s1 (t79 : List N.TPut) (t80 : Int) (o0 : N.TDisk) (ok : Bool) (r4 : List (List UInt8)) (r5 : List N.TPut) (t81 : Int) (x : N.TDisk) (w : N.Tjrnl_writer) : ((stepOf E S9 L9 0 1 Tryd.f9 (h9_s1 t79 t80 o0 ok r4 r5 t81 x w) (t9_s1 t79 t80 o0 ok r4 r5 t81 x w)).bind (nx E [6, 7, 8, 79, 80, 81] [] [6, 7, 8] 6)).get = N.jrnl_Commit_s1k t79 t80 o0 ok r4 r5 (fun v_ => some (.inl (h9_s1 t79 t80 o0 ok r4 r5 v_.1 v_.2.1 v_.2.2, t9_s1 t79 t80 o0 ok r4 r5 v_.1 v_.2.1 v_.2.2))) (fun x_ => some (.inr (.panic (.ifc 70 (.val (.named 3) N.TNil0.mk)), ofSlots E 98 [(21, [.ptr 3 [], .ptr 1 [], .ptr 2 []])] [6, 7, 8] [.ptr 1 [], .ptr 2 [], .ptr 3 []], [.box false (.val (.named 1) o0), .box false (.agg 1 [.nils, .nils, .val (.int .i64) x_.1.Arm, .val .bool x_.1.Down]), .box false (.val .bool ok), .box false (.val (.named 2) x_.2.1), .arr .froz .str r4, .arr .froz (.named 0) r5, .box false (.val (.named 0) x_.2.2)]))) (fun x_ => some (.inr (.exit 2, ofSlots E 98 [(21, [.ptr 3 [], .ptr 1 [], .ptr 2 []])] [6, 7, 8] [.ptr 1 [], .ptr 2 [], .ptr 3 []], [.box false (.val (.named 1) o0), .box false (.agg 1 [.nils, .nils, .val (.int .i64) x_.1.Arm, .val .bool x_.1.Down]), .box false (.val .bool ok), .box false (.val (.named 2) x_.2), .arr .froz .str r4, .arr .froz (.named 0) r5]))) t81 x w := by kernel_rfl
theorem q9_s1 : InsLp 98 [6, 7, 8, 79, 80, 81] [] [(21, [.ptr 3 [], .ptr 1 [], .ptr 2 []])] (stepOf E S9 L9 0 1 Tryd.f9) g9_s1 := by
  intro t79 t80 t81 o0 x_Arm x_Down ok w r4 r5 out_ ho_
  obtain ⟨x_, h1_, h2_⟩ := Option.bind_eq_some_iff.1 ho_
  refine iter_loop (rs := [6, 7, 8]) (step := N.jrnl_Commit_s1 t79 t80 o0 ok r4 r5) (hd := fun v_ => h9_s1 t79 t80 o0 ok r4 r5 v_.1 v_.2.1 v_.2.2) (sv := fun v_ => t9_s1 t79 t80 o0 ok r4 r5 v_.1 v_.2.1 v_.2.2) (ex := x9_s1 t79 t80 o0 ok r4 r5) (fun v_ => ?_) N.fuel (t81, (N.TDisk.mk [] [] x_Arm x_Down), w) h1_ h2_
  refine (f9_s1 t79 t80 o0 ok r4 r5 v_.1 v_.2.1 v_.2.2).trans ((N.jrnl_Commit_s1_bind t79 t80 o0 ok r4 r5 _ _ _ v_.1 v_.2.1 v_.2.2).trans ?_)
  refine congrArg _ (funext fun s_ => ?_)
  rcases s_ with v_ | a | a <;> rfl
noncomputable def B9 : List (DVal E.T) → St E.T → Tree (Res E.T × St E.T) := dbody E (lookS S9) (lookD D9) L9 0 false Tryd.f9
theorem B9_ok : FnOk Tryd.prog E 9 B9 := bodyC_ok sound mix S9_ok (SD := D9) D9_ok (L := L9) (N := 0) (keep := false) Tryd.func9 rfl (by
  intro k g hg fr st out ho
  match k, hg with
  | 0, hg => cases hg; exact lp_ok (allLp_cons q9_s0 (allLp_nil)) fr st out ho
  | 1, hg => cases hg; exact lp_ok (allLp_cons q9_s1 (allLp_nil)) fr st out ho
  | _ + 2, hg => cases hg)
theorem F9 (d : N.TDisk) (home : Int) (l : List N.TPut) : (B9 [.val (.named 1) d, .val (.int .i64) home, .val (.slice (.named 0)) l] []).get = N.jrnl_Commit_k N.fuel (fun x_ => some (.ret [.val (.named 1) x_.1, .val .bool x_.2], [])) d home l := by kernel_rfl
noncomputable def i9 : Ins E (Res E.T × St E.T) := ⟨[.v (.named 1), .v (.int .i64), .v (.slice (.named 0))], [], fun d home l => .opt (N.jrnl_Commit N.fuel d home l) fun x_ => .ret (.ret [.val (.named 1) x_.1, .val .bool x_.2], [])⟩
theorem i9_ok : InsOk Tryd.prog 9 i9 := ⟨B9, B9_ok, by intro d home l out_ h_; exact ((F9 d home l).trans (N.jrnl_Commit_bind N.fuel _ d home l)).trans h_⟩
noncomputable def P9 : Nat × D.Spec E := (9, .pure [(.named 1), (.int .i64), (.slice (.named 0))] (pureF [i9]))
theorem p9 : SpecOk Tryd.prog E P9.1 P9.2 := pureI_ok Tryd.call9 ⟨i9_ok, trivial⟩
noncomputable def S29 : List (Nat × D.Spec E) := [P32, P35]
theorem S29_ok : AllS Tryd.prog E S29 := ⟨p32, p35, trivial⟩
noncomputable def L29 : Nat → LoopInfo E := clL E 24 [] []
noncomputable def B29 : List (DVal E.T) → St E.T → Tree (Res E.T × St E.T) := tidyF (dbody E (lookS S29) (lookD []) L29 0 false Tryd.f29)
theorem B29_ok : FnOk Tryd.prog E 29 B29 := tidy_fn ok (bodyC_ok sound mix S29_ok (SD := []) trivial (L := L29) (N := 0) (keep := false) Tryd.func29 rfl (by
  intro k g hg fr st out ho
  match k, hg with
  | _, hg => cases hg))
theorem F29 (i : Int) (w_d_Arm : Int) (w_d_Down : Bool) (a1_ : List (List UInt8)) (a2_ : List N.TPut) : (B29 [.ptr 0 [], .val (.int .i64) i] [.box false (.agg 2 [.agg 1 [.own 1, .own 2, .val (.int .i64) w_d_Arm, .val .bool w_d_Down]]), .arr .live .str a1_, .arr .live (.named 0) a2_]).get = N.jrnl_writer_read_k (fun x_ => some (.ret [.val .str x_.1], [.box false (.val (.named 2) x_.2.1), .arr .froz .str x_.2.2.1, .arr .froz (.named 0) x_.2.2.2])) (fun x_ => some (.panic (.ifc 70 (.val (.named 3) N.TNil0.mk)), [.box false (.val (.named 2) x_.1), .arr .froz .str x_.2.1, .arr .froz (.named 0) x_.2.2])) i (N.Tjrnl_writer.mk (N.TDisk.mk a1_ a2_ w_d_Arm w_d_Down)) := by kernel_rfl
noncomputable def i29 : Ins E (Res E.T × St E.T) := ⟨[.ptr 0 [], .v (.int .i64)], [.box false (.agg 2 [.agg 1 [.own 1, .own 2, .v (.int .i64), .v .bool]]), .arr .live .str, .arr .live (.named 0)], fun i w_d_Arm w_d_Down a1_ a2_ => .opt (N.jrnl_writer_read i (N.Tjrnl_writer.mk (N.TDisk.mk a1_ a2_ w_d_Arm w_d_Down))) fun x_ => altT x_ (fun u0_ => .ret (.ret [.val .str u0_.1], [.box false (.val (.named 2) u0_.2.1), .arr .froz .str u0_.2.2.1, .arr .froz (.named 0) u0_.2.2.2])) (fun w0_ => .ret (.panic (.ifc 70 (.val (.named 3) N.TNil0.mk)), [.box false (.val (.named 2) w0_.1), .arr .froz .str w0_.2.1, .arr .froz (.named 0) w0_.2.2]))⟩
theorem i29_ok : InsOk Tryd.prog 29 i29 := ⟨B29, B29_ok, by intro i w_d_Arm w_d_Down a1_ a2_ out_ h_; exact ((F29 i w_d_Arm w_d_Down a1_ a2_).trans (N.jrnl_writer_read_bind _ _ i (N.Tjrnl_writer.mk (N.TDisk.mk a1_ a2_ w_d_Arm w_d_Down)))).trans h_⟩
noncomputable def S29a : List (Nat × D.Spec E) := [P32, P35]
theorem S29a_ok : AllS Tryd.prog E S29a := ⟨p32, p35, trivial⟩
noncomputable def L29a : Nat → LoopInfo E := clL E 24 [] []
noncomputable def B29a : List (DVal E.T) → St E.T → Tree (Res E.T × St E.T) := tidyF (dbody E (lookS S29a) (lookD []) L29a 0 false Tryd.f29)
theorem B29a_ok : FnOk Tryd.prog E 29 B29a := tidy_fn ok (bodyC_ok sound mix S29a_ok (SD := []) trivial (L := L29a) (N := 0) (keep := false) Tryd.func29 rfl (by
  intro k g hg fr st out ho
  match k, hg with
  | _, hg => cases hg))
theorem F29a (i : Int) (w : N.Tjrnl_writer) : (B29a [.ptr 0 [], .val (.int .i64) i] [.box false (.val (.named 2) w)]).get = N.jrnl_writer_read_2_k (fun x_ => some (.ret [.val .str x_.1], [.box false (.val (.named 2) x_.2)])) (fun x_ => some (.panic (.ifc 70 (.val (.named 3) N.TNil0.mk)), [.box false (.val (.named 2) x_)])) i w := by kernel_rfl
noncomputable def i29a : Ins E (Res E.T × St E.T) := ⟨[.ptr 0 [], .v (.int .i64)], [.box false (.v (.named 2))], fun i w => .opt (N.jrnl_writer_read_2 i w) fun x_ => altT x_ (fun u0_ => .ret (.ret [.val .str u0_.1], [.box false (.val (.named 2) u0_.2)])) (fun w0_ => .ret (.panic (.ifc 70 (.val (.named 3) N.TNil0.mk)), [.box false (.val (.named 2) w0_)]))⟩
theorem i29a_ok : InsOk Tryd.prog 29 i29a := ⟨B29a, B29a_ok, by intro i w out_ h_; exact ((F29a i w).trans (N.jrnl_writer_read_2_bind _ _ i w)).trans h_⟩
noncomputable def P29 : Nat × D.Spec E := (29, .full [.ptr, .data (.int .i64)] false (fullF [i29, i29a]))
theorem p29 : SpecOk Tryd.prog E P29.1 P29.2 := fullI_ok ok Tryd.call29 ⟨i29_ok, i29a_ok, trivial⟩
noncomputable def S42 : List (Nat × D.Spec E) := []
theorem S42_ok : AllS Tryd.prog E S42 := trivial
abbrev h42_s0 (c : UInt8) (s : List UInt8) : Fr E.T := ofSlots E 23 [] [0, 1] [.val .str s, .val (.int .u8) c]
abbrev t42_s0 (c : UInt8) (s : List UInt8) : St E.T := []
def x42_s0 (c : UInt8) (x_ : List UInt8) : Tree (CodeOut E) := .ret (.exit 0, ofSlots E 23 [] [0, 4] [.val .str x_, .undef], [])
noncomputable def g42_s0 : Ins E (CodeOut E) := ⟨[.v .str, .v (.int .u8)], [], fun s c => .opt (N.strings_trimRightByte_l0 N.fuel c s) (x42_s0 c)⟩
noncomputable def L42 : Nat → LoopInfo E := clL E 23 [{ ks := [0, 1], mvs := [], pro := [], d := [], g := some (insF [g42_s0]) }] []
theorem f42_s0 (c : UInt8) (s : List UInt8) : ((stepOf E S42 L42 0 0 Tryd.f42 (h42_s0 c s) (t42_s0 c s)).bind (nx E [0, 1] [] [0, 4] 0)).get = N.strings_trimRightByte_s0k c (fun v_ => some (.inl (h42_s0 c v_, t42_s0 c v_))) (fun x_ => some (.inr (.exit 0, ofSlots E 23 [] [0, 4] [.val .str x_, .undef], []))) s := by kernel_rfl
theorem q42_s0 : InsLp 23 [0, 1] [] [] (stepOf E S42 L42 0 0 Tryd.f42) g42_s0 := by
  intro s c out_ ho_
  obtain ⟨x_, h1_, h2_⟩ := Option.bind_eq_some_iff.1 ho_
  refine iter_loop (rs := [0, 4]) (step := N.strings_trimRightByte_s0 c) (hd := fun v_ => h42_s0 c v_) (sv := fun v_ => t42_s0 c v_) (ex := x42_s0 c) (fun v_ => ?_) N.fuel s h1_ h2_
  refine (f42_s0 c v_).trans ((N.strings_trimRightByte_s0_bind c _ _ v_).trans ?_)
  refine congrArg _ (funext fun s_ => ?_)
  rcases s_ with v_ | a <;> rfl
noncomputable def B42 : List (DVal E.T) → St E.T → Tree (Res E.T × St E.T) := dbody E (lookS S42) (lookD []) L42 0 false Tryd.f42
theorem B42_ok : FnOk Tryd.prog E 42 B42 := bodyC_ok sound mix S42_ok (SD := []) trivial (L := L42) (N := 0) (keep := false) Tryd.func42 rfl (by
  intro k g hg fr st out ho
  match k, hg with
  | 0, hg => cases hg; exact lp_ok (allLp_cons q42_s0 (allLp_nil)) fr st out ho
  | _ + 1, hg => cases hg)
theorem F42 (s : List UInt8) (c : UInt8) : (B42 [.val .str s, .val (.int .u8) c] []).get = N.strings_trimRightByte_k N.fuel (fun x_ => some (.ret [.val .str x_], [])) s c := by kernel_rfl
noncomputable def i42 : Ins E (Res E.T × St E.T) := ⟨[.v .str, .v (.int .u8)], [], fun s c => .opt (N.strings_trimRightByte N.fuel s c) fun x_ => .ret (.ret [.val .str x_], [])⟩
theorem i42_ok : InsOk Tryd.prog 42 i42 := ⟨B42, B42_ok, by intro s c out_ h_; exact ((F42 s c).trans (N.strings_trimRightByte_bind N.fuel _ s c)).trans h_⟩
noncomputable def P42 : Nat × D.Spec E := (42, .pure [.str, (.int .u8)] (pureF [i42]))
theorem p42 : SpecOk Tryd.prog E P42.1 P42.2 := pureI_ok Tryd.call42 ⟨i42_ok, trivial⟩
noncomputable def S41 : List (Nat × D.Spec E) := []
theorem S41_ok : AllS Tryd.prog E S41 := trivial
abbrev h41_s0 (c : UInt8) (s : List UInt8) : Fr E.T := ofSlots E 17 [] [0, 1] [.val .str s, .val (.int .u8) c]
abbrev t41_s0 (c : UInt8) (s : List UInt8) : St E.T := []
def x41_s0 (c : UInt8) (x_ : List UInt8) : Tree (CodeOut E) := .ret (.exit 0, ofSlots E 17 [] [0, 4] [.val .str x_, .undef], [])
noncomputable def g41_s0 : Ins E (CodeOut E) := ⟨[.v .str, .v (.int .u8)], [], fun s c => .opt (N.strings_trimLeftByte_l0 N.fuel c s) (x41_s0 c)⟩
noncomputable def L41 : Nat → LoopInfo E := clL E 17 [{ ks := [0, 1], mvs := [], pro := [], d := [], g := some (insF [g41_s0]) }] []
theorem f41_s0 (c : UInt8) (s : List UInt8) : ((stepOf E S41 L41 0 0 Tryd.f41 (h41_s0 c s) (t41_s0 c s)).bind (nx E [0, 1] [] [0, 4] 0)).get = N.strings_trimLeftByte_s0k c (fun v_ => some (.inl (h41_s0 c v_, t41_s0 c v_))) (fun x_ => some (.inr (.exit 0, ofSlots E 17 [] [0, 4] [.val .str x_, .undef], []))) s := by kernel_rfl
theorem q41_s0 : InsLp 17 [0, 1] [] [] (stepOf E S41 L41 0 0 Tryd.f41) g41_s0 := by
  intro s c out_ ho_
  obtain ⟨x_, h1_, h2_⟩ := Option.bind_eq_some_iff.1 ho_
  refine iter_loop (rs := [0, 4]) (step := N.strings_trimLeftByte_s0 c) (hd := fun v_ => h41_s0 c v_) (sv := fun v_ => t41_s0 c v_) (ex := x41_s0 c) (fun v_ => ?_) N.fuel s h1_ h2_
  refine (f41_s0 c v_).trans ((N.strings_trimLeftByte_s0_bind c _ _ v_).trans ?_)
  refine congrArg _ (funext fun s_ => ?_)
  rcases s_ with v_ | a <;> rfl
noncomputable def B41 : List (DVal E.T) → St E.T → Tree (Res E.T × St E.T) := dbody E (lookS S41) (lookD []) L41 0 false Tryd.f41
theorem B41_ok : FnOk Tryd.prog E 41 B41 := bodyC_ok sound mix S41_ok (SD := []) trivial (L := L41) (N := 0) (keep := false) Tryd.func41 rfl (by
  intro k g hg fr st out ho
  match k, hg with
  | 0, hg => cases hg; exact lp_ok (allLp_cons q41_s0 (allLp_nil)) fr st out ho
  | _ + 1, hg => cases hg)
theorem F41 (s : List UInt8) (c : UInt8) : (B41 [.val .str s, .val (.int .u8) c] []).get = N.strings_trimLeftByte_k N.fuel (fun x_ => some (.ret [.val .str x_], [])) s c := by kernel_rfl
noncomputable def i41 : Ins E (Res E.T × St E.T) := ⟨[.v .str, .v (.int .u8)], [], fun s c => .opt (N.strings_trimLeftByte N.fuel s c) fun x_ => .ret (.ret [.val .str x_], [])⟩
theorem i41_ok : InsOk Tryd.prog 41 i41 := ⟨B41, B41_ok, by intro s c out_ h_; exact ((F41 s c).trans (N.strings_trimLeftByte_bind N.fuel _ s c)).trans h_⟩
noncomputable def P41 : Nat × D.Spec E := (41, .pure [.str, (.int .u8)] (pureF [i41]))
theorem p41 : SpecOk Tryd.prog E P41.1 P41.2 := pureI_ok Tryd.call41 ⟨i41_ok, trivial⟩
noncomputable def S36 : List (Nat × D.Spec E) := [P41, P42]
theorem S36_ok : AllS Tryd.prog E S36 := ⟨p41, p42, trivial⟩
noncomputable def L36 : Nat → LoopInfo E := clL E 43 [] []
noncomputable def B36 : List (DVal E.T) → St E.T → Tree (Res E.T × St E.T) := dbody E (lookS S36) (lookD []) L36 0 false Tryd.f36
theorem B36_ok : FnOk Tryd.prog E 36 B36 := bodyC_ok sound mix S36_ok (SD := []) trivial (L := L36) (N := 0) (keep := false) Tryd.func36 rfl (by
  intro k g hg fr st out ho
  match k, hg with
  | _, hg => cases hg)
theorem F36 (s : List UInt8) : (B36 [.val .str s, .val .str ([0])] []).get = N.strings_Trim_k N.fuel (fun x_ => some (.ret [.val .str x_], [])) s := by kernel_rfl
noncomputable def i36 : Ins E (Res E.T × St E.T) := ⟨[.v .str, .str [0]], [], fun s => .opt (N.strings_Trim N.fuel s) fun x_ => .ret (.ret [.val .str x_], [])⟩
theorem i36_ok : InsOk Tryd.prog 36 i36 := ⟨B36, B36_ok, by intro s out_ h_; exact ((F36 s).trans (N.strings_Trim_bind N.fuel _ s)).trans h_⟩
noncomputable def P36 : Nat × D.Spec E := (36, .pure [.str, .str] (pureF [i36]))
theorem p36 : SpecOk Tryd.prog E P36.1 P36.2 := pureI_ok Tryd.call36 ⟨i36_ok, trivial⟩
noncomputable def S30 : List (Nat × D.Spec E) := [P36]
theorem S30_ok : AllS Tryd.prog E S30 := ⟨p36, trivial⟩
abbrev h30_s0 (home : Int) (s : List UInt8) (n : Int) (t44 : Int) (o0 : N.TDisk) (r1 : List UInt8) (last : Int) (t45 : Int) (l : List Int) : Fr E.T := ofSlots E 73 [] [1, 2, 8, 9, 10, 43, 44, 45] [.val (.int .i64) home, .val .str s, .val (.int .i64) n, .own 2, .val (.int .i64) last, .own 1, .val (.int .i64) t44, .val (.int .i64) t45]
abbrev t30_s0 (home : Int) (s : List UInt8) (n : Int) (t44 : Int) (o0 : N.TDisk) (r1 : List UInt8) (last : Int) (t45 : Int) (l : List Int) : St E.T := [.box false (.val (.named 1) o0), .arr .live (.int .u8) r1, .arr .live (.int .i64) l]
def x30_s0 (home : Int) (s : List UInt8) (n : Int) (t44 : Int) (o0 : N.TDisk) (r1 : List UInt8) (x_ : (List Int) ⊕ (List Int)) : Tree (CodeOut E) := altT x_ (fun u0_ => .ret (.ret, ofSlots E 73 [] [2, 6, 7, 8, 9] [.val .str s, .nils, .val .bool false, .val (.int .i64) n, .own 2], [.box false (.val (.named 1) o0), .arr .live (.int .u8) r1, .arr .live (.int .i64) u0_])) (fun w0_ => .ret (.exit 0, ofSlots E 73 [] [2, 6, 7, 8, 9] [.val .str s, .undef, .undef, .val (.int .i64) n, .own 2], [.box false (.val (.named 1) o0), .arr .live (.int .u8) r1, .arr .live (.int .i64) w0_]))
noncomputable def g30_s0 : Ins E (CodeOut E) := ⟨[.v (.int .i64), .v .str, .v (.int .i64), .own 2, .v (.int .i64), .own 1, .v (.int .i64), .v (.int .i64)], [.box false (.v (.named 1)), .arr .live (.int .u8), .arr .live (.int .i64)], fun home s n last t44 t45 o0 r1 l => .opt (N.jrnl_named_l0 N.fuel home s n t44 o0 r1 last t45 l) (x30_s0 home s n t44 o0 r1)⟩
noncomputable def L30 : Nat → LoopInfo E := clL E 73 [{ ks := [1, 2, 8, 9, 10, 43, 44, 45], mvs := [], pro := [.pro (.slot 9) [] (.int .i64)], d := [], g := some (insF [g30_s0]) }] []
theorem f30_s0 (home : Int) (s : List UInt8) (n : Int) (t44 : Int) (o0 : N.TDisk) (r1 : List UInt8) (last : Int) (t45 : Int) (l : List Int) : ((stepOf E S30 L30 0 0 Tryd.f30 (h30_s0 home s n t44 o0 r1 last t45 l) (t30_s0 home s n t44 o0 r1 last t45 l)).bind (nx E [1, 2, 8, 9, 10, 43, 44, 45] [] [2, 6, 7, 8, 9] 3)).get = N.jrnl_named_s0k home s n t44 o0 r1 (fun v_ => some (.inl (h30_s0 home s n t44 o0 r1 v_.1 v_.2.1 v_.2.2, t30_s0 home s n t44 o0 r1 v_.1 v_.2.1 v_.2.2))) (fun x_ => some (.inr (.ret, ofSlots E 73 [] [2, 6, 7, 8, 9] [.val .str s, .nils, .val .bool false, .val (.int .i64) n, .own 2], [.box false (.val (.named 1) o0), .arr .live (.int .u8) r1, .arr .live (.int .i64) x_]))) (fun x_ => some (.inr (.exit 0, ofSlots E 73 [] [2, 6, 7, 8, 9] [.val .str s, .undef, .undef, .val (.int .i64) n, .own 2], [.box false (.val (.named 1) o0), .arr .live (.int .u8) r1, .arr .live (.int .i64) x_]))) last t45 l := by kernel_rfl
theorem q30_s0 : InsLp 73 [1, 2, 8, 9, 10, 43, 44, 45] [] [] (stepOf E S30 L30 0 0 Tryd.f30) g30_s0 := by
  intro home s n last t44 t45 o0 r1 l out_ ho_
  obtain ⟨x_, h1_, h2_⟩ := Option.bind_eq_some_iff.1 ho_
  refine iter_loop (rs := [2, 6, 7, 8, 9]) (step := N.jrnl_named_s0 home s n t44 o0 r1) (hd := fun v_ => h30_s0 home s n t44 o0 r1 v_.1 v_.2.1 v_.2.2) (sv := fun v_ => t30_s0 home s n t44 o0 r1 v_.1 v_.2.1 v_.2.2) (ex := x30_s0 home s n t44 o0 r1) (fun v_ => ?_) N.fuel (last, t45, l) h1_ h2_
  refine (f30_s0 home s n t44 o0 r1 v_.1 v_.2.1 v_.2.2).trans ((N.jrnl_named_s0_bind home s n t44 o0 r1 _ _ _ v_.1 v_.2.1 v_.2.2).trans ?_)
  refine congrArg _ (funext fun s_ => ?_)
  rcases s_ with v_ | a | a <;> rfl
noncomputable def B30 : List (DVal E.T) → St E.T → Tree (Res E.T × St E.T) := dbody E (lookS S30) (lookD []) L30 0 false Tryd.f30
theorem B30_ok : FnOk Tryd.prog E 30 B30 := bodyC_ok sound mix S30_ok (SD := []) trivial (L := L30) (N := 0) (keep := false) Tryd.func30 rfl (by
  intro k g hg fr st out ho
  match k, hg with
  | 0, hg => cases hg; exact lp_ok (allLp_cons q30_s0 (allLp_nil)) fr st out ho
  | _ + 1, hg => cases hg)
theorem F30 (d : N.TDisk) (home : Int) (s : List UInt8) : (B30 [.val (.named 1) d, .val (.int .i64) home, .val .str s] []).get = N.jrnl_named_k N.fuel (fun x_ => some (.ret [.val (.slice (.int .i64)) x_.1, .val .bool x_.2], [])) d home s := by kernel_rfl
noncomputable def i30 : Ins E (Res E.T × St E.T) := ⟨[.v (.named 1), .v (.int .i64), .v .str], [], fun d home s => .opt (N.jrnl_named N.fuel d home s) fun x_ => .ret (.ret [.val (.slice (.int .i64)) x_.1, .val .bool x_.2], [])⟩
theorem i30_ok : InsOk Tryd.prog 30 i30 := ⟨B30, B30_ok, by intro d home s out_ h_; exact ((F30 d home s).trans (N.jrnl_named_bind N.fuel _ d home s)).trans h_⟩
noncomputable def P30 : Nat × D.Spec E := (30, .pure [(.named 1), (.int .i64), .str] (pureF [i30]))
theorem p30 : SpecOk Tryd.prog E P30.1 P30.2 := pureI_ok Tryd.call30 ⟨i30_ok, trivial⟩
noncomputable def S14 : List (Nat × D.Spec E) := [P18, P19, P22, P24, P29, P30]
theorem S14_ok : AllS Tryd.prog E S14 := ⟨p18, p19, p22, p24, p29, p30, trivial⟩
noncomputable def D14 : List (Nat × DSpec E) := [(21, B21)]
theorem D14_ok : AllD Tryd.prog E D14 := ⟨p21, trivial⟩
abbrev h14_s0 (home : Int) (t53 : List Int) (t54 : Int) (o0 : N.TDisk) (ok : Bool) (r4 : List (List UInt8)) (r5 : List N.TPut) (t55 : Int) (x : N.TDisk) (w : N.Tjrnl_writer) : Fr E.T := ofSlots E 76 [(21, [.ptr 3 [], .ptr 1 [], .ptr 2 []])] [1, 4, 5, 6, 53, 54, 55] [.val (.int .i64) home, .ptr 1 [], .ptr 2 [], .ptr 3 [], .val (.slice (.int .i64)) t53, .val (.int .i64) t54, .val (.int .i64) t55]
abbrev t14_s0 (home : Int) (t53 : List Int) (t54 : Int) (o0 : N.TDisk) (ok : Bool) (r4 : List (List UInt8)) (r5 : List N.TPut) (t55 : Int) (x : N.TDisk) (w : N.Tjrnl_writer) : St E.T := [.box false (.val (.named 1) o0), .box false (.agg 1 [.nils, .nils, .val (.int .i64) x.Arm, .val .bool x.Down]), .box false (.val .bool ok), .box false (.val (.named 2) w), .arr .froz .str r4, .arr .froz (.named 0) r5]
def x14_s0 (home : Int) (t53 : List Int) (t54 : Int) (o0 : N.TDisk) (ok : Bool) (r4 : List (List UInt8)) (r5 : List N.TPut) (x_ : (N.TDisk × N.Tjrnl_writer) ⊕ (N.TDisk × N.Tjrnl_writer)) : Tree (CodeOut E) := altT x_ (fun u0_ => .ret (.panic (.ifc 70 (.val (.named 3) N.TNil0.mk)), ofSlots E 76 [(21, [.ptr 3 [], .ptr 1 [], .ptr 2 []])] [4, 5, 6] [.ptr 1 [], .ptr 2 [], .ptr 3 []], [.box false (.val (.named 1) o0), .box false (.agg 1 [.nils, .nils, .val (.int .i64) u0_.1.Arm, .val .bool u0_.1.Down]), .box false (.val .bool ok), .box false (.val (.named 2) u0_.2), .arr .froz .str r4, .arr .froz (.named 0) r5])) (fun w0_ => .ret (.exit 0, ofSlots E 76 [(21, [.ptr 3 [], .ptr 1 [], .ptr 2 []])] [4, 5, 6] [.ptr 1 [], .ptr 2 [], .ptr 3 []], [.box false (.val (.named 1) o0), .box false (.agg 1 [.nils, .nils, .val (.int .i64) w0_.1.Arm, .val .bool w0_.1.Down]), .box false (.val .bool ok), .box false (.val (.named 2) w0_.2), .arr .froz .str r4, .arr .froz (.named 0) r5]))
noncomputable def g14_s0 : Ins E (CodeOut E) := ⟨[.v (.int .i64), .ptr 1 [], .ptr 2 [], .ptr 3 [], .v (.slice (.int .i64)), .v (.int .i64), .v (.int .i64)], [.box false (.v (.named 1)), .box false (.agg 1 [.nils, .nils, .v (.int .i64), .v .bool]), .box false (.v .bool), .box false (.v (.named 2)), .arr .froz .str, .arr .froz (.named 0)], fun home t53 t54 t55 o0 x_Arm x_Down ok w r4 r5 => .opt (N.jrnl_Mend_l0 N.fuel home t53 t54 o0 ok r4 r5 t55 (N.TDisk.mk [] [] x_Arm x_Down) w) (x14_s0 home t53 t54 o0 ok r4 r5)⟩
noncomputable def L14 : Nat → LoopInfo E := clL E 76 [{ ks := [1, 4, 5, 6, 53, 54, 55], mvs := [], pro := [], d := [(21, [.ptr 3 [], .ptr 1 [], .ptr 2 []])], g := some (insF [g14_s0]) }] []
theorem f14_s0 (home : Int) (t53 : List Int) (t54 : Int) (o0 : N.TDisk) (ok : Bool) (r4 : List (List UInt8)) (r5 : List N.TPut) (t55 : Int) (x : N.TDisk) (w : N.Tjrnl_writer) : ((stepOf E S14 L14 0 0 Tryd.f14 (h14_s0 home t53 t54 o0 ok r4 r5 t55 x w) (t14_s0 home t53 t54 o0 ok r4 r5 t55 x w)).bind (nx E [1, 4, 5, 6, 53, 54, 55] [] [4, 5, 6] 6)).get = N.jrnl_Mend_s0k home t53 t54 o0 ok r4 r5 (fun v_ => some (.inl (h14_s0 home t53 t54 o0 ok r4 r5 v_.1 v_.2.1 v_.2.2, t14_s0 home t53 t54 o0 ok r4 r5 v_.1 v_.2.1 v_.2.2))) (fun x_ => some (.inr (.panic (.ifc 70 (.val (.named 3) N.TNil0.mk)), ofSlots E 76 [(21, [.ptr 3 [], .ptr 1 [], .ptr 2 []])] [4, 5, 6] [.ptr 1 [], .ptr 2 [], .ptr 3 []], [.box false (.val (.named 1) o0), .box false (.agg 1 [.nils, .nils, .val (.int .i64) x_.1.Arm, .val .bool x_.1.Down]), .box false (.val .bool ok), .box false (.val (.named 2) x_.2), .arr .froz .str r4, .arr .froz (.named 0) r5]))) (fun x_ => some (.inr (.exit 0, ofSlots E 76 [(21, [.ptr 3 [], .ptr 1 [], .ptr 2 []])] [4, 5, 6] [.ptr 1 [], .ptr 2 [], .ptr 3 []], [.box false (.val (.named 1) o0), .box false (.agg 1 [.nils, .nils, .val (.int .i64) x_.1.Arm, .val .bool x_.1.Down]), .box false (.val .bool ok), .box false (.val (.named 2) x_.2), .arr .froz .str r4, .arr .froz (.named 0) r5]))) t55 x w := by kernel_rfl
theorem q14_s0 : InsLp 76 [1, 4, 5, 6, 53, 54, 55] [] [(21, [.ptr 3 [], .ptr 1 [], .ptr 2 []])] (stepOf E S14 L14 0 0 Tryd.f14) g14_s0 := by
  intro home t53 t54 t55 o0 x_Arm x_Down ok w r4 r5 out_ ho_
  obtain ⟨x_, h1_, h2_⟩ := Option.bind_eq_some_iff.1 ho_
  refine iter_loop (rs := [4, 5, 6]) (step := N.jrnl_Mend_s0 home t53 t54 o0 ok r4 r5) (hd := fun v_ => h14_s0 home t53 t54 o0 ok r4 r5 v_.1 v_.2.1 v_.2.2) (sv := fun v_ => t14_s0 home t53 t54 o0 ok r4 r5 v_.1 v_.2.1 v_.2.2) (ex := x14_s0 home t53 t54 o0 ok r4 r5) (fun v_ => ?_) N.fuel (t55, (N.TDisk.mk [] [] x_Arm x_Down), w) h1_ h2_
  refine (f14_s0 home t53 t54 o0 ok r4 r5 v_.1 v_.2.1 v_.2.2).trans ((N.jrnl_Mend_s0_bind home t53 t54 o0 ok r4 r5 _ _ _ v_.1 v_.2.1 v_.2.2).trans ?_)
  refine congrArg _ (funext fun s_ => ?_)
  rcases s_ with v_ | a | a <;> rfl
noncomputable def B14 : List (DVal E.T) → St E.T → Tree (Res E.T × St E.T) := dbody E (lookS S14) (lookD D14) L14 0 false Tryd.f14
theorem B14_ok : FnOk Tryd.prog E 14 B14 := bodyC_ok sound mix S14_ok (SD := D14) D14_ok (L := L14) (N := 0) (keep := false) Tryd.func14 rfl (by
  intro k g hg fr st out ho
  match k, hg with
  | 0, hg => cases hg; exact lp_ok (allLp_cons q14_s0 (allLp_nil)) fr st out ho
  | _ + 1, hg => cases hg)
theorem F14 (d : N.TDisk) (home : Int) : (B14 [.val (.named 1) d, .val (.int .i64) home] []).get = N.jrnl_Mend_k N.fuel (fun x_ => some (.ret [.val (.named 1) x_.1, .val .bool x_.2], [])) d home := by kernel_rfl
noncomputable def i14 : Ins E (Res E.T × St E.T) := ⟨[.v (.named 1), .v (.int .i64)], [], fun d home => .opt (N.jrnl_Mend N.fuel d home) fun x_ => .ret (.ret [.val (.named 1) x_.1, .val .bool x_.2], [])⟩
theorem i14_ok : InsOk Tryd.prog 14 i14 := ⟨B14, B14_ok, by intro d home out_ h_; exact ((F14 d home).trans (N.jrnl_Mend_bind N.fuel _ d home)).trans h_⟩
noncomputable def P14 : Nat × D.Spec E := (14, .pure [(.named 1), (.int .i64)] (pureF [i14]))
theorem p14 : SpecOk Tryd.prog E P14.1 P14.2 := pureI_ok Tryd.call14 ⟨i14_ok, trivial⟩
noncomputable def S27 : List (Nat × D.Spec E) := []
theorem S27_ok : AllS Tryd.prog E S27 := trivial
noncomputable def L27 : Nat → LoopInfo E := clL E 19 [] []
noncomputable def B27 : List (DVal E.T) → St E.T → Tree (Res E.T × St E.T) := dbody E (lookS S27) (lookD []) L27 0 false Tryd.f27
theorem B27_ok : FnOk Tryd.prog E 27 B27 := bodyC_ok sound mix S27_ok (SD := []) trivial (L := L27) (N := 0) (keep := false) Tryd.func27 rfl (by
  intro k g hg fr st out ho
  match k, hg with
  | _, hg => cases hg)
theorem F27 (d : N.TDisk) (i : Int) : (B27 [.val (.named 1) d, .val (.int .i64) i] []).get = N.ref5_is_k (fun x_ => some (.ret [.val .bool x_], [])) d i := by kernel_rfl
noncomputable def i27 : Ins E (Res E.T × St E.T) := ⟨[.v (.named 1), .v (.int .i64)], [], fun d i => .ret (.ret [.val .bool (N.ref5_is d i)], [])⟩
theorem i27_ok : InsOk Tryd.prog 27 i27 := ⟨B27, B27_ok, by intro d i out_ h_; exact ((F27 d i).trans (N.ref5_is_bind _ d i)).trans h_⟩
noncomputable def P27 : Nat × D.Spec E := (27, .pure [(.named 1), (.int .i64)] (pureF [i27]))
theorem p27 : SpecOk Tryd.prog E P27.1 P27.2 := pureI_ok Tryd.call27 ⟨i27_ok, trivial⟩
noncomputable def S12 : List (Nat × D.Spec E) := [P27]
theorem S12_ok : AllS Tryd.prog E S12 := ⟨p27, trivial⟩
abbrev h12_s0 (i : Int) (d : N.TDisk) (s : List UInt8) (k : Int) : Fr E.T := ofSlots E 39 [] [1, 2, 6, 7] [.val (.int .i64) i, .ptr 0 [], .val .str s, .val (.int .i64) k]
abbrev t12_s0 (i : Int) (d : N.TDisk) (s : List UInt8) (k : Int) : St E.T := [.box false (.val (.named 1) d)]
def x12_s0 (i : Int) (d : N.TDisk) (x_ : List UInt8) : Tree (CodeOut E) := .ret (.exit 0, ofSlots E 39 [] [4, 5, 6] [.undef, .undef, .val .str x_], [.box false (.val (.named 1) d)])
noncomputable def g12_s0 : Ins E (CodeOut E) := ⟨[.v (.int .i64), .ptr 0 [], .v .str, .v (.int .i64)], [.box false (.v (.named 1))], fun i s k d => .opt (N.ref5_Read_l0 N.fuel i d s k) (x12_s0 i d)⟩
noncomputable def L12 : Nat → LoopInfo E := clL E 39 [{ ks := [1, 2, 6, 7], mvs := [], pro := [], d := [], g := some (insF [g12_s0]) }] []
theorem f12_s0 (i : Int) (d : N.TDisk) (s : List UInt8) (k : Int) : ((stepOf E S12 L12 0 0 Tryd.f12 (h12_s0 i d s k) (t12_s0 i d s k)).bind (nx E [1, 2, 6, 7] [] [4, 5, 6] 1)).get = N.ref5_Read_s0k i d (fun v_ => some (.inl (h12_s0 i d v_.1 v_.2, t12_s0 i d v_.1 v_.2))) (fun x_ => some (.inr (.exit 0, ofSlots E 39 [] [4, 5, 6] [.undef, .undef, .val .str x_], [.box false (.val (.named 1) d)]))) s k := by kernel_rfl
theorem q12_s0 : InsLp 39 [1, 2, 6, 7] [] [] (stepOf E S12 L12 0 0 Tryd.f12) g12_s0 := by
  intro i s k d out_ ho_
  obtain ⟨x_, h1_, h2_⟩ := Option.bind_eq_some_iff.1 ho_
  refine iter_loop (rs := [4, 5, 6]) (step := N.ref5_Read_s0 i d) (hd := fun v_ => h12_s0 i d v_.1 v_.2) (sv := fun v_ => t12_s0 i d v_.1 v_.2) (ex := x12_s0 i d) (fun v_ => ?_) N.fuel (s, k) h1_ h2_
  refine (f12_s0 i d v_.1 v_.2).trans ((N.ref5_Read_s0_bind i d _ _ v_.1 v_.2).trans ?_)
  refine congrArg _ (funext fun s_ => ?_)
  rcases s_ with v_ | a <;> rfl
noncomputable def B12 : List (DVal E.T) → St E.T → Tree (Res E.T × St E.T) := dbody E (lookS S12) (lookD []) L12 0 false Tryd.f12
theorem B12_ok : FnOk Tryd.prog E 12 B12 := bodyC_ok sound mix S12_ok (SD := []) trivial (L := L12) (N := 0) (keep := false) Tryd.func12 rfl (by
  intro k g hg fr st out ho
  match k, hg with
  | 0, hg => cases hg; exact lp_ok (allLp_cons q12_s0 (allLp_nil)) fr st out ho
  | _ + 1, hg => cases hg)
theorem F12 (d : N.TDisk) (i : Int) : (B12 [.val (.named 1) d, .val (.int .i64) i] []).get = N.ref5_Read_k N.fuel (fun x_ => some (.ret [.val .str x_.1, .val .bool x_.2], [])) d i := by kernel_rfl
noncomputable def i12 : Ins E (Res E.T × St E.T) := ⟨[.v (.named 1), .v (.int .i64)], [], fun d i => .opt (N.ref5_Read N.fuel d i) fun x_ => .ret (.ret [.val .str x_.1, .val .bool x_.2], [])⟩
theorem i12_ok : InsOk Tryd.prog 12 i12 := ⟨B12, B12_ok, by intro d i out_ h_; exact ((F12 d i).trans (N.ref5_Read_bind N.fuel _ d i)).trans h_⟩
noncomputable def P12 : Nat × D.Spec E := (12, .pure [(.named 1), (.int .i64)] (pureF [i12]))
theorem p12 : SpecOk Tryd.prog E P12.1 P12.2 := pureI_ok Tryd.call12 ⟨i12_ok, trivial⟩
noncomputable def S8 : List (Nat × D.Spec E) := [P10, P12, P14, P16, P9]
theorem S8_ok : AllS Tryd.prog E S8 := ⟨p10, p12, p14, p16, p9, trivial⟩
noncomputable def L8 : Nat → LoopInfo E := clL E 48 [] []
noncomputable def B8 : List (DVal E.T) → St E.T → Tree (Res E.T × St E.T) := dbody E (lookS S8) (lookD []) L8 0 false Tryd.f8
theorem B8_ok : FnOk Tryd.prog E 8 B8 := bodyC_ok sound mix S8_ok (SD := []) trivial (L := L8) (N := 0) (keep := false) Tryd.func8 rfl (by
  intro k g hg fr st out ho
  match k, hg with
  | _, hg => cases hg)
theorem F8 : (B8 [] []).get = N.law6_begun_k N.fuel (fun x_ => some (.ret [.val .bool x_], [])) := by kernel_rfl
noncomputable def i8 : Ins E (Res E.T × St E.T) := ⟨[], [], .opt (N.law6_begun N.fuel) fun x_ => .ret (.ret [.val .bool x_], [])⟩
theorem i8_ok : InsOk Tryd.prog 8 i8 := ⟨B8, B8_ok, by intro out_ h_; exact ((F8).trans (N.law6_begun_bind N.fuel _)).trans h_⟩
noncomputable def P8 : Nat × D.Spec E := (8, .pure [] (pureF [i8]))
theorem p8 : SpecOk Tryd.prog E P8.1 P8.2 := pureI_ok Tryd.call8 ⟨i8_ok, trivial⟩
noncomputable def S11 : List (Nat × D.Spec E) := [P16]
theorem S11_ok : AllS Tryd.prog E S11 := ⟨p16, trivial⟩
abbrev h11_s0 (l : List UInt8) (home : Int) (at_ : Int) (out : List N.TPut) : Fr E.T := ofSlots E 35 [] [0, 1, 5, 6] [.val (.slice (.int .u8)) l, .val (.int .i64) home, .own 0, .val (.int .i64) at_]
abbrev t11_s0 (l : List UInt8) (home : Int) (at_ : Int) (out : List N.TPut) : St E.T := [.arr .live (.named 0) out]
def x11_s0 (l : List UInt8) (home : Int) (x_ : List N.TPut) : Tree (CodeOut E) := .ret (.exit 0, ofSlots E 35 [] [4, 5] [.undef, .own 0], [.arr .live (.named 0) x_])
noncomputable def g11_s0 : Ins E (CodeOut E) := ⟨[.v (.slice (.int .u8)), .v (.int .i64), .own 0, .v (.int .i64)], [.arr .live (.named 0)], fun l home at_ out => .opt (N.law6_puts_l0 N.fuel l home at_ out) (x11_s0 l home)⟩
noncomputable def L11 : Nat → LoopInfo E := clL E 35 [{ ks := [0, 1, 5, 6], mvs := [], pro := [.pro (.slot 5) [] (.named 0)], d := [], g := some (insF [g11_s0]) }] []
theorem f11_s0 (l : List UInt8) (home : Int) (at_ : Int) (out : List N.TPut) : ((stepOf E S11 L11 0 0 Tryd.f11 (h11_s0 l home at_ out) (t11_s0 l home at_ out)).bind (nx E [0, 1, 5, 6] [] [4, 5] 1)).get = N.law6_puts_s0k N.fuel l home (fun v_ => some (.inl (h11_s0 l home v_.1 v_.2, t11_s0 l home v_.1 v_.2))) (fun x_ => some (.inr (.exit 0, ofSlots E 35 [] [4, 5] [.undef, .own 0], [.arr .live (.named 0) x_]))) at_ out := by kernel_rfl
theorem q11_s0 : InsLp 35 [0, 1, 5, 6] [] [] (stepOf E S11 L11 0 0 Tryd.f11) g11_s0 := by
  intro l home at_ out out_ ho_
  obtain ⟨x_, h1_, h2_⟩ := Option.bind_eq_some_iff.1 ho_
  refine iter_loop (rs := [4, 5]) (step := N.law6_puts_s0 N.fuel l home) (hd := fun v_ => h11_s0 l home v_.1 v_.2) (sv := fun v_ => t11_s0 l home v_.1 v_.2) (ex := x11_s0 l home) (fun v_ => ?_) N.fuel (at_, out) h1_ h2_
  refine (f11_s0 l home v_.1 v_.2).trans ((N.law6_puts_s0_bind N.fuel l home _ _ v_.1 v_.2).trans ?_)
  refine congrArg _ (funext fun s_ => ?_)
  rcases s_ with v_ | a <;> rfl
noncomputable def B11 : List (DVal E.T) → St E.T → Tree (Res E.T × St E.T) := dbody E (lookS S11) (lookD []) L11 0 false Tryd.f11
theorem B11_ok : FnOk Tryd.prog E 11 B11 := bodyC_ok sound mix S11_ok (SD := []) trivial (L := L11) (N := 0) (keep := false) Tryd.func11 rfl (by
  intro k g hg fr st out ho
  match k, hg with
  | 0, hg => cases hg; exact lp_ok (allLp_cons q11_s0 (allLp_nil)) fr st out ho
  | _ + 1, hg => cases hg)
theorem F11 (l : List UInt8) (home : Int) : (B11 [.val (.slice (.int .u8)) l, .val (.int .i64) home] []).get = N.law6_puts_k N.fuel (fun x_ => some (.ret [.val (.slice (.named 0)) x_], [])) l home := by kernel_rfl
noncomputable def i11 : Ins E (Res E.T × St E.T) := ⟨[.v (.slice (.int .u8)), .v (.int .i64)], [], fun l home => .opt (N.law6_puts N.fuel l home) fun x_ => .ret (.ret [.val (.slice (.named 0)) x_], [])⟩
theorem i11_ok : InsOk Tryd.prog 11 i11 := ⟨B11, B11_ok, by intro l home out_ h_; exact ((F11 l home).trans (N.law6_puts_bind N.fuel _ l home)).trans h_⟩
noncomputable def P11 : Nat × D.Spec E := (11, .pure [(.slice (.int .u8)), (.int .i64)] (pureF [i11]))
theorem p11 : SpecOk Tryd.prog E P11.1 P11.2 := pureI_ok Tryd.call11 ⟨i11_ok, trivial⟩
noncomputable def S28 : List (Nat × D.Spec E) := []
theorem S28_ok : AllS Tryd.prog E S28 := trivial
noncomputable def L28 : Nat → LoopInfo E := clL E 51 [] []
noncomputable def B28 : List (DVal E.T) → St E.T → Tree (Res E.T × St E.T) := dbody E (lookS S28) (lookD []) L28 0 false Tryd.f28
theorem B28_ok : FnOk Tryd.prog E 28 B28 := bodyC_ok sound mix S28_ok (SD := []) trivial (L := L28) (N := 0) (keep := false) Tryd.func28 rfl (by
  intro k g hg fr st out ho
  match k, hg with
  | _, hg => cases hg)
theorem F28 (l : List (List UInt8)) (p : N.TPut) (n : Int) : (B28 [.val (.slice .str) l, .val (.named 0) p, .val (.int .i64) n] []).get = N.ref5_lasts_k (fun x_ => some (.ret [.val (.slice .str) x_], [])) l p n := by kernel_rfl
noncomputable def i28 : Ins E (Res E.T × St E.T) := ⟨[.v (.slice .str), .v (.named 0), .v (.int .i64)], [], fun l p n => .opt (N.ref5_lasts l p n) fun x_ => .ret (.ret [.val (.slice .str) x_], [])⟩
theorem i28_ok : InsOk Tryd.prog 28 i28 := ⟨B28, B28_ok, by intro l p n out_ h_; exact ((F28 l p n).trans (N.ref5_lasts_bind _ l p n)).trans h_⟩
noncomputable def P28 : Nat × D.Spec E := (28, .pure [(.slice .str), (.named 0), (.int .i64)] (pureF [i28]))
theorem p28 : SpecOk Tryd.prog E P28.1 P28.2 := pureI_ok Tryd.call28 ⟨i28_ok, trivial⟩
noncomputable def S13 : List (Nat × D.Spec E) := [P28]
theorem S13_ok : AllS Tryd.prog E S13 := ⟨p28, trivial⟩
abbrev h13_s0 (keep : List Int) (k : Int) (d : N.TDisk) (o1 : N.TDisk) : Fr E.T := ofSlots E 37 [] [1, 2, 4, 5] [.val (.slice (.int .i64)) keep, .ptr 0 [], .ptr 1 [], .val (.int .i64) k]
abbrev t13_s0 (keep : List Int) (k : Int) (d : N.TDisk) (o1 : N.TDisk) : St E.T := [.box false (.val (.named 1) d), .box false (.agg 1 [.nils, .nils, .val (.int .i64) o1.Arm, .val .bool o1.Down])]
def x13_s0 (keep : List Int) (x_ : N.TDisk × N.TDisk) : Tree (CodeOut E) := .ret (.exit 0, ofSlots E 37 [] [2, 4] [.ptr 0 [], .ptr 1 []], [.box false (.val (.named 1) x_.1), .box false (.agg 1 [.nils, .nils, .val (.int .i64) x_.2.Arm, .val .bool x_.2.Down])])
noncomputable def g13_s0 : Ins E (CodeOut E) := ⟨[.v (.slice (.int .i64)), .ptr 0 [], .ptr 1 [], .v (.int .i64)], [.box false (.v (.named 1)), .box false (.agg 1 [.nils, .nils, .v (.int .i64), .v .bool])], fun keep k d o1_Arm o1_Down => .opt (N.ref5_Crash_l0 N.fuel keep k d (N.TDisk.mk [] [] o1_Arm o1_Down)) (x13_s0 keep)⟩
noncomputable def L13 : Nat → LoopInfo E := clL E 37 [{ ks := [1, 2, 4, 5], mvs := [], pro := [], d := [], g := some (insF [g13_s0]) }] []
theorem f13_s0 (keep : List Int) (k : Int) (d : N.TDisk) (o1 : N.TDisk) : ((stepOf E S13 L13 0 0 Tryd.f13 (h13_s0 keep k d o1) (t13_s0 keep k d o1)).bind (nx E [1, 2, 4, 5] [] [2, 4] 2)).get = N.ref5_Crash_s0k keep (fun v_ => some (.inl (h13_s0 keep v_.1 v_.2.1 v_.2.2, t13_s0 keep v_.1 v_.2.1 v_.2.2))) (fun x_ => some (.inr (.exit 0, ofSlots E 37 [] [2, 4] [.ptr 0 [], .ptr 1 []], [.box false (.val (.named 1) x_.1), .box false (.agg 1 [.nils, .nils, .val (.int .i64) x_.2.Arm, .val .bool x_.2.Down])]))) k d o1 := by kernel_rfl
theorem q13_s0 : InsLp 37 [1, 2, 4, 5] [] [] (stepOf E S13 L13 0 0 Tryd.f13) g13_s0 := by
  intro keep k d o1_Arm o1_Down out_ ho_
  obtain ⟨x_, h1_, h2_⟩ := Option.bind_eq_some_iff.1 ho_
  refine iter_loop (rs := [2, 4]) (step := N.ref5_Crash_s0 keep) (hd := fun v_ => h13_s0 keep v_.1 v_.2.1 v_.2.2) (sv := fun v_ => t13_s0 keep v_.1 v_.2.1 v_.2.2) (ex := x13_s0 keep) (fun v_ => ?_) N.fuel (k, d, (N.TDisk.mk [] [] o1_Arm o1_Down)) h1_ h2_
  refine (f13_s0 keep v_.1 v_.2.1 v_.2.2).trans ((N.ref5_Crash_s0_bind keep _ _ v_.1 v_.2.1 v_.2.2).trans ?_)
  refine congrArg _ (funext fun s_ => ?_)
  rcases s_ with v_ | a <;> rfl
noncomputable def B13 : List (DVal E.T) → St E.T → Tree (Res E.T × St E.T) := dbody E (lookS S13) (lookD []) L13 0 false Tryd.f13
theorem B13_ok : FnOk Tryd.prog E 13 B13 := bodyC_ok sound mix S13_ok (SD := []) trivial (L := L13) (N := 0) (keep := false) Tryd.func13 rfl (by
  intro k g hg fr st out ho
  match k, hg with
  | 0, hg => cases hg; exact lp_ok (allLp_cons q13_s0 (allLp_nil)) fr st out ho
  | _ + 1, hg => cases hg)
theorem F13 (d : N.TDisk) (keep : List Int) : (B13 [.val (.named 1) d, .val (.slice (.int .i64)) keep] []).get = N.ref5_Crash_k N.fuel (fun x_ => some (.ret [.val (.named 1) x_], [])) d keep := by kernel_rfl
noncomputable def i13 : Ins E (Res E.T × St E.T) := ⟨[.v (.named 1), .v (.slice (.int .i64))], [], fun d keep => .opt (N.ref5_Crash N.fuel d keep) fun x_ => .ret (.ret [.val (.named 1) x_], [])⟩
theorem i13_ok : InsOk Tryd.prog 13 i13 := ⟨B13, B13_ok, by intro d keep out_ h_; exact ((F13 d keep).trans (N.ref5_Crash_bind N.fuel _ d keep)).trans h_⟩
noncomputable def P13 : Nat × D.Spec E := (13, .pure [(.named 1), (.slice (.int .i64))] (pureF [i13]))
theorem p13 : SpecOk Tryd.prog E P13.1 P13.2 := pureI_ok Tryd.call13 ⟨i13_ok, trivial⟩
noncomputable def S15 : List (Nat × D.Spec E) := []
theorem S15_ok : AllS Tryd.prog E S15 := trivial
abbrev h15_s0 (a : List (List UInt8)) (b : List (List UInt8)) (i : Int) : Fr E.T := ofSlots E 26 [] [0, 1, 5] [.val (.slice .str) a, .val (.slice .str) b, .val (.int .i64) i]
abbrev t15_s0 (a : List (List UInt8)) (b : List (List UInt8)) (i : Int) : St E.T := []
def x15_s0 (a : List (List UInt8)) (b : List (List UInt8)) (x_ : Unit ⊕ Unit) : Tree (CodeOut E) := altT x_ (fun u0_ => .ret (.ret, ofSlots E 26 [] [4] [.val .bool false], [])) (fun w0_ => .ret (.exit 0, ofSlots E 26 [] [4] [.undef], []))
noncomputable def g15_s0 : Ins E (CodeOut E) := ⟨[.v (.slice .str), .v (.slice .str), .v (.int .i64)], [], fun a b i => .opt (N.ref5_SameTexts_l0 N.fuel a b i) (x15_s0 a b)⟩
noncomputable def L15 : Nat → LoopInfo E := clL E 26 [{ ks := [0, 1, 5], mvs := [], pro := [], d := [], g := some (insF [g15_s0]) }] []
theorem f15_s0 (a : List (List UInt8)) (b : List (List UInt8)) (i : Int) : ((stepOf E S15 L15 0 0 Tryd.f15 (h15_s0 a b i) (t15_s0 a b i)).bind (nx E [0, 1, 5] [] [4] 0)).get = N.ref5_SameTexts_s0k a b (fun v_ => some (.inl (h15_s0 a b v_, t15_s0 a b v_))) (fun x_ => some (.inr (.ret, ofSlots E 26 [] [4] [.val .bool false], []))) (fun x_ => some (.inr (.exit 0, ofSlots E 26 [] [4] [.undef], []))) i := by kernel_rfl
theorem q15_s0 : InsLp 26 [0, 1, 5] [] [] (stepOf E S15 L15 0 0 Tryd.f15) g15_s0 := by
  intro a b i out_ ho_
  obtain ⟨x_, h1_, h2_⟩ := Option.bind_eq_some_iff.1 ho_
  refine iter_loop (rs := [4]) (step := N.ref5_SameTexts_s0 a b) (hd := fun v_ => h15_s0 a b v_) (sv := fun v_ => t15_s0 a b v_) (ex := x15_s0 a b) (fun v_ => ?_) N.fuel i h1_ h2_
  refine (f15_s0 a b v_).trans ((N.ref5_SameTexts_s0_bind a b _ _ _ v_).trans ?_)
  refine congrArg _ (funext fun s_ => ?_)
  rcases s_ with v_ | a | a <;> rfl
noncomputable def B15 : List (DVal E.T) → St E.T → Tree (Res E.T × St E.T) := dbody E (lookS S15) (lookD []) L15 0 false Tryd.f15
theorem B15_ok : FnOk Tryd.prog E 15 B15 := bodyC_ok sound mix S15_ok (SD := []) trivial (L := L15) (N := 0) (keep := false) Tryd.func15 rfl (by
  intro k g hg fr st out ho
  match k, hg with
  | 0, hg => cases hg; exact lp_ok (allLp_cons q15_s0 (allLp_nil)) fr st out ho
  | _ + 1, hg => cases hg)
theorem F15 (a : List (List UInt8)) (b : List (List UInt8)) : (B15 [.val (.slice .str) a, .val (.slice .str) b] []).get = N.ref5_SameTexts_k N.fuel (fun x_ => some (.ret [.val .bool x_], [])) a b := by kernel_rfl
noncomputable def i15 : Ins E (Res E.T × St E.T) := ⟨[.v (.slice .str), .v (.slice .str)], [], fun a b => .opt (N.ref5_SameTexts N.fuel a b) fun x_ => .ret (.ret [.val .bool x_], [])⟩
theorem i15_ok : InsOk Tryd.prog 15 i15 := ⟨B15, B15_ok, by intro a b out_ h_; exact ((F15 a b).trans (N.ref5_SameTexts_bind N.fuel _ a b)).trans h_⟩
noncomputable def P15 : Nat × D.Spec E := (15, .pure [(.slice .str), (.slice .str)] (pureF [i15]))
theorem p15 : SpecOk Tryd.prog E P15.1 P15.2 := pureI_ok Tryd.call15 ⟨i15_ok, trivial⟩
end Go.Proofs.YtddhfdbfackahaaDoor.J

/- The seat's functions, and the nice ones (2). Loops and whole numbers of the nice functions. Plain words for this seat (1). Plain words for this seat (2). Plain words for this seat (3). Plain words for this seat (4). Plain words for this seat (5). Plain words for this seat (6). Plain words for this seat (7). Plain words for this seat (8). Plain words for this seat (9). Plain words for this seat (11). Plain words for this seat (12). Plain words for this seat (13). Plain words for this seat (14). Plain words for this seat (15). Plain words for this seat (16). Plain words for this seat (17). Plain words for this seat (18). Plain words for this seat (19). Plain words for this seat (21). Plain words for this seat (22). Plain words for this seat (23). Plain words for this seat (24). -/
import Derived.Test.YtddhfdbfackahaaDoorSeat3
import Derived.Test.YtddhfdbfackahaaDoorBase5
import Derived.Laws.BitsLemmas
import Derived.Test.YtddhfdbfackahaaDoorSeat2
set_option linter.unusedVariables false
set_option maxRecDepth 100000
namespace Go.Proofs.YtddhfdbfackahaaDoor.J
open Go Go.Proofs.YtddhfdbfackahaaDoor.D
noncomputable def S3 : List (Nat × D.Spec E) := [P10, P11, P12, P13, P14, P15, P8, P9]
theorem S3_ok : AllS Tryd.prog E S3 := ⟨p10, p11, p12, p13, p14, p15, p8, p9, trivial⟩
abbrev h3_s0 (arm : UInt8) (again : UInt8) (keep : List Int) (more : List Int) (o0 : List UInt8) (now : List UInt8) (d : N.TDisk) (i : Int) (old : List (List UInt8)) : Fr E.T := ofSlots E 146 [] [2, 3, 4, 5, 7, 13, 15, 16, 17] [.val (.int .u8) arm, .val (.int .u8) again, .val (.slice (.int .i64)) keep, .val (.slice (.int .i64)) more, .ptr 1 [], .ptr 2 [], .own 3, .nils, .val (.int .i64) i]
abbrev t3_s0 (arm : UInt8) (again : UInt8) (keep : List Int) (more : List Int) (o0 : List UInt8) (now : List UInt8) (d : N.TDisk) (i : Int) (old : List (List UInt8)) : St E.T := [.box true (.val (.arr 8 (.int .u8)) o0), .box false (.val (.arr 8 (.int .u8)) now), .box false (.val (.named 1) d), .arr .live .str old]
def x3_s0 (arm : UInt8) (again : UInt8) (keep : List Int) (more : List Int) (o0 : List UInt8) (now : List UInt8) (d : N.TDisk) (x_ : List (List UInt8)) : Tree (CodeOut E) := .ret (.exit 0, ofSlots E 146 [] [2, 3, 4, 5, 7, 12, 13, 15, 16] [.val (.int .u8) arm, .val (.int .u8) again, .val (.slice (.int .i64)) keep, .val (.slice (.int .i64)) more, .ptr 1 [], .undef, .ptr 2 [], .own 3, .nils], [.box true (.val (.arr 8 (.int .u8)) o0), .box false (.val (.arr 8 (.int .u8)) now), .box false (.val (.named 1) d), .arr .live .str x_])
noncomputable def g3_s0 : Ins E (CodeOut E) := ⟨[.v (.int .u8), .v (.int .u8), .v (.slice (.int .i64)), .v (.slice (.int .i64)), .ptr 1 [], .ptr 2 [], .own 3, .nils, .v (.int .i64)], [.box true (.v (.arr 8 (.int .u8))), .box false (.v (.arr 8 (.int .u8))), .box false (.v (.named 1)), .arr .live .str], fun arm again keep more i o0 now d old => .opt (N.law6_JrnlWhole_l0 N.fuel arm again keep more o0 now d i old) (x3_s0 arm again keep more o0 now d)⟩
abbrev h3_s1 (arm : UInt8) (again : UInt8) (keep : List Int) (more : List Int) (p : List N.TPut) (o0 : List UInt8) (o1 : List UInt8) (d : N.TDisk) (old : List (List UInt8)) (i : Int) (whole : List (List UInt8)) : Fr E.T := ofSlots E 146 [] [2, 3, 4, 5, 13, 15, 16, 20, 21] [.val (.int .u8) arm, .val (.int .u8) again, .val (.slice (.int .i64)) keep, .val (.slice (.int .i64)) more, .ptr 2 [], .own 3, .own 4, .val (.slice (.named 0)) p, .val (.int .i64) i]
abbrev t3_s1 (arm : UInt8) (again : UInt8) (keep : List Int) (more : List Int) (p : List N.TPut) (o0 : List UInt8) (o1 : List UInt8) (d : N.TDisk) (old : List (List UInt8)) (i : Int) (whole : List (List UInt8)) : St E.T := [.box true (.val (.arr 8 (.int .u8)) o0), .box true (.val (.arr 8 (.int .u8)) o1), .box false (.val (.named 1) d), .arr .live .str old, .arr .live .str whole]
def x3_s1 (arm : UInt8) (again : UInt8) (keep : List Int) (more : List Int) (p : List N.TPut) (o0 : List UInt8) (o1 : List UInt8) (d : N.TDisk) (old : List (List UInt8)) (x_ : List (List UInt8)) : Tree (CodeOut E) := .ret (.exit 2, ofSlots E 146 [] [2, 3, 4, 5, 12, 13, 15, 16, 20] [.val (.int .u8) arm, .val (.int .u8) again, .val (.slice (.int .i64)) keep, .val (.slice (.int .i64)) more, .undef, .ptr 2 [], .own 3, .own 4, .val (.slice (.named 0)) p], [.box true (.val (.arr 8 (.int .u8)) o0), .box true (.val (.arr 8 (.int .u8)) o1), .box false (.val (.named 1) d), .arr .live .str old, .arr .live .str x_])
noncomputable def g3_s1 : Ins E (CodeOut E) := ⟨[.v (.int .u8), .v (.int .u8), .v (.slice (.int .i64)), .v (.slice (.int .i64)), .ptr 2 [], .own 3, .own 4, .v (.slice (.named 0)), .v (.int .i64)], [.box true (.v (.arr 8 (.int .u8))), .box true (.v (.arr 8 (.int .u8))), .box false (.v (.named 1)), .arr .live .str, .arr .live .str], fun arm again keep more p i o0 o1 d old whole => .opt (N.law6_JrnlWhole_l1 N.fuel arm again keep more p o0 o1 d old i whole) (x3_s1 arm again keep more p o0 o1 d old)⟩
abbrev h3_s2 (done : Bool) (o0 : List UInt8) (o1 : List UInt8) (o2 : N.TDisk) (o5 : N.TDisk) (o6 : N.TDisk) (z : N.TDisk) (old : List (List UInt8)) (whole : List (List UInt8)) (i : Int) (got : List (List UInt8)) : Fr E.T := ofSlots E 146 [] [15, 16, 23, 26, 28, 29] [.own 3, .own 4, .val .bool done, .ptr 7 [], .own 8, .val (.int .i64) i]
abbrev t3_s2 (done : Bool) (o0 : List UInt8) (o1 : List UInt8) (o2 : N.TDisk) (o5 : N.TDisk) (o6 : N.TDisk) (z : N.TDisk) (old : List (List UInt8)) (whole : List (List UInt8)) (i : Int) (got : List (List UInt8)) : St E.T := [.box true (.val (.arr 8 (.int .u8)) o0), .box true (.val (.arr 8 (.int .u8)) o1), .box false (.val (.named 1) o2), .arr .live .str old, .arr .live .str whole, .box false (.val (.named 1) o5), .box false (.val (.named 1) o6), .box false (.val (.named 1) z), .arr .live .str got]
def x3_s2 (done : Bool) (o0 : List UInt8) (o1 : List UInt8) (o2 : N.TDisk) (o5 : N.TDisk) (o6 : N.TDisk) (z : N.TDisk) (old : List (List UInt8)) (whole : List (List UInt8)) (x_ : (List (List UInt8)) ⊕ (List (List UInt8))) : Tree (CodeOut E) := altT x_ (fun u0_ => .ret (.ret, ofSlots E 146 [] [12, 15, 16, 23, 28] [.val .bool false, .own 3, .own 4, .val .bool done, .own 8], [.box true (.val (.arr 8 (.int .u8)) o0), .box true (.val (.arr 8 (.int .u8)) o1), .box false (.val (.named 1) o2), .arr .live .str old, .arr .live .str whole, .box false (.val (.named 1) o5), .box false (.val (.named 1) o6), .box false (.val (.named 1) z), .arr .live .str u0_])) (fun w0_ => .ret (.exit 4, ofSlots E 146 [] [12, 15, 16, 23, 28] [.undef, .own 3, .own 4, .val .bool done, .own 8], [.box true (.val (.arr 8 (.int .u8)) o0), .box true (.val (.arr 8 (.int .u8)) o1), .box false (.val (.named 1) o2), .arr .live .str old, .arr .live .str whole, .box false (.val (.named 1) o5), .box false (.val (.named 1) o6), .box false (.val (.named 1) z), .arr .live .str w0_]))
noncomputable def g3_s2 : Ins E (CodeOut E) := ⟨[.own 3, .own 4, .v .bool, .ptr 7 [], .own 8, .v (.int .i64)], [.box true (.v (.arr 8 (.int .u8))), .box true (.v (.arr 8 (.int .u8))), .box false (.v (.named 1)), .arr .live .str, .arr .live .str, .box false (.v (.named 1)), .box false (.v (.named 1)), .box false (.v (.named 1)), .arr .live .str], fun done i o0 o1 o2 old whole o5 o6 z got => .opt (N.law6_JrnlWhole_l2 N.fuel done o0 o1 o2 o5 o6 z old whole i got) (x3_s2 done o0 o1 o2 o5 o6 z old whole)⟩
noncomputable def L3 : Nat → LoopInfo E := clL E 146 [{ ks := [2, 3, 4, 5, 7, 13, 15, 16, 17], mvs := [], pro := [.pro (.slot 15) [] .str], d := [], g := some (insF [g3_s0]) }, { ks := [2, 3, 4, 5, 13, 15, 16, 20, 21], mvs := [], pro := [], d := [], g := some (insF [g3_s1]) }, { ks := [15, 16, 23, 26, 28, 29], mvs := [], pro := [.pro (.slot 28) [] .str], d := [], g := some (insF [g3_s2]) }] [(5, [.rd 6])]
theorem f3_s0 (arm : UInt8) (again : UInt8) (keep : List Int) (more : List Int) (o0 : List UInt8) (now : List UInt8) (d : N.TDisk) (i : Int) (old : List (List UInt8)) : ((stepOf E S3 L3 0 0 Tryd.f3 (h3_s0 arm again keep more o0 now d i old) (t3_s0 arm again keep more o0 now d i old)).bind (nx E [2, 3, 4, 5, 7, 13, 15, 16, 17] [] [2, 3, 4, 5, 7, 12, 13, 15, 16] 4)).get = N.law6_JrnlWhole_s0k N.fuel arm again keep more o0 now d (fun v_ => some (.inl (h3_s0 arm again keep more o0 now d v_.1 v_.2, t3_s0 arm again keep more o0 now d v_.1 v_.2))) (fun x_ => some (.inr (.exit 0, ofSlots E 146 [] [2, 3, 4, 5, 7, 12, 13, 15, 16] [.val (.int .u8) arm, .val (.int .u8) again, .val (.slice (.int .i64)) keep, .val (.slice (.int .i64)) more, .ptr 1 [], .undef, .ptr 2 [], .own 3, .nils], [.box true (.val (.arr 8 (.int .u8)) o0), .box false (.val (.arr 8 (.int .u8)) now), .box false (.val (.named 1) d), .arr .live .str x_]))) i old := by kernel_rfl
theorem q3_s0 : InsLp 146 [2, 3, 4, 5, 7, 13, 15, 16, 17] [] [] (stepOf E S3 L3 0 0 Tryd.f3) g3_s0 := by
  intro arm again keep more i o0 now d old out_ ho_
  obtain ⟨x_, h1_, h2_⟩ := Option.bind_eq_some_iff.1 ho_
  refine iter_loop (rs := [2, 3, 4, 5, 7, 12, 13, 15, 16]) (step := N.law6_JrnlWhole_s0 N.fuel arm again keep more o0 now d) (hd := fun v_ => h3_s0 arm again keep more o0 now d v_.1 v_.2) (sv := fun v_ => t3_s0 arm again keep more o0 now d v_.1 v_.2) (ex := x3_s0 arm again keep more o0 now d) (fun v_ => ?_) N.fuel (i, old) h1_ h2_
  refine (f3_s0 arm again keep more o0 now d v_.1 v_.2).trans ((N.law6_JrnlWhole_s0_bind N.fuel arm again keep more o0 now d _ _ v_.1 v_.2).trans ?_)
  refine congrArg _ (funext fun s_ => ?_)
  rcases s_ with v_ | a <;> rfl
theorem f3_s1 (arm : UInt8) (again : UInt8) (keep : List Int) (more : List Int) (p : List N.TPut) (o0 : List UInt8) (o1 : List UInt8) (d : N.TDisk) (old : List (List UInt8)) (i : Int) (whole : List (List UInt8)) : ((stepOf E S3 L3 0 1 Tryd.f3 (h3_s1 arm again keep more p o0 o1 d old i whole) (t3_s1 arm again keep more p o0 o1 d old i whole)).bind (nx E [2, 3, 4, 5, 13, 15, 16, 20, 21] [] [2, 3, 4, 5, 12, 13, 15, 16, 20] 5)).get = N.law6_JrnlWhole_s1k arm again keep more p o0 o1 d old (fun v_ => some (.inl (h3_s1 arm again keep more p o0 o1 d old v_.1 v_.2, t3_s1 arm again keep more p o0 o1 d old v_.1 v_.2))) (fun x_ => some (.inr (.exit 2, ofSlots E 146 [] [2, 3, 4, 5, 12, 13, 15, 16, 20] [.val (.int .u8) arm, .val (.int .u8) again, .val (.slice (.int .i64)) keep, .val (.slice (.int .i64)) more, .undef, .ptr 2 [], .own 3, .own 4, .val (.slice (.named 0)) p], [.box true (.val (.arr 8 (.int .u8)) o0), .box true (.val (.arr 8 (.int .u8)) o1), .box false (.val (.named 1) d), .arr .live .str old, .arr .live .str x_]))) i whole := by kernel_rfl
theorem q3_s1 : InsLp 146 [2, 3, 4, 5, 13, 15, 16, 20, 21] [] [] (stepOf E S3 L3 0 1 Tryd.f3) g3_s1 := by
  intro arm again keep more p i o0 o1 d old whole out_ ho_
  obtain ⟨x_, h1_, h2_⟩ := Option.bind_eq_some_iff.1 ho_
  refine iter_loop (rs := [2, 3, 4, 5, 12, 13, 15, 16, 20]) (step := N.law6_JrnlWhole_s1 arm again keep more p o0 o1 d old) (hd := fun v_ => h3_s1 arm again keep more p o0 o1 d old v_.1 v_.2) (sv := fun v_ => t3_s1 arm again keep more p o0 o1 d old v_.1 v_.2) (ex := x3_s1 arm again keep more p o0 o1 d old) (fun v_ => ?_) N.fuel (i, whole) h1_ h2_
  refine (f3_s1 arm again keep more p o0 o1 d old v_.1 v_.2).trans ((N.law6_JrnlWhole_s1_bind arm again keep more p o0 o1 d old _ _ v_.1 v_.2).trans ?_)
  refine congrArg _ (funext fun s_ => ?_)
  rcases s_ with v_ | a <;> rfl
theorem f3_s2 (done : Bool) (o0 : List UInt8) (o1 : List UInt8) (o2 : N.TDisk) (o5 : N.TDisk) (o6 : N.TDisk) (z : N.TDisk) (old : List (List UInt8)) (whole : List (List UInt8)) (i : Int) (got : List (List UInt8)) : ((stepOf E S3 L3 0 2 Tryd.f3 (h3_s2 done o0 o1 o2 o5 o6 z old whole i got) (t3_s2 done o0 o1 o2 o5 o6 z old whole i got)).bind (nx E [15, 16, 23, 26, 28, 29] [] [12, 15, 16, 23, 28] 9)).get = N.law6_JrnlWhole_s2k N.fuel done o0 o1 o2 o5 o6 z old whole (fun v_ => some (.inl (h3_s2 done o0 o1 o2 o5 o6 z old whole v_.1 v_.2, t3_s2 done o0 o1 o2 o5 o6 z old whole v_.1 v_.2))) (fun x_ => some (.inr (.ret, ofSlots E 146 [] [12, 15, 16, 23, 28] [.val .bool false, .own 3, .own 4, .val .bool done, .own 8], [.box true (.val (.arr 8 (.int .u8)) o0), .box true (.val (.arr 8 (.int .u8)) o1), .box false (.val (.named 1) o2), .arr .live .str old, .arr .live .str whole, .box false (.val (.named 1) o5), .box false (.val (.named 1) o6), .box false (.val (.named 1) z), .arr .live .str x_]))) (fun x_ => some (.inr (.exit 4, ofSlots E 146 [] [12, 15, 16, 23, 28] [.undef, .own 3, .own 4, .val .bool done, .own 8], [.box true (.val (.arr 8 (.int .u8)) o0), .box true (.val (.arr 8 (.int .u8)) o1), .box false (.val (.named 1) o2), .arr .live .str old, .arr .live .str whole, .box false (.val (.named 1) o5), .box false (.val (.named 1) o6), .box false (.val (.named 1) z), .arr .live .str x_]))) i got := by kernel_rfl
theorem q3_s2 : InsLp 146 [15, 16, 23, 26, 28, 29] [] [] (stepOf E S3 L3 0 2 Tryd.f3) g3_s2 := by
  intro done i o0 o1 o2 old whole o5 o6 z got out_ ho_
  obtain ⟨x_, h1_, h2_⟩ := Option.bind_eq_some_iff.1 ho_
  refine iter_loop (rs := [12, 15, 16, 23, 28]) (step := N.law6_JrnlWhole_s2 N.fuel done o0 o1 o2 o5 o6 z old whole) (hd := fun v_ => h3_s2 done o0 o1 o2 o5 o6 z old whole v_.1 v_.2) (sv := fun v_ => t3_s2 done o0 o1 o2 o5 o6 z old whole v_.1 v_.2) (ex := x3_s2 done o0 o1 o2 o5 o6 z old whole) (fun v_ => ?_) N.fuel (i, got) h1_ h2_
  refine (f3_s2 done o0 o1 o2 o5 o6 z old whole v_.1 v_.2).trans ((N.law6_JrnlWhole_s2_bind N.fuel done o0 o1 o2 o5 o6 z old whole _ _ _ v_.1 v_.2).trans ?_)
  refine congrArg _ (funext fun s_ => ?_)
  rcases s_ with v_ | a | a <;> rfl
noncomputable def B3 : List (DVal E.T) → St E.T → Tree (Res E.T × St E.T) := dbody E (lookS S3) (lookD []) L3 0 false Tryd.f3
theorem B3_ok : FnOk Tryd.prog E 3 B3 := bodyC_ok sound mix S3_ok (SD := []) trivial (L := L3) (N := 0) (keep := false) Tryd.func3 rfl (by
  intro k g hg fr st out ho
  match k, hg with
  | 0, hg => cases hg; exact lp_ok (allLp_cons q3_s0 (allLp_nil)) fr st out ho
  | 1, hg => cases hg; exact lp_ok (allLp_cons q3_s1 (allLp_nil)) fr st out ho
  | 2, hg => cases hg; exact lp_ok (allLp_cons q3_s2 (allLp_nil)) fr st out ho
  | _ + 3, hg => cases hg)
theorem F3 (was : List UInt8) (now : List UInt8) (arm : UInt8) (again : UInt8) (keep : List Int) (more : List Int) : (B3 [.val (.arr 8 (.int .u8)) was, .val (.arr 8 (.int .u8)) now, .val (.int .u8) arm, .val (.int .u8) again, .val (.slice (.int .i64)) keep, .val (.slice (.int .i64)) more] []).get = N.law6_JrnlWhole_k N.fuel (fun x_ => some (.ret [.val .bool x_], [])) was now arm again keep more := by kernel_rfl
noncomputable def i3 : Ins E (Res E.T × St E.T) := ⟨[.v (.arr 8 (.int .u8)), .v (.arr 8 (.int .u8)), .v (.int .u8), .v (.int .u8), .v (.slice (.int .i64)), .v (.slice (.int .i64))], [], fun was now arm again keep more => .opt (N.law6_JrnlWhole N.fuel was now arm again keep more) fun x_ => .ret (.ret [.val .bool x_], [])⟩
theorem i3_ok : InsOk Tryd.prog 3 i3 := ⟨B3, B3_ok, by intro was now arm again keep more out_ h_; exact ((F3 was now arm again keep more).trans (N.law6_JrnlWhole_bind N.fuel _ was now arm again keep more)).trans h_⟩
noncomputable def P3 : Nat × D.Spec E := (3, .pure [(.arr 8 (.int .u8)), (.arr 8 (.int .u8)), (.int .u8), (.int .u8), (.slice (.int .i64)), (.slice (.int .i64))] (pureF [i3]))
theorem p3 : SpecOk Tryd.prog E P3.1 P3.2 := pureI_ok Tryd.call3 ⟨i3_ok, trivial⟩
noncomputable def S4 : List (Nat × D.Spec E) := [P10, P11, P12, P13, P14, P8, P9]
theorem S4_ok : AllS Tryd.prog E S4 := ⟨p10, p11, p12, p13, p14, p8, p9, trivial⟩
noncomputable def L4 : Nat → LoopInfo E := clL E 87 [] []
noncomputable def B4 : List (DVal E.T) → St E.T → Tree (Res E.T × St E.T) := dbody E (lookS S4) (lookD []) L4 0 false Tryd.f4
theorem B4_ok : FnOk Tryd.prog E 4 B4 := bodyC_ok sound mix S4_ok (SD := []) trivial (L := L4) (N := 0) (keep := false) Tryd.func4 rfl (by
  intro k g hg fr st out ho
  match k, hg with
  | _, hg => cases hg)
theorem F4 (l : List UInt8) (n : UInt8) : (B4 [.val (.arr 8 (.int .u8)) l, .val (.int .u8) n] []).get = N.law6_JrnlHead_k N.fuel (fun x_ => some (.ret [.val .bool x_], [])) l n := by kernel_rfl
noncomputable def i4 : Ins E (Res E.T × St E.T) := ⟨[.v (.arr 8 (.int .u8)), .v (.int .u8)], [], fun l n => .opt (N.law6_JrnlHead N.fuel l n) fun x_ => .ret (.ret [.val .bool x_], [])⟩
theorem i4_ok : InsOk Tryd.prog 4 i4 := ⟨B4, B4_ok, by intro l n out_ h_; exact ((F4 l n).trans (N.law6_JrnlHead_bind N.fuel _ l n)).trans h_⟩
noncomputable def P4 : Nat × D.Spec E := (4, .pure [(.arr 8 (.int .u8)), (.int .u8)] (pureF [i4]))
theorem p4 : SpecOk Tryd.prog E P4.1 P4.2 := pureI_ok Tryd.call4 ⟨i4_ok, trivial⟩
def x5_s0 (a : List UInt8) (bad : List (List N.TPut)) (d : N.TDisk) (x_ : N.TDisk ⊕ Unit) : Tree (CodeOut E) := altT x_ (fun u0_ => .ret (.ret, ofSlots E 161 [] [0, 1, 2] [.val .bool false, .val .str a, .ptr 0 []], [.box false (.val (.named 1) d), .box false (.val (.named 1) u0_)])) (fun w0_ => .ret (.exit 0, ofSlots E 161 [] [0, 1, 2] [.undef, .val .str a, .ptr 0 []], [.box false (.val (.named 1) d)]))
noncomputable def g5_s0 : Ins E (CodeOut E) := ⟨[.v .str, .ptr 0 [], .v (.slice (.slice (.named 0))), .v (.int .i64)], [.box false (.v (.named 1))], fun a bad i d => .opt (N.law6_JrnlForms_l0 N.fuel a bad d i) (x5_s0 a bad d)⟩
noncomputable def L5 : Nat → LoopInfo E := clL E 161 [{ ks := [1, 2, 3, 4], mvs := [], pro := [], d := [], g := some (insF [g5_s0]) }] []
noncomputable def S7 : List (Nat × D.Spec E) := [P10, P11, P12, P14, P8, P9]
theorem S7_ok : AllS Tryd.prog E S7 := ⟨p10, p11, p12, p14, p8, p9, trivial⟩
abbrev h7_s0 (l : List (List UInt8)) (d : N.TDisk) (i : Int) (want : List (List UInt8)) : Fr E.T := ofSlots E 108 [] [1, 3, 4, 5] [.ptr 0 [], .ptr 1 [], .ptr 2 [], .val (.int .i64) i]
abbrev t7_s0 (l : List (List UInt8)) (d : N.TDisk) (i : Int) (want : List (List UInt8)) : St E.T := [.box false (.val (.arr 5 (.arr 8 (.int .u8))) l), .box false (.val (.named 1) d), .box false (.val (.arr 8 .str) want)]
def x7_s0 (l : List (List UInt8)) (d : N.TDisk) (x_ : List (List UInt8)) : Tree (CodeOut E) := .ret (.exit 0, ofSlots E 108 [] [1, 2, 3, 4] [.ptr 0 [], .undef, .ptr 1 [], .ptr 2 []], [.box false (.val (.arr 5 (.arr 8 (.int .u8))) l), .box false (.val (.named 1) d), .box false (.val (.arr 8 .str) x_)])
noncomputable def g7_s0 : Ins E (CodeOut E) := ⟨[.ptr 0 [], .ptr 1 [], .ptr 2 [], .v (.int .i64)], [.box false (.v (.arr 5 (.arr 8 (.int .u8)))), .box false (.v (.named 1)), .box false (.v (.arr 8 .str))], fun i l d want => .opt (N.law6_JrnlMany_l0 N.fuel l d i want) (x7_s0 l d)⟩
abbrev h7_s1 (l : List (List UInt8)) (i : Int) (p : List N.TPut) (o0 : List (List UInt8)) (d : N.TDisk) (x : N.TDisk) (k : Int) (want : List (List UInt8)) : Fr E.T := ofSlots E 108 [] [1, 3, 4, 6, 7, 8, 10] [.rptr (.arr 5 (.arr 8 (.int .u8))) l, .ptr 1 [], .ptr 2 [], .val (.int .i64) i, .val (.slice (.named 0)) p, .ptr 3 [], .val (.int .i64) k]
abbrev t7_s1 (l : List (List UInt8)) (i : Int) (p : List N.TPut) (o0 : List (List UInt8)) (d : N.TDisk) (x : N.TDisk) (k : Int) (want : List (List UInt8)) : St E.T := [.box true (.val (.arr 5 (.arr 8 (.int .u8))) o0), .box false (.val (.named 1) d), .box false (.val (.arr 8 .str) want), .box false (.val (.named 1) x)]
def x7_s1 (l : List (List UInt8)) (i : Int) (p : List N.TPut) (o0 : List (List UInt8)) (d : N.TDisk) (x : N.TDisk) (x_ : List (List UInt8)) : Tree (CodeOut E) := .ret (.exit 4, ofSlots E 108 [] [1, 2, 3, 4, 6, 8] [.rptr (.arr 5 (.arr 8 (.int .u8))) l, .undef, .ptr 1 [], .ptr 2 [], .val (.int .i64) i, .ptr 3 []], [.box true (.val (.arr 5 (.arr 8 (.int .u8))) o0), .box false (.val (.named 1) d), .box false (.val (.arr 8 .str) x_), .box false (.val (.named 1) x)])
noncomputable def g7_s1 : Ins E (CodeOut E) := ⟨[.rptr (.arr 5 (.arr 8 (.int .u8))), .ptr 1 [], .ptr 2 [], .v (.int .i64), .v (.slice (.named 0)), .ptr 3 [], .v (.int .i64)], [.box true (.v (.arr 5 (.arr 8 (.int .u8)))), .box false (.v (.named 1)), .box false (.v (.arr 8 .str)), .box false (.v (.named 1))], fun l i p k o0 d want x => .opt (N.law6_JrnlMany_l1 N.fuel l i p o0 d x k want) (x7_s1 l i p o0 d x)⟩
abbrev h7_s2 (l : List (List UInt8)) (i : Int) (o0 : List (List UInt8)) (d : N.TDisk) (want : List (List UInt8)) (x : N.TDisk) (y : N.TDisk) (k : Int) : Fr E.T := ofSlots E 108 [] [1, 3, 4, 6, 8, 11, 13] [.rptr (.arr 5 (.arr 8 (.int .u8))) l, .ptr 1 [], .ptr 2 [], .val (.int .i64) i, .ptr 3 [], .ptr 4 [], .val (.int .i64) k]
abbrev t7_s2 (l : List (List UInt8)) (i : Int) (o0 : List (List UInt8)) (d : N.TDisk) (want : List (List UInt8)) (x : N.TDisk) (y : N.TDisk) (k : Int) : St E.T := [.box true (.val (.arr 5 (.arr 8 (.int .u8))) o0), .box false (.val (.named 1) d), .box false (.val (.arr 8 .str) want), .box false (.val (.named 1) x), .box false (.val (.named 1) y)]
def x7_s2 (l : List (List UInt8)) (i : Int) (o0 : List (List UInt8)) (d : N.TDisk) (want : List (List UInt8)) (x : N.TDisk) (y : N.TDisk) (x_ : Unit ⊕ Unit) : Tree (CodeOut E) := altT x_ (fun u0_ => .ret (.ret, ofSlots E 108 [] [1, 2, 3, 4, 6, 8] [.rptr (.arr 5 (.arr 8 (.int .u8))) l, .val .bool false, .ptr 1 [], .ptr 2 [], .val (.int .i64) i, .ptr 3 []], [.box true (.val (.arr 5 (.arr 8 (.int .u8))) o0), .box false (.val (.named 1) d), .box false (.val (.arr 8 .str) want), .box false (.val (.named 1) x), .box false (.val (.named 1) y)])) (fun w0_ => .ret (.exit 6, ofSlots E 108 [] [1, 2, 3, 4, 6, 8] [.rptr (.arr 5 (.arr 8 (.int .u8))) l, .undef, .ptr 1 [], .ptr 2 [], .val (.int .i64) i, .ptr 3 []], [.box true (.val (.arr 5 (.arr 8 (.int .u8))) o0), .box false (.val (.named 1) d), .box false (.val (.arr 8 .str) want), .box false (.val (.named 1) x), .box false (.val (.named 1) y)]))
noncomputable def g7_s2 : Ins E (CodeOut E) := ⟨[.rptr (.arr 5 (.arr 8 (.int .u8))), .ptr 1 [], .ptr 2 [], .v (.int .i64), .ptr 3 [], .ptr 4 [], .v (.int .i64)], [.box true (.v (.arr 5 (.arr 8 (.int .u8)))), .box false (.v (.named 1)), .box false (.v (.arr 8 .str)), .box false (.v (.named 1)), .box false (.v (.named 1))], fun l i k o0 d want x y => .opt (N.law6_JrnlMany_l2 N.fuel l i o0 d want x y k) (x7_s2 l i o0 d want x y)⟩
abbrev h7_s3 (l : List (List UInt8)) (o0 : List (List UInt8)) (i : Int) (d : N.TDisk) (want : List (List UInt8)) : Fr E.T := ofSlots E 108 [] [1, 3, 4, 6] [.rptr (.arr 5 (.arr 8 (.int .u8))) l, .ptr 1 [], .ptr 2 [], .val (.int .i64) i]
abbrev t7_s3 (l : List (List UInt8)) (o0 : List (List UInt8)) (i : Int) (d : N.TDisk) (want : List (List UInt8)) : St E.T := [.box true (.val (.arr 5 (.arr 8 (.int .u8))) o0), .box false (.val (.named 1) d), .box false (.val (.arr 8 .str) want)]
def x7_s3 (l : List (List UInt8)) (o0 : List (List UInt8)) (x_ : (N.TDisk × List (List UInt8) × N.TDisk) ⊕ ((N.TDisk × List (List UInt8) × N.TDisk × N.TDisk) ⊕ (N.TDisk × List (List UInt8)))) : Tree (CodeOut E) := altT x_ (fun u0_ => .ret (.ret, ofSlots E 108 [] [2, 3] [.val .bool false, .ptr 1 []], [.box true (.val (.arr 5 (.arr 8 (.int .u8))) o0), .box false (.val (.named 1) u0_.1), .box false (.val (.arr 8 .str) u0_.2.1), .box false (.val (.named 1) u0_.2.2)])) (fun w0_ => altT w0_ (fun u1_ => .ret (.ret, ofSlots E 108 [] [2, 3] [.val .bool false, .ptr 1 []], [.box true (.val (.arr 5 (.arr 8 (.int .u8))) o0), .box false (.val (.named 1) u1_.1), .box false (.val (.arr 8 .str) u1_.2.1), .box false (.val (.named 1) u1_.2.2.1), .box false (.val (.named 1) u1_.2.2.2)])) (fun w1_ => .ret (.exit 2, ofSlots E 108 [] [2, 3] [.undef, .ptr 1 []], [.box true (.val (.arr 5 (.arr 8 (.int .u8))) o0), .box false (.val (.named 1) w1_.1), .box false (.val (.arr 8 .str) w1_.2)])))
noncomputable def g7_s3 : Ins E (CodeOut E) := ⟨[.rptr (.arr 5 (.arr 8 (.int .u8))), .ptr 1 [], .ptr 2 [], .v (.int .i64)], [.box true (.v (.arr 5 (.arr 8 (.int .u8)))), .box false (.v (.named 1)), .box false (.v (.arr 8 .str))], fun l i o0 d want => .opt (N.law6_JrnlMany_l3 N.fuel l o0 i d want) (x7_s3 l o0)⟩
noncomputable def L7 : Nat → LoopInfo E := clL E 108 [{ ks := [1, 3, 4, 5], mvs := [], pro := [], d := [], g := some (insF [g7_s0]) }, { ks := [1, 3, 4, 6], mvs := [], pro := [.rd 1], d := [], g := some (insF [g7_s3]) }, { ks := [1, 3, 4, 6, 7, 8, 10], mvs := [], pro := [], d := [], g := some (insF [g7_s1]) }, { ks := [1, 3, 4, 6, 8, 11, 13], mvs := [], pro := [], d := [], g := some (insF [g7_s2]) }] []
theorem f7_s0 (l : List (List UInt8)) (d : N.TDisk) (i : Int) (want : List (List UInt8)) : ((stepOf E S7 L7 0 0 Tryd.f7 (h7_s0 l d i want) (t7_s0 l d i want)).bind (nx E [1, 3, 4, 5] [] [1, 2, 3, 4] 3)).get = N.law6_JrnlMany_s0k l d (fun v_ => some (.inl (h7_s0 l d v_.1 v_.2, t7_s0 l d v_.1 v_.2))) (fun x_ => some (.inr (.exit 0, ofSlots E 108 [] [1, 2, 3, 4] [.ptr 0 [], .undef, .ptr 1 [], .ptr 2 []], [.box false (.val (.arr 5 (.arr 8 (.int .u8))) l), .box false (.val (.named 1) d), .box false (.val (.arr 8 .str) x_)]))) i want := by kernel_rfl
theorem q7_s0 : InsLp 108 [1, 3, 4, 5] [] [] (stepOf E S7 L7 0 0 Tryd.f7) g7_s0 := by
  intro i l d want out_ ho_
  obtain ⟨x_, h1_, h2_⟩ := Option.bind_eq_some_iff.1 ho_
  refine iter_loop (rs := [1, 2, 3, 4]) (step := N.law6_JrnlMany_s0 l d) (hd := fun v_ => h7_s0 l d v_.1 v_.2) (sv := fun v_ => t7_s0 l d v_.1 v_.2) (ex := x7_s0 l d) (fun v_ => ?_) N.fuel (i, want) h1_ h2_
  refine (f7_s0 l d v_.1 v_.2).trans ((N.law6_JrnlMany_s0_bind l d _ _ v_.1 v_.2).trans ?_)
  refine congrArg _ (funext fun s_ => ?_)
  rcases s_ with v_ | a <;> rfl
theorem f7_s1 (l : List (List UInt8)) (i : Int) (p : List N.TPut) (o0 : List (List UInt8)) (d : N.TDisk) (x : N.TDisk) (k : Int) (want : List (List UInt8)) : ((stepOf E S7 L7 0 2 Tryd.f7 (h7_s1 l i p o0 d x k want) (t7_s1 l i p o0 d x k want)).bind (nx E [1, 3, 4, 6, 7, 8, 10] [] [1, 2, 3, 4, 6, 8] 4)).get = N.law6_JrnlMany_s1k l i p o0 d x (fun v_ => some (.inl (h7_s1 l i p o0 d x v_.1 v_.2, t7_s1 l i p o0 d x v_.1 v_.2))) (fun x_ => some (.inr (.exit 4, ofSlots E 108 [] [1, 2, 3, 4, 6, 8] [.rptr (.arr 5 (.arr 8 (.int .u8))) l, .undef, .ptr 1 [], .ptr 2 [], .val (.int .i64) i, .ptr 3 []], [.box true (.val (.arr 5 (.arr 8 (.int .u8))) o0), .box false (.val (.named 1) d), .box false (.val (.arr 8 .str) x_), .box false (.val (.named 1) x)]))) k want := by kernel_rfl
theorem q7_s1 : InsLp 108 [1, 3, 4, 6, 7, 8, 10] [] [] (stepOf E S7 L7 0 2 Tryd.f7) g7_s1 := by
  intro l i p k o0 d want x out_ ho_
  obtain ⟨x_, h1_, h2_⟩ := Option.bind_eq_some_iff.1 ho_
  refine iter_loop (rs := [1, 2, 3, 4, 6, 8]) (step := N.law6_JrnlMany_s1 l i p o0 d x) (hd := fun v_ => h7_s1 l i p o0 d x v_.1 v_.2) (sv := fun v_ => t7_s1 l i p o0 d x v_.1 v_.2) (ex := x7_s1 l i p o0 d x) (fun v_ => ?_) N.fuel (k, want) h1_ h2_
  refine (f7_s1 l i p o0 d x v_.1 v_.2).trans ((N.law6_JrnlMany_s1_bind l i p o0 d x _ _ v_.1 v_.2).trans ?_)
  refine congrArg _ (funext fun s_ => ?_)
  rcases s_ with v_ | a <;> rfl
theorem f7_s2 (l : List (List UInt8)) (i : Int) (o0 : List (List UInt8)) (d : N.TDisk) (want : List (List UInt8)) (x : N.TDisk) (y : N.TDisk) (k : Int) : ((stepOf E S7 L7 0 3 Tryd.f7 (h7_s2 l i o0 d want x y k) (t7_s2 l i o0 d want x y k)).bind (nx E [1, 3, 4, 6, 8, 11, 13] [] [1, 2, 3, 4, 6, 8] 5)).get = N.law6_JrnlMany_s2k N.fuel l i o0 d want x y (fun v_ => some (.inl (h7_s2 l i o0 d want x y v_, t7_s2 l i o0 d want x y v_))) (fun x_ => some (.inr (.ret, ofSlots E 108 [] [1, 2, 3, 4, 6, 8] [.rptr (.arr 5 (.arr 8 (.int .u8))) l, .val .bool false, .ptr 1 [], .ptr 2 [], .val (.int .i64) i, .ptr 3 []], [.box true (.val (.arr 5 (.arr 8 (.int .u8))) o0), .box false (.val (.named 1) d), .box false (.val (.arr 8 .str) want), .box false (.val (.named 1) x), .box false (.val (.named 1) y)]))) (fun x_ => some (.inr (.exit 6, ofSlots E 108 [] [1, 2, 3, 4, 6, 8] [.rptr (.arr 5 (.arr 8 (.int .u8))) l, .undef, .ptr 1 [], .ptr 2 [], .val (.int .i64) i, .ptr 3 []], [.box true (.val (.arr 5 (.arr 8 (.int .u8))) o0), .box false (.val (.named 1) d), .box false (.val (.arr 8 .str) want), .box false (.val (.named 1) x), .box false (.val (.named 1) y)]))) k := by kernel_rfl
theorem q7_s2 : InsLp 108 [1, 3, 4, 6, 8, 11, 13] [] [] (stepOf E S7 L7 0 3 Tryd.f7) g7_s2 := by
  intro l i k o0 d want x y out_ ho_
  obtain ⟨x_, h1_, h2_⟩ := Option.bind_eq_some_iff.1 ho_
  refine iter_loop (rs := [1, 2, 3, 4, 6, 8]) (step := N.law6_JrnlMany_s2 N.fuel l i o0 d want x y) (hd := fun v_ => h7_s2 l i o0 d want x y v_) (sv := fun v_ => t7_s2 l i o0 d want x y v_) (ex := x7_s2 l i o0 d want x y) (fun v_ => ?_) N.fuel k h1_ h2_
  refine (f7_s2 l i o0 d want x y v_).trans ((N.law6_JrnlMany_s2_bind N.fuel l i o0 d want x y _ _ _ v_).trans ?_)
  refine congrArg _ (funext fun s_ => ?_)
  rcases s_ with v_ | a | a <;> rfl
theorem f7_s3 (l : List (List UInt8)) (o0 : List (List UInt8)) (i : Int) (d : N.TDisk) (want : List (List UInt8)) : ((stepOf E S7 L7 0 1 Tryd.f7 (h7_s3 l o0 i d want) (t7_s3 l o0 i d want)).bind (nx E [1, 3, 4, 6] [] [2, 3] 3)).get = N.law6_JrnlMany_s3k N.fuel l o0 (fun v_ => some (.inl (h7_s3 l o0 v_.1 v_.2.1 v_.2.2, t7_s3 l o0 v_.1 v_.2.1 v_.2.2))) (fun x_ => some (.inr (.ret, ofSlots E 108 [] [2, 3] [.val .bool false, .ptr 1 []], [.box true (.val (.arr 5 (.arr 8 (.int .u8))) o0), .box false (.val (.named 1) x_.1), .box false (.val (.arr 8 .str) x_.2.1), .box false (.val (.named 1) x_.2.2)]))) (fun x_ => some (.inr (.ret, ofSlots E 108 [] [2, 3] [.val .bool false, .ptr 1 []], [.box true (.val (.arr 5 (.arr 8 (.int .u8))) o0), .box false (.val (.named 1) x_.1), .box false (.val (.arr 8 .str) x_.2.1), .box false (.val (.named 1) x_.2.2.1), .box false (.val (.named 1) x_.2.2.2)]))) (fun x_ => some (.inr (.exit 2, ofSlots E 108 [] [2, 3] [.undef, .ptr 1 []], [.box true (.val (.arr 5 (.arr 8 (.int .u8))) o0), .box false (.val (.named 1) x_.1), .box false (.val (.arr 8 .str) x_.2)]))) i d want := by kernel_rfl
theorem q7_s3 : InsLp 108 [1, 3, 4, 6] [] [] (stepOf E S7 L7 0 1 Tryd.f7) g7_s3 := by
  intro l i o0 d want out_ ho_
  obtain ⟨x_, h1_, h2_⟩ := Option.bind_eq_some_iff.1 ho_
  refine iter_loop (rs := [2, 3]) (step := N.law6_JrnlMany_s3 N.fuel l o0) (hd := fun v_ => h7_s3 l o0 v_.1 v_.2.1 v_.2.2) (sv := fun v_ => t7_s3 l o0 v_.1 v_.2.1 v_.2.2) (ex := x7_s3 l o0) (fun v_ => ?_) N.fuel (i, d, want) h1_ h2_
  refine (f7_s3 l o0 v_.1 v_.2.1 v_.2.2).trans ((N.law6_JrnlMany_s3_bind N.fuel l o0 _ _ _ _ v_.1 v_.2.1 v_.2.2).trans ?_)
  refine congrArg _ (funext fun s_ => ?_)
  rcases s_ with v_ | a | a | a <;> rfl
noncomputable def B7 : List (DVal E.T) → St E.T → Tree (Res E.T × St E.T) := dbody E (lookS S7) (lookD []) L7 0 false Tryd.f7
theorem B7_ok : FnOk Tryd.prog E 7 B7 := bodyC_ok sound mix S7_ok (SD := []) trivial (L := L7) (N := 0) (keep := false) Tryd.func7 rfl (by
  intro k g hg fr st out ho
  match k, hg with
  | 0, hg => cases hg; exact lp_ok (allLp_cons q7_s0 (allLp_nil)) fr st out ho
  | 1, hg => cases hg; exact lp_ok (allLp_cons q7_s3 (allLp_nil)) fr st out ho
  | 2, hg => cases hg; exact lp_ok (allLp_cons q7_s1 (allLp_nil)) fr st out ho
  | 3, hg => cases hg; exact lp_ok (allLp_cons q7_s2 (allLp_nil)) fr st out ho
  | _ + 4, hg => cases hg)
theorem F7 (l : List (List UInt8)) : (B7 [.val (.arr 5 (.arr 8 (.int .u8))) l] []).get = N.law6_JrnlMany_k N.fuel (fun x_ => some (.ret [.val .bool x_], [])) l := by kernel_rfl
end Go.Proofs.YtddhfdbfackahaaDoor.J

set_option linter.unusedVariables false
set_option linter.unusedSimpArgs false
namespace Go.Proofs.YtddhfdbfackahaaDoor.N
open Go
theorem wi64_of {n : Int} (h1 : -9223372036854775808 ≤ n) (h2 : n ≤ 9223372036854775807) : wi64 n = n := by
  unfold wi64; rw [IntKind.wrap_i64]; omega
theorem some_bind {α β : Type} (a : α) (f : α → Option β) : (some a).bind f = f a := rfl
theorem i8_lo (x : UInt8) : 0 ≤ i8 x := Int.natCast_nonneg _
theorem i8_hi (x : UInt8) : i8 x < 256 := by have := x.toNat_lt; unfold i8; omega
theorem i8_inj {x y : UInt8} (h : i8 x = i8 y) : x = y := UInt8.toNat_inj.1 (by unfold i8 at h; omega)
theorem i8_b8 {n : Int} (h : 0 ≤ n) (h2 : n < 256) : i8 (b8 n) = n := by
  unfold i8 b8
  rw [UInt8.toNat_ofNat_of_lt' (by show n.toNat < 256; omega)]
  omega
theorem inR_of {i : Int} {n : Nat} (h : 0 ≤ i) (h2 : i < n) : inR i n = true := by
  unfold inR; simp [h, h2]
theorem fuel_gt {n : Nat} (h : n < 4294967296) : n < fuel := by rw [fuel_eq]; exact h
end Go.Proofs.YtddhfdbfackahaaDoor.N

set_option linter.unusedVariables false
set_option linter.unusedSimpArgs false
namespace Go.Proofs.YtddhfdbfackahaaDoor.N
open Go
theorem lt_dec {i n : Nat} (h : i < n) : decide ((i : Int) < (n : Int)) = true := decide_eq_true (by omega)
theorem ge_dec (n : Nat) : decide ((n : Int) < (n : Int)) = false := decide_eq_false (by omega)
theorem inR_nat {i n : Nat} (h : i < n) : inR (i : Int) n = true := inR_of (by omega) (by omega)
theorem wi64_succ {i : Nat} (h : i < 4294967296) : wi64 ((i : Int) + 1) = ((i + 1 : Nat) : Int) := by rw [wi64_of (by omega) (by omega)]; omega
def okc (a : UInt8) : Bool := !(decide (i8 a < 33)) && !(decide (i8 a > 126))
def mayName (s : List UInt8) : Bool := s.all okc && (decide ((s.length : Int) ≥ 1) && decide ((s.length : Int) ≤ 8))
end Go.Proofs.YtddhfdbfackahaaDoor.N

set_option linter.unusedVariables false
set_option linter.unusedSimpArgs false
namespace Go.Proofs.YtddhfdbfackahaaDoor.N
open Go
def wantW (a : TAsk) : Bool := a.Kind == 3 || a.Kind == 4
def want (a : TAsk) : TAsk :=
  bif a.Kind == 1 then ⟨a.Kind, a.From, a.Epoch, a.Seq, a.Name, 0, 0, []⟩ else
  bif a.Kind == 2 then ⟨a.Kind, a.From, a.Epoch, a.Seq, [], a.File, a.Mode, []⟩ else
  bif wantW a then ⟨a.Kind, a.From, a.Epoch, a.Seq, [], a.File, 0, a.Writes⟩ else ⟨a.Kind, a.From, a.Epoch, a.Seq, [], a.File, 0, []⟩
end Go.Proofs.YtddhfdbfackahaaDoor.N

set_option linter.unusedVariables false
set_option linter.unusedSimpArgs false
namespace Go.Proofs.YtddhfdbfackahaaDoor.N
open Go
def byteAt (v : Int) (k : Nat) : UInt8 := b8 (wu8 (shrI .i64 v (wi64 (8 * (k : Int)))))
def be : Nat → Int → List UInt8
  | 0, _ => []
  | k + 1, v => byteAt v k :: be k v
def txt (s : List UInt8) : List UInt8 := b8 (s.length : Int) :: s
theorem wu8_of {n : Int} (h : 0 ≤ n) (h2 : n < 256) : wu8 n = n := by unfold wu8; rw [IntKind.wrap_u8]; omega
end Go.Proofs.YtddhfdbfackahaaDoor.N

set_option linter.unusedVariables false
set_option linter.unusedSimpArgs false
namespace Go.Proofs.YtddhfdbfackahaaDoor.N
open Go
theorem lim_eq : lim = 2147483648 := rfl
theorem mayName_iff {s : List UInt8} : mayName s = true → 1 ≤ s.length ∧ s.length ≤ 8 := by
  intro h
  simp [mayName] at h
  omega
end Go.Proofs.YtddhfdbfackahaaDoor.N

set_option linter.unusedVariables false
set_option linter.unusedSimpArgs false
namespace Go.Proofs.YtddhfdbfackahaaDoor.N
open Go
def val (l : List UInt8) : Int := l.foldl (fun v x => v * 256 + i8 x) 0
theorem cutOk_of {lo hi : Int} {n : Nat} (h1 : 0 ≤ lo) (h2 : lo ≤ hi) (h3 : hi ≤ n) : cutOk lo hi n = true := by
  unfold cutOk; simp [h1, h2, h3]
theorem cut_front {α : Type} (b : List α) (k : Nat) : cutL b 0 (k : Int) = b.take k := by
  unfold cutL; simp
end Go.Proofs.YtddhfdbfackahaaDoor.N

set_option linter.unusedVariables false
set_option linter.unusedSimpArgs false
namespace Go.Proofs.YtddhfdbfackahaaDoor.N
open Go
end Go.Proofs.YtddhfdbfackahaaDoor.N

set_option linter.unusedVariables false
set_option linter.unusedSimpArgs false
namespace Go.Proofs.YtddhfdbfackahaaDoor.N
open Go
end Go.Proofs.YtddhfdbfackahaaDoor.N

set_option linter.unusedVariables false
set_option linter.unusedSimpArgs false
namespace Go.Proofs.YtddhfdbfackahaaDoor.N
open Go
end Go.Proofs.YtddhfdbfackahaaDoor.N

set_option linter.unusedVariables false
set_option linter.unusedSimpArgs false
namespace Go.Proofs.YtddhfdbfackahaaDoor.N
open Go
theorem iter_inv {V X : Type} {step : V → Option (V ⊕ X)} (I : Nat → V → Prop) (Q : X → Prop)
    (h : ∀ k v, I k v → ∃ o, step v = some o ∧ Sum.elim (fun v' => ∃ k', k' < k ∧ I k' v') Q o) :
    ∀ (k : Nat) (v : V) (n : Nat), I k v → k < n → ∃ x, iter step n v = some x ∧ Q x := by
  intro k
  induction k using Nat.strongRecOn with
  | _ k ih =>
    intro v n hi hn
    obtain ⟨o, ho, hq⟩ := h k v hi
    cases n with
    | zero => omega
    | succ n =>
      rw [iter_succ, ho]
      cases o with
      | inl v' =>
        obtain ⟨k', h1, h2⟩ := hq
        exact ih k' h1 v' n h2 (by omega)
      | inr x => exact ⟨x, rfl, hq⟩
theorem beq_ne {α : Type} [BEq α] [LawfulBEq α] {a b : α} (h : a ≠ b) : (a == b) = false := by
  cases hb : a == b with
  | false => rfl
  | true => exact absurd (eq_of_beq hb) h
theorem cut_mid {α : Type} (b : List α) (i k : Nat) : cutL b (i : Int) ((i + k : Nat) : Int) = (b.drop i).take k := by
  unfold cutL
  rw [Int.toNat_natCast, Int.toNat_natCast, List.drop_take]
  congr 1
  omega
theorem eq_int {n : Nat} {k : Int} (h : (n : Int) = k) : ((n : Int) != k) = false := by simp [h]
end Go.Proofs.YtddhfdbfackahaaDoor.N

set_option linter.unusedVariables false
set_option linter.unusedSimpArgs false
namespace Go.Proofs.YtddhfdbfackahaaDoor.N
open Go
def noFile : TFile := ⟨[], 0, []⟩
def fileOk (f : TFile) : Prop := f = noFile ∨ (mayName f.Name = true ∧ 1 ≤ f.Ver ∧ f.Ver ≤ 1073741824 ∧ f.Body.length ≤ 24)
def markOk (B : Int) (m : TMark) : Prop := 0 ≤ m.Seq ∧ m.Seq ≤ B ∧ 0 ≤ m.Err ∧ m.Err ≤ 3 ∧ 0 ≤ m.File ∧ m.File ≤ 6 ∧ 0 ≤ m.Ver ∧ m.Ver ≤ 1073741824
def once (l : List TFile) : Prop := ∀ (i j : Nat) (f g : TFile), l[i]? = some f → l[j]? = some g → f.Name ≠ [] → f.Name = g.Name → i = j
structure Good (B : Int) (s : TState) : Prop where
  nf : s.Files.length = 6
  nm : s.Marks.length = 3
  e0 : 0 ≤ s.Epoch
  e1 : s.Epoch ≤ 1073741824
  fs : ∀ f ∈ s.Files, fileOk f
  on : once s.Files
  ms : ∀ m ∈ s.Marks, markOk B m
theorem fileOk.name {f : TFile} (h : fileOk f) : f.Name.length ≤ 8 := by
  rcases h with rfl | ⟨h, _⟩
  · decide
  · exact (mayName_iff h).2
theorem fileOk.body {f : TFile} (h : fileOk f) : f.Body.length ≤ 24 := by
  rcases h with rfl | ⟨_, _, _, h⟩
  · decide
  · exact h
theorem fileOk.none {f : TFile} (h : fileOk f) (hn : f.Name = []) : f = noFile := by
  rcases h with h | ⟨h, _⟩
  · exact h
  · have := (mayName_iff h).1
    rw [hn] at this
    simp at this
theorem fileOk.some {f : TFile} (h : fileOk f) (hn : f.Name ≠ []) : mayName f.Name = true ∧ 1 ≤ f.Ver := by
  rcases h with rfl | ⟨h, h2, _⟩
  · exact absurd rfl hn
  · exact ⟨h, h2⟩
theorem markOk.mono {B B' : Int} {m : TMark} (h : markOk B m) (hb : B ≤ B') : markOk B' m := ⟨h.1, Int.le_trans h.2.1 hb, h.2.2⟩
theorem Good.mono {B B' : Int} {s : TState} (h : Good B s) (hb : B ≤ B') : Good B' s := ⟨h.nf, h.nm, h.e0, h.e1, h.fs, h.on, fun m hm => (h.ms m hm).mono hb⟩
end Go.Proofs.YtddhfdbfackahaaDoor.N

set_option linter.unusedVariables false
set_option linter.unusedSimpArgs false
namespace Go.Proofs.YtddhfdbfackahaaDoor.N
open Go
end Go.Proofs.YtddhfdbfackahaaDoor.N

set_option linter.unusedVariables false
set_option linter.unusedSimpArgs false
namespace Go.Proofs.YtddhfdbfackahaaDoor.N
open Go
end Go.Proofs.YtddhfdbfackahaaDoor.N

set_option linter.unusedVariables false
set_option linter.unusedSimpArgs false
namespace Go.Proofs.YtddhfdbfackahaaDoor.N
open Go
def padT (n : Nat) (s : List UInt8) : List UInt8 := txt s ++ List.replicate (n - s.length) 0
def encM (m : TMark) : List UInt8 := be 4 m.Seq ++ (be 1 m.Err ++ (be 1 m.File ++ be 4 m.Ver))
def encF (f : TFile) : List UInt8 := padT 8 f.Name ++ (be 4 f.Ver ++ padT 24 f.Body)
def enc (s : TState) : List UInt8 := be 4 s.Epoch ++ ((s.Marks.map encM).flatten ++ (s.Files.map encF).flatten)
end Go.Proofs.YtddhfdbfackahaaDoor.N

set_option linter.unusedVariables false
set_option linter.unusedSimpArgs false
namespace Go.Proofs.YtddhfdbfackahaaDoor.N
open Go
end Go.Proofs.YtddhfdbfackahaaDoor.N

set_option linter.unusedVariables false
set_option linter.unusedSimpArgs false
namespace Go.Proofs.YtddhfdbfackahaaDoor.N
open Go
end Go.Proofs.YtddhfdbfackahaaDoor.N

set_option linter.unusedVariables false
set_option linter.unusedSimpArgs false
namespace Go.Proofs.YtddhfdbfackahaaDoor.N
open Go
end Go.Proofs.YtddhfdbfackahaaDoor.N

set_option linter.unusedVariables false
set_option linter.unusedSimpArgs false
namespace Go.Proofs.YtddhfdbfackahaaDoor.N
open Go
end Go.Proofs.YtddhfdbfackahaaDoor.N

set_option linter.unusedVariables false
set_option linter.unusedSimpArgs false
namespace Go.Proofs.YtddhfdbfackahaaDoor.N
open Go
end Go.Proofs.YtddhfdbfackahaaDoor.N

set_option linter.unusedVariables false
set_option linter.unusedSimpArgs false
namespace Go.Proofs.YtddhfdbfackahaaDoor.N
open Go
def zeros : List UInt8 := [0, 0, 0, 0, 0, 0, 0, 0, 0, 0, 0, 0, 0, 0, 0, 0, 0, 0, 0, 0, 0, 0, 0, 0, 0, 0, 0, 0, 0, 0, 0, 0]
def okP (n : Nat) (p : TPut) : Prop := 0 ≤ p.At ∧ p.At < n ∧ p.B.length = 32
structure DOk (d : TDisk) : Prop where
  last : ∀ x ∈ d.Last, x.length = 32
  len : d.Last.length ≤ 1000
  wait : ∀ p ∈ d.Wait, okP d.Last.length p
  wlen : d.Wait.length ≤ 1000
  a0 : 0 ≤ d.Arm
  a1 : d.Arm ≤ 1000
def wput (d : TDisk) (p : TPut) : TDisk := if d.Arm > 0 then ⟨d.Last, d.Wait ++ [p], d.Arm - 1, d.Arm - 1 == 0⟩ else ⟨d.Last, d.Wait ++ [p], d.Arm, d.Down⟩
def wr (L : List (List UInt8)) (ws : List TPut) : List (List UInt8) := ws.foldl (fun L p => L.set p.At.toNat p.B) L
def flushed (d : TDisk) : TDisk := ⟨wr d.Last d.Wait, [], d.Arm, d.Down⟩
theorem wput_last (d : TDisk) (p : TPut) : (wput d p).Last = d.Last := by unfold wput; split <;> rfl
theorem wput_wait (d : TDisk) (p : TPut) : (wput d p).Wait = d.Wait ++ [p] := by unfold wput; split <;> rfl
theorem DWrite_ok (d : TDisk) (hd : DOk d) (hw : d.Wait.length < 1000) (hdn : d.Down = false) (i : Int) (b : List UInt8) (hp : okP d.Last.length ⟨i, b⟩) : disk_Write d i b = some (wput d ⟨i, b⟩, !(wput d ⟨i, b⟩).Down) := by
  obtain ⟨h0, h1, h2⟩ := hp
  simp only at h0 h1 h2
  have ha0 := hd.a0
  have ha1 := hd.a1
  unfold disk_Write disk_Write_k
  have ht : disk_there d i = true := by
    unfold disk_there disk_there_k
    rw [hdn, decide_eq_true (show i ≥ 0 from h0), decide_eq_true h1]
    rfl
  rw [ht, h2, decide_eq_true (show d.Wait.length + 1 ≤ lim by rw [lim_eq]; omega), wi64_of (show -9223372036854775808 ≤ d.Arm - 1 by omega) (by omega)]
  unfold wput
  by_cases ha : d.Arm > 0
  · rw [decide_eq_true ha, if_pos ha]; rfl
  · rw [decide_eq_false ha, if_neg ha]; rfl
theorem wput_ok {d : TDisk} (hd : DOk d) (hw : d.Wait.length < 1000) {p : TPut} (hp : okP d.Last.length p) : DOk (wput d p) := by
  refine ⟨by rw [wput_last]; exact hd.last, by rw [wput_last]; exact hd.len, ?_, by rw [wput_wait]; simp; omega, ?_, ?_⟩
  · rw [wput_last, wput_wait]
    intro q hq
    rcases List.mem_append.1 hq with hq | hq
    · exact hd.wait q hq
    · rw [List.mem_singleton.1 hq]; exact hp
  · have := hd.a0
    unfold wput
    split
    · show 0 ≤ d.Arm - 1; omega
    · exact this
  · have := hd.a1
    unfold wput
    split
    · show d.Arm - 1 ≤ 1000; omega
    · exact this
def wout (d : TDisk) : Tjrnl_writer ⊕ Tjrnl_writer := bif d.Down then .inr ⟨d⟩ else .inl ⟨d⟩
theorem write2_ok (d : TDisk) (hd : DOk d) (hw : d.Wait.length < 1000) (hdn : d.Down = false) (i : Int) (b : List UInt8) (hp : okP d.Last.length ⟨i, b⟩) : jrnl_writer_write_2 i b ⟨d⟩ = some (wout (wput d ⟨i, b⟩)) := by
  unfold jrnl_writer_write_2 jrnl_writer_write_2_k
  rw [DWrite_ok d hd hw hdn i b hp, some_bind]
  unfold jrnl_writer_does_2 jrnl_writer_does_2_k wout
  cases (wput d ⟨i, b⟩).Down <;> rfl
theorem write1_ok (d : TDisk) (hd : DOk d) (hw : d.Wait.length < 1000) (hdn : d.Down = false) (i : Int) (b : List UInt8) (hp : okP d.Last.length ⟨i, b⟩) : jrnl_writer_write i b ⟨d⟩ = some (bif (wput d ⟨i, b⟩).Down then .inr (⟨wput d ⟨i, b⟩⟩, d.Last, d.Wait) else .inl (⟨wput d ⟨i, b⟩⟩, d.Last, d.Wait)) := by
  unfold jrnl_writer_write jrnl_writer_write_k
  rw [DWrite_ok d hd hw hdn i b hp, some_bind]
  unfold jrnl_writer_does jrnl_writer_does_k
  cases (wput d ⟨i, b⟩).Down <;> rfl
theorem wr_len (ws : List TPut) : ∀ L : List (List UInt8), (wr L ws).length = L.length := by
  induction ws with
  | nil => intro L; rfl
  | cons p r ih => intro L; show (wr (L.set p.At.toNat p.B) r).length = _; rw [ih, List.length_set]
theorem wr_each (ws : List TPut) : ∀ L : List (List UInt8), (∀ x ∈ L, x.length = 32) → (∀ p ∈ ws, p.B.length = 32) → ∀ x ∈ wr L ws, x.length = 32 := by
  induction ws with
  | nil => intro L h _; exact h
  | cons p r ih =>
    intro L h hp
    refine ih _ (fun x hx => ?_) (fun q hq => hp q (List.mem_cons_of_mem _ hq))
    rcases List.mem_or_eq_of_mem_set hx with hx | rfl
    · exact h x hx
    · exact hp p (List.mem_cons_self ..)
theorem wr_app (L : List (List UInt8)) (a b : List TPut) : wr L (a ++ b) = wr (wr L a) b := List.foldl_append ..
theorem lasts32 (p : TPut) (d : TDisk) (hl : ∀ x ∈ d.Last, x.length = 32) (hp : okP d.Last.length p) : disk_lasting_lasts p 32 ⟨d⟩ = some ⟨⟨d.Last.set p.At.toNat p.B, d.Wait, d.Arm, d.Down⟩⟩ := by
  obtain ⟨h0, h1, h2⟩ := hp
  have hlt : p.At.toNat < d.Last.length := by omega
  have hy := hl _ (List.getElem_mem hlt)
  unfold disk_lasting_lasts disk_lasting_lasts_k
  rw [decide_eq_false (show ¬ p.At < 0 by omega), decide_eq_false (show ¬ p.At ≥ (d.Last.length : Int) by omega), inR_of h0 h1, List.getElem?_eq_getElem hlt]
  simp only [cond_true, cond_false, some_bind]
  rw [h2, hy]
  have hm : imax (imin (imin 32 ((32 : Nat) : Int)) ((32 : Nat) : Int)) 0 = ((32 : Nat) : Int) := by decide
  rw [hm, cutOk_of (by omega) (by omega) (by omega), cut_front]
  have hc : cutL d.Last[p.At.toNat] ((32 : Nat) : Int) ((32 : Nat) : Int) = [] := by
    unfold cutL
    rw [List.drop_of_length_le (by rw [List.length_take]; exact Nat.min_le_left _ _)]
  rw [hc, List.take_of_length_le (by omega), decide_eq_true (show p.B.length + ([] : List UInt8).length ≤ lim by rw [h2, lim_eq]; simp), List.append_nil]
  rfl
theorem dflush_loop (o : TDisk) (t : TDisk) (L0 : List (List UInt8)) (ws : List TPut) (d : TDisk) (hd : ∀ x ∈ d.Last, x.length = 32) (hw : ∀ p ∈ ws, okP d.Last.length p) (hl : ws.length ≤ 1000) :
    ∃ o', disk_Flush_l0 fuel ws (ws.length : Int) o 0 t ⟨d⟩ = some (o', ⟨⟨wr d.Last ws, d.Wait, d.Arm, d.Down⟩⟩) := by
  unfold disk_Flush_l0
  obtain ⟨x, e, hx⟩ := iter_inv (step := disk_Flush_s0 ws (ws.length : Int) o) (fun k v => ∃ i : Nat, v.1 = (i : Int) ∧ i + k = ws.length ∧ v.2.2 = ⟨⟨wr d.Last (ws.take i), d.Wait, d.Arm, d.Down⟩⟩) (fun r => r.2 = ⟨⟨wr d.Last ws, d.Wait, d.Arm, d.Down⟩⟩) (fun k v hI => by
    obtain ⟨v1, v2, v3⟩ := v
    obtain ⟨i, h1, hk, h2⟩ := hI
    simp only at h1 h2
    subst h1 h2
    simp only [disk_Flush_s0, disk_Flush_s0k]
    by_cases hlt : i < ws.length
    · rw [lt_dec hlt, inR_nat hlt, Int.toNat_natCast, List.getElem?_eq_getElem hlt]
      simp only [cond_true, some_bind]
      rw [lasts32 ws[i] _ (wr_each _ _ hd (fun p hp => (hw p (List.mem_of_mem_take hp)).2.2)) (by show okP (wr d.Last (ws.take i)).length ws[i]; rw [wr_len]; exact hw _ (List.getElem_mem hlt)), some_bind, wi64_succ (by omega)]
      refine ⟨_, rfl, k - 1, by omega, i + 1, rfl, by omega, ?_⟩
      rw [List.take_add_one, List.getElem?_eq_getElem hlt, wr_app]
      rfl
    · obtain rfl : i = ws.length := by omega
      rw [ge_dec]
      exact ⟨_, rfl, by rw [List.take_length]; rfl⟩) ws.length (0, t, ⟨d⟩) fuel ⟨0, rfl, by omega, rfl⟩ (fuel_gt (by omega))
  exact ⟨x.1, by rw [e, ← hx]⟩
theorem DFlush_ok (d : TDisk) (hd : DOk d) (hdn : d.Down = false) : disk_Flush fuel d = some (flushed d, true) := by
  unfold disk_Flush disk_Flush_k
  rw [hdn]
  obtain ⟨o', e⟩ := dflush_loop d (TDisk.mk [] [] 0 false) d.Last d.Wait d hd.last hd.wait hd.wlen
  simp only [cond_false]
  rw [e, some_bind]
  unfold flushed
  rw [hdn]
theorem flushed_ok {d : TDisk} (hd : DOk d) : DOk (flushed d) := by
  refine ⟨wr_each _ _ hd.last (fun p hp => (hd.wait p hp).2.2), by show (wr d.Last d.Wait).length ≤ 1000; rw [wr_len]; exact hd.len, (fun p hp => nomatch hp), by show (0 : Nat) ≤ 1000; omega, hd.a0, hd.a1⟩
theorem wflush_ok (d : TDisk) (hd : DOk d) (hdn : d.Down = false) : jrnl_writer_flush fuel ⟨d⟩ = some (.inl ⟨flushed d⟩) := by
  unfold jrnl_writer_flush jrnl_writer_flush_k
  rw [DFlush_ok d hd hdn, some_bind]
  rfl
def wmany (d : TDisk) : List TPut → TDisk × Bool
  | [] => (d, true)
  | p :: r => bif (wput d p).Down then (wput d p, false) else wmany (wput d p) r
theorem wmany_all : ∀ (ws : List TPut) (d : TDisk), d.Down = false → 0 ≤ d.Arm → (d.Arm = 0 ∨ (ws.length : Int) < d.Arm) → wmany d ws = (⟨d.Last, d.Wait ++ ws, if d.Arm = 0 then 0 else d.Arm - ws.length, false⟩, true)
  | [], d, hdn, h0, _ => by
    obtain ⟨L, W, A, D⟩ := d
    simp only at hdn h0
    subst hdn
    unfold wmany
    simp only [List.append_nil, List.length_nil]
    by_cases hA : A = 0
    · rw [if_pos hA, hA]
    · rw [if_neg hA]; simp
  | p :: r, d, hdn, h0, h => by
    rw [List.length_cons] at h
    have hnd : (wput d p).Down = false := by
      unfold wput
      by_cases ha : d.Arm > 0
      · rw [if_pos ha]; show (d.Arm - 1 == 0) = false; exact beq_ne (by omega)
      · rw [if_neg ha]; exact hdn
    have harm : (wput d p).Arm = if d.Arm = 0 then 0 else d.Arm - 1 := by
      unfold wput
      by_cases ha : d.Arm > 0
      · rw [if_pos ha, if_neg (by omega)]
      · rw [if_neg ha, if_pos (by omega)]; show d.Arm = 0; omega
    rw [wmany, hnd, cond_false, wmany_all r _ hnd (by rw [harm]; split <;> omega) (by rw [harm]; split <;> omega), wput_last, wput_wait, harm, List.append_assoc, List.length_cons]
    congr 2
    split
    · simp
    · rw [if_neg (by omega)]; omega
theorem wmany_cut : ∀ (ws : List TPut) (d : TDisk), d.Down = false → 1 ≤ d.Arm → d.Arm ≤ (ws.length : Int) → wmany d ws = (⟨d.Last, d.Wait ++ ws.take d.Arm.toNat, 0, true⟩, false)
  | [], d, _, h1, h2 => by simp at h2; omega
  | p :: r, d, hdn, h1, h2 => by
    rw [List.length_cons] at h2
    rw [wmany]
    by_cases ha : d.Arm = 1
    · have : wput d p = ⟨d.Last, d.Wait ++ [p], 0, true⟩ := by unfold wput; rw [if_pos (by omega), ha]; rfl
      rw [this, ha]
      rfl
    · have hw : wput d p = ⟨d.Last, d.Wait ++ [p], d.Arm - 1, false⟩ := by
        unfold wput; rw [if_pos (by omega)]
        congr 1
        exact beq_ne (by omega)
      rw [hw, cond_false, wmany_cut r _ rfl (by show 1 ≤ d.Arm - 1; omega) (by show d.Arm - 1 ≤ _; omega)]
      show (TDisk.mk d.Last (d.Wait ++ [p] ++ r.take (d.Arm - 1).toNat) 0 true, false) = _
      rw [List.append_assoc, show d.Arm.toNat = (d.Arm - 1).toNat + 1 by omega]
      rfl
theorem wmany_down : ∀ (ws : List TPut) (d : TDisk), d.Down = false → ((wmany d ws).2 = true ∧ (wmany d ws).1.Down = false) ∨ ((wmany d ws).2 = false ∧ (wmany d ws).1.Down = true)
  | [], d, h => .inl ⟨rfl, h⟩
  | p :: r, d, h => by
    rw [wmany]
    cases hp : (wput d p).Down with
    | true => exact .inr ⟨rfl, hp⟩
    | false => exact wmany_down r _ hp
theorem wmany_ok : ∀ (ws : List TPut) (d : TDisk), DOk d → d.Wait.length + ws.length ≤ 1000 → (∀ p ∈ ws, okP d.Last.length p) → DOk (wmany d ws).1
  | [], d, h, _, _ => h
  | p :: r, d, h, hl, hp => by
    rw [List.length_cons] at hl
    have h1 := wput_ok h (by omega) (hp p (List.mem_cons_self ..))
    rw [wmany]
    cases (wput d p).Down with
    | true => exact h1
    | false => exact wmany_ok r _ h1 (by rw [wput_wait]; simp; omega) (fun q hq => by rw [wput_last]; exact hp q (List.mem_cons_of_mem _ hq))
end Go.Proofs.YtddhfdbfackahaaDoor.N

set_option linter.unusedVariables false
set_option linter.unusedSimpArgs false
namespace Go.Proofs.YtddhfdbfackahaaDoor.N
open Go
structure Valid (home : Nat) (l : List TPut) : Prop where
  len : l.length ≤ 16
  each : ∀ p ∈ l, okP home p
  sorted : l.Pairwise fun p q => p.At < q.At
theorem may_ok (d : TDisk) (home : Nat) (l : List TPut) (hv : Valid home l) (hn : home + l.length < d.Last.length) (hN : d.Last.length ≤ 1000) : jrnl_may fuel d (home : Int) l = some true := by
  unfold jrnl_may jrnl_may_k jrnl_may_l0
  have hlen := hv.len
  obtain ⟨x, e, hx⟩ := iter_inv (step := jrnl_may_s0 (home : Int) l l (l.length : Int) d) (fun k v => ∃ i : Nat, v.2 = (i : Int) ∧ i + k = l.length ∧ ∀ p ∈ l.drop i, v.1 < p.At) (fun r => r = .inr ()) (fun k v hI => by
    obtain ⟨v1, v2⟩ := v
    obtain ⟨i, h1, hk, h2⟩ := hI
    simp only at h1 h2
    subst h1
    simp only [jrnl_may_s0, jrnl_may_s0k]
    by_cases hlt : i < l.length
    · have hdr : l.drop i = l[i] :: l.drop (i + 1) := List.drop_eq_getElem_cons hlt
      have hs := hv.sorted.sublist (List.drop_sublist i l)
      rw [hdr] at h2 hs
      obtain ⟨g0, g1, g2⟩ := hv.each _ (List.getElem_mem hlt)
      have g3 := h2 _ (List.mem_cons_self ..)
      rw [lt_dec hlt, inR_nat hlt, Int.toNat_natCast, List.getElem?_eq_getElem hlt]
      simp only [cond_true, some_bind]
      rw [decide_eq_false (show ¬ l[i].At ≤ v1 by omega), decide_eq_false (show ¬ l[i].At ≥ (home : Int) by omega), g2, wi64_succ (by omega)]
      exact ⟨_, rfl, k - 1, by omega, i + 1, rfl, by omega, fun p hp => List.rel_of_pairwise_cons hs hp⟩
    · obtain rfl : i = l.length := by omega
      rw [ge_dec]
      exact ⟨_, rfl, rfl⟩) l.length (-1, 0) fuel ⟨0, rfl, by omega, fun p hp => by have := (hv.each p hp).1; show (-1 : Int) < p.At; omega⟩ (fuel_gt (by omega))
  rw [e, hx, some_bind]
  simp only [alt_inr]
  rw [decide_eq_true (show (l.length : Int) ≤ 16 by omega), wi64_of (by omega) (by omega), decide_eq_true (show (home : Int) + (l.length : Int) < (d.Last.length : Int) by omega)]
  rfl
def headB (l : List TPut) : List UInt8 := 1 :: b8 (l.length : Int) :: (l.map (fun p => b8 p.At) ++ (List.replicate (29 - l.length) 0 ++ [1]))
theorem headB_len (l : List TPut) (h : l.length ≤ 16) : (headB l).length = 32 := by
  unfold headB
  simp only [List.length_cons, List.length_append, List.length_map, List.length_replicate, List.length_nil]
  omega
def headS (l : List TPut) (i : Nat) : List UInt8 := 1 :: b8 (l.length : Int) :: ((l.take i).map (fun p => b8 p.At) ++ (List.replicate (29 - i) 0 ++ [1]))
theorem headS_step (l : List TPut) (i : Nat) (h : i < l.length) (h16 : l.length ≤ 16) : (headS l i).set (2 + i) (b8 l[i].At) = headS l (i + 1) := by
  unfold headS
  rw [show 2 + i = i + 1 + 1 by omega, List.set_cons_succ, List.set_cons_succ]
  congr 2
  rw [List.set_append_right _ _ (by rw [List.length_map, List.length_take]; omega), List.length_map, List.length_take, show i - min i l.length = 0 by omega, show 29 - i = (29 - (i + 1)) + 1 by omega, List.replicate_succ, List.cons_append, List.set_cons_zero, List.take_add_one, List.getElem?_eq_getElem h, List.map_append, List.append_assoc]
  rfl
theorem head_ok (l : List TPut) (h16 : l.length ≤ 16) (hp : ∀ p ∈ l, 0 ≤ p.At ∧ p.At < 256) : jrnl_head fuel l = some (headB l) := by
  unfold jrnl_head jrnl_head_k
  have e0 : (([0, 0, 0, 0, 0, 0, 0, 0, 0, 0, 0, 0, 0, 0, 0, 0, 0, 0, 0, 0, 0, 0, 0, 0, 0, 0, 0, 0, 0, 0, 0, 0] : List Nat).set 0 1)[1]? = some 0 := rfl
  have e1 : ((([0, 0, 0, 0, 0, 0, 0, 0, 0, 0, 0, 0, 0, 0, 0, 0, 0, 0, 0, 0, 0, 0, 0, 0, 0, 0, 0, 0, 0, 0, 0, 0] : List UInt8).set 0 1).set 1 (b8 (wu8 (l.length : Int))))[31]? = some 0 := rfl
  have e2 : inR 1 (([0, 0, 0, 0, 0, 0, 0, 0, 0, 0, 0, 0, 0, 0, 0, 0, 0, 0, 0, 0, 0, 0, 0, 0, 0, 0, 0, 0, 0, 0, 0, 0] : List Nat).set 0 1).length = true := rfl
  have e3 : inR 31 ((([0, 0, 0, 0, 0, 0, 0, 0, 0, 0, 0, 0, 0, 0, 0, 0, 0, 0, 0, 0, 0, 0, 0, 0, 0, 0, 0, 0, 0, 0, 0, 0] : List UInt8).set 0 1).set 1 (b8 (wu8 (l.length : Int)))).length = true := rfl
  rw [e2, e0, e3, e1]
  simp only [cond_true, some_bind]
  have e4 : ((([0, 0, 0, 0, 0, 0, 0, 0, 0, 0, 0, 0, 0, 0, 0, 0, 0, 0, 0, 0, 0, 0, 0, 0, 0, 0, 0, 0, 0, 0, 0, 0] : List UInt8).set 0 1).set 1 (b8 (wu8 (l.length : Int)))).set 31 1 = headS l 0 := by
    rw [wu8_of (by omega) (by omega)]
    rfl
  rw [e4]
  unfold jrnl_head_l0
  obtain ⟨x, e, hx⟩ := iter_inv (step := jrnl_head_s0 l (l.length : Int)) (fun k v => ∃ i : Nat, v.1 = (i : Int) ∧ i + k = l.length ∧ v.2 = headS l i) (fun r => r = headB l) (fun k v hI => by
    obtain ⟨v1, v2⟩ := v
    obtain ⟨i, h1, hk, h2⟩ := hI
    simp only at h1 h2
    subst h1 h2
    simp only [jrnl_head_s0, jrnl_head_s0k]
    by_cases hlt : i < l.length
    · obtain ⟨g0, g1⟩ := hp _ (List.getElem_mem hlt)
      have hlen : 2 + i < (headS l i).length := by
        unfold headS
        simp only [List.length_cons, List.length_append, List.length_map, List.length_replicate, List.length_nil, List.length_take]
        omega
      rw [lt_dec hlt, inR_nat hlt, Int.toNat_natCast, List.getElem?_eq_getElem hlt]
      simp only [cond_true, some_bind]
      rw [wi64_of (show -9223372036854775808 ≤ 2 + (i : Int) by omega) (by omega), show 2 + (i : Int) = ((2 + i : Nat) : Int) by omega, inR_nat hlen, Int.toNat_natCast, List.getElem?_eq_getElem hlen]
      simp only [cond_true, some_bind]
      rw [wu8_of g0 g1, headS_step l i hlt h16, wi64_succ (by omega)]
      exact ⟨_, rfl, k - 1, by omega, i + 1, rfl, by omega, rfl⟩
    · obtain rfl : i = l.length := by omega
      rw [ge_dec]
      refine ⟨_, rfl, ?_⟩
      unfold headS headB
      rw [List.take_length]
      rfl) l.length (0, headS l 0) fuel ⟨0, rfl, by omega, rfl⟩ (fuel_gt (by omega))
  rw [e, hx]
  rfl
def copies : Nat → List TPut → List TPut
  | _, [] => []
  | n, p :: r => ⟨(n : Int), p.B⟩ :: copies (n + 1) r
theorem copies_len : ∀ (n : Nat) (l : List TPut), (copies n l).length = l.length
  | _, [] => rfl
  | n, p :: r => by rw [copies, List.length_cons, List.length_cons, copies_len]
theorem copies_at : ∀ (n : Nat) (l : List TPut) (q : TPut), q ∈ copies n l → ∃ p ∈ l, (n : Int) ≤ q.At ∧ q.At < ((n + l.length : Nat) : Int) ∧ q.B = p.B
  | _, [], _, h => by cases h
  | n, p :: r, q, h => by
    rw [copies] at h
    rcases List.mem_cons.1 h with rfl | h
    · exact ⟨p, List.mem_cons_self .., by show (n : Int) ≤ n; omega, by show (n : Int) < _; rw [List.length_cons]; omega, rfl⟩
    · obtain ⟨p', h1, h2, h3, h4⟩ := copies_at (n + 1) r q h
      exact ⟨p', List.mem_cons_of_mem _ h1, by omega, by rw [List.length_cons]; omega, h4⟩
theorem copy_loop (home : Nat) (l t : List TPut) (o : TDisk) (ok : Bool) (r4 : List (List UInt8)) (r5 : List TPut) (hh : home ≤ 1000) (hl : t.length ≤ 16) : ∀ (r : List TPut) (i : Nat) (d : TDisk) (x : TDisk) (n : Nat), t.drop i = r → i ≤ t.length → r.length < n → DOk d → d.Down = false → d.Wait.length + r.length < 1000 → (∀ p ∈ copies (home + 1 + i) r, okP d.Last.length p) →
    ∃ z, iter (jrnl_Commit_s0 (home : Int) l t (t.length : Int) o ok r4 r5) n ((i : Int), x, ⟨d⟩) = some z ∧ (((wmany d (copies (home + 1 + i) r)).2 = true ∧ ∃ y, z = .inr (y, ⟨(wmany d (copies (home + 1 + i) r)).1⟩)) ∨ ((wmany d (copies (home + 1 + i) r)).2 = false ∧ ∃ y u, z = .inl (y, ⟨(wmany d (copies (home + 1 + i) r)).1⟩, u)))
  | _, _, _, _, 0, _, _, h, _, _, _, _ => absurd h (Nat.not_lt_zero _)
  | [], i, d, x, n + 1, hdr, hi, _, hd, hdn, _, _ => by
    obtain rfl : i = t.length := Nat.le_antisymm hi (List.drop_eq_nil_iff.1 hdr)
    rw [iter_succ]
    simp only [jrnl_Commit_s0, jrnl_Commit_s0k, ge_dec, cond_false]
    exact ⟨_, rfl, .inl ⟨rfl, _, rfl⟩⟩
  | p :: r, i, d, x, n + 1, hdr, hi, hn, hd, hdn, hw, hp => by
    have hlt : i < t.length := by
      rcases Nat.lt_or_ge i t.length with h | h
      · exact h
      · rw [List.drop_eq_nil_iff.2 h] at hdr; cases hdr
    have hd2 : t.drop i = t[i] :: t.drop (i + 1) := List.drop_eq_getElem_cons hlt
    rw [hdr] at hd2
    obtain ⟨e1, e2⟩ := List.cons.inj hd2
    rw [iter_succ]
    simp only [jrnl_Commit_s0, jrnl_Commit_s0k]
    rw [List.length_cons] at hw hn
    have hpk := hp _ (by rw [copies]; exact List.mem_cons_self ..)
    rw [lt_dec hlt, inR_nat hlt, Int.toNat_natCast, List.getElem?_eq_getElem hlt, ← e1]
    simp only [cond_true, some_bind]
    rw [wi64_of (show -9223372036854775808 ≤ (home : Int) + 1 by omega) (by omega), wi64_of (show -9223372036854775808 ≤ (home : Int) + 1 + (i : Int) by omega) (by omega), show (home : Int) + 1 + (i : Int) = ((home + 1 + i : Nat) : Int) by omega, write2_ok d hd (by omega) hdn _ _ hpk, some_bind, copies, wmany]
    unfold wout
    cases hD : (wput d ⟨((home + 1 + i : Nat) : Int), p.B⟩).Down with
    | true => exact ⟨_, rfl, .inr ⟨rfl, _, _, rfl⟩⟩
    | false =>
      simp only [cond_false, alt_inl]
      rw [wi64_succ (by omega)]
      exact copy_loop home l t o ok r4 r5 hh hl r (i + 1) (wput d ⟨((home + 1 + i : Nat) : Int), p.B⟩) _ n e2.symm hlt (by omega) (wput_ok hd (by omega) hpk) hD (by rw [wput_wait]; simp; omega) (fun q hq => by rw [wput_last]; exact hp q (by rw [copies]; exact List.mem_cons_of_mem _ hq))
theorem put_loop2 (t : List TPut) (o : TDisk) (ok : Bool) (r4 : List (List UInt8)) (r5 : List TPut) (hl : t.length ≤ 16) : ∀ (r : List TPut) (i : Nat) (d : TDisk) (x : TDisk) (n : Nat), t.drop i = r → i ≤ t.length → r.length < n → DOk d → d.Down = false → d.Wait.length + r.length < 1000 → (∀ p ∈ r, okP d.Last.length p) →
    ∃ z, iter (jrnl_Commit_s1 t (t.length : Int) o ok r4 r5) n ((i : Int), x, ⟨d⟩) = some z ∧ (((wmany d r).2 = true ∧ ∃ y, z = .inr (y, ⟨(wmany d r).1⟩)) ∨ ((wmany d r).2 = false ∧ ∃ y u, z = .inl (y, ⟨(wmany d r).1⟩, u)))
  | _, _, _, _, 0, _, _, h, _, _, _, _ => absurd h (Nat.not_lt_zero _)
  | [], i, d, x, n + 1, hdr, hi, _, hd, hdn, _, _ => by
    obtain rfl : i = t.length := Nat.le_antisymm hi (List.drop_eq_nil_iff.1 hdr)
    rw [iter_succ]
    simp only [jrnl_Commit_s1, jrnl_Commit_s1k, ge_dec, cond_false]
    exact ⟨_, rfl, .inl ⟨rfl, _, rfl⟩⟩
  | p :: r, i, d, x, n + 1, hdr, hi, hn, hd, hdn, hw, hp => by
    have hlt : i < t.length := by
      rcases Nat.lt_or_ge i t.length with h | h
      · exact h
      · rw [List.drop_eq_nil_iff.2 h] at hdr; cases hdr
    have hd2 : t.drop i = t[i] :: t.drop (i + 1) := List.drop_eq_getElem_cons hlt
    rw [hdr] at hd2
    obtain ⟨e1, e2⟩ := List.cons.inj hd2
    rw [iter_succ]
    simp only [jrnl_Commit_s1, jrnl_Commit_s1k]
    rw [List.length_cons] at hw hn
    have hpk := hp p (List.mem_cons_self ..)
    rw [lt_dec hlt, inR_nat hlt, Int.toNat_natCast, List.getElem?_eq_getElem hlt, ← e1]
    simp only [cond_true, some_bind]
    rw [write2_ok d hd (by omega) hdn _ _ hpk, some_bind, wmany]
    unfold wout
    cases hD : (wput d p).Down with
    | true => exact ⟨_, rfl, .inr ⟨rfl, _, _, rfl⟩⟩
    | false =>
      simp only [cond_false, alt_inl]
      rw [wi64_succ (by omega)]
      exact put_loop2 t o ok r4 r5 hl r (i + 1) (wput d p) _ n e2.symm hlt (by omega) (wput_ok hd (by omega) hpk) hD (by rw [wput_wait]; simp; omega) (fun q hq => by rw [wput_last]; exact hp q (List.mem_cons_of_mem _ hq))
def rounds (d : TDisk) (home : Nat) (l : List TPut) : TDisk × Bool :=
  bif (wput d ⟨(home : Int), zeros⟩).Down then (wput d ⟨(home : Int), zeros⟩, false)
  else bif (wmany (flushed (wput d ⟨(home : Int), zeros⟩)) (copies (home + 1) l)).2 then
    (bif (wput (flushed (wmany (flushed (wput d ⟨(home : Int), zeros⟩)) (copies (home + 1) l)).1) ⟨(home : Int), headB l⟩).Down then (wput (flushed (wmany (flushed (wput d ⟨(home : Int), zeros⟩)) (copies (home + 1) l)).1) ⟨(home : Int), headB l⟩, false)
    else bif (wmany (flushed (wput (flushed (wmany (flushed (wput d ⟨(home : Int), zeros⟩)) (copies (home + 1) l)).1) ⟨(home : Int), headB l⟩)) l).2 then (flushed (wmany (flushed (wput (flushed (wmany (flushed (wput d ⟨(home : Int), zeros⟩)) (copies (home + 1) l)).1) ⟨(home : Int), headB l⟩)) l).1, true)
      else ((wmany (flushed (wput (flushed (wmany (flushed (wput d ⟨(home : Int), zeros⟩)) (copies (home + 1) l)).1) ⟨(home : Int), headB l⟩)) l).1, false))
  else ((wmany (flushed (wput d ⟨(home : Int), zeros⟩)) (copies (home + 1) l)).1, false)
theorem wmany_last : ∀ (ws : List TPut) (d : TDisk), (wmany d ws).1.Last = d.Last
  | [], d => rfl
  | p :: r, d => by
    rw [wmany]
    cases (wput d p).Down with
    | true => exact wput_last d p
    | false => rw [cond_false, wmany_last r, wput_last]
theorem flushed_len (d : TDisk) : (flushed d).Last.length = d.Last.length := wr_len d.Wait d.Last
theorem Commit_ok (d : TDisk) (hd : DOk d) (hdn : d.Down = false) (hW : d.Wait.length < 1000) (home : Nat) (l : List TPut) (hl : l ≠ []) (hv : Valid home l) (hn : home + l.length < d.Last.length) (hh : home ≤ 256) : jrnl_Commit fuel d (home : Int) l = some (rounds d home l) := by
  unfold jrnl_Commit jrnl_Commit_k rounds
  have h16 := hv.len
  have hlp : 0 < l.length := List.length_pos_iff.2 hl
  have hN := hd.len
  rw [show ((l.length : Int) == 0) = false from beq_ne (by omega), may_ok d home l hv hn hN]
  simp only [cond_false, some_bind, Bool.not_true]
  have hz : okP d.Last.length ⟨(home : Int), zeros⟩ := ⟨by show (0 : Int) ≤ home; omega, by show (home : Int) < _; omega, rfl⟩
  have w1 := write1_ok d hd hW hdn (home : Int) zeros hz
  have w1' : jrnl_writer_write (home : Int) [0, 0, 0, 0, 0, 0, 0, 0, 0, 0, 0, 0, 0, 0, 0, 0, 0, 0, 0, 0, 0, 0, 0, 0, 0, 0, 0, 0, 0, 0, 0, 0] ⟨d⟩ = _ := w1
  rw [w1', some_bind]
  have d1 := wput_ok hd hW hz
  have L1 := wput_last d ⟨(home : Int), zeros⟩
  generalize wput d ⟨(home : Int), zeros⟩ = a at d1 L1
  cases hD : a.Down with
  | true => rfl
  | false =>
    simp only [cond_false, alt_inl]
    rw [wflush_ok a d1 hD, some_bind]
    simp only [alt_inl]
    have d2 := flushed_ok d1
    have hD2 : (flushed a).Down = false := hD
    have N2 : (flushed a).Last.length = d.Last.length := by rw [flushed_len, L1]
    have W2 : (flushed a).Wait = [] := rfl
    generalize flushed a = b at d2 hD2 N2 W2
    have hcp : ∀ p ∈ copies (home + 1) l, okP b.Last.length p := by
      intro p hp
      obtain ⟨q, hq, h1, h2, h3⟩ := copies_at _ _ _ hp
      exact ⟨by omega, by rw [N2]; omega, by rw [h3]; exact (hv.each q hq).2.2⟩
    obtain ⟨z, e, hz⟩ := copy_loop home l l d false d.Last d.Wait (by omega) h16 l 0 b (TDisk.mk [] [] 0 false) fuel rfl (by omega) (fuel_gt (by omega)) d2 hD2 (by rw [W2]; simp; omega) hcp
    have e' : jrnl_Commit_l0 fuel (home : Int) l l (l.length : Int) d false d.Last d.Wait 0 (TDisk.mk [] [] 0 false) ⟨b⟩ = some z := e
    rw [e', some_bind]
    have d3 := wmany_ok (copies (home + 1) l) b d2 (by rw [W2, copies_len]; simp; omega) hcp
    have L3 := wmany_last (copies (home + 1) l) b
    rw [Nat.add_zero] at hz
    rcases wmany_down (copies (home + 1) l) b hD2 with ⟨g1, g2⟩ | ⟨g1, g2⟩
    rotate_left
    · rcases hz with ⟨h, _⟩ | ⟨_, y, u, rfl⟩
      · rw [g1] at h; cases h
      · rw [g1]; rfl
    · rcases hz with ⟨_, y, rfl⟩ | ⟨h, _⟩
      rotate_left
      · rw [g1] at h; cases h
      rw [g1]
      simp only [alt_inr, cond_true]
      generalize (wmany b (copies (home + 1) l)).1 = c at d3 L3 g2
      rw [wflush_ok c d3 g2, some_bind]
      simp only [alt_inl]
      have d4 := flushed_ok d3
      have hD4 : (flushed c).Down = false := g2
      have N4 : (flushed c).Last.length = d.Last.length := by rw [flushed_len, L3, N2]
      have W4 : (flushed c).Wait = [] := rfl
      generalize flushed c = q at d4 hD4 N4 W4
      have hq : okP q.Last.length ⟨(home : Int), headB l⟩ := ⟨by show (0 : Int) ≤ home; omega, by show (home : Int) < _; omega, headB_len l h16⟩
      rw [head_ok l h16 (fun p hp => by obtain ⟨h1, h2, _⟩ := hv.each p hp; exact ⟨h1, by omega⟩), some_bind, write2_ok q d4 (by rw [W4]; simp) hD4 _ _ hq, some_bind]
      have d5 := wput_ok d4 (by rw [W4]; simp) hq
      have L5 := wput_last q ⟨(home : Int), headB l⟩
      generalize wput q ⟨(home : Int), headB l⟩ = u at d5 L5
      unfold wout
      cases hDu : u.Down with
      | true => rfl
      | false =>
        simp only [cond_false, alt_inl]
        rw [wflush_ok u d5 hDu, some_bind]
        simp only [alt_inl]
        have d6 := flushed_ok d5
        have hD6 : (flushed u).Down = false := hDu
        have N6 : (flushed u).Last.length = d.Last.length := by rw [flushed_len, L5, N4]
        have W6 : (flushed u).Wait = [] := rfl
        generalize flushed u = v at d6 hD6 N6 W6
        have hlv : ∀ p ∈ l, okP v.Last.length p := by
          intro p hp
          obtain ⟨h1, h2, h3⟩ := hv.each p hp
          exact ⟨h1, by rw [N6]; omega, h3⟩
        obtain ⟨z2, e2, hz2⟩ := put_loop2 l d false d.Last d.Wait h16 l 0 v (TDisk.mk [] [] y.Arm y.Down) fuel rfl (by omega) (fuel_gt (by omega)) d6 hD6 (by rw [W6]; simp; omega) hlv
        have e2' : jrnl_Commit_l1 fuel l (l.length : Int) d false d.Last d.Wait 0 (TDisk.mk [] [] y.Arm y.Down) ⟨v⟩ = some z2 := e2
        rw [e2', some_bind]
        have d7 := wmany_ok l v d6 (by rw [W6]; simp; omega) hlv
        rcases wmany_down l v hD6 with ⟨k1, k2⟩ | ⟨k1, k2⟩
        · rcases hz2 with ⟨_, y2, rfl⟩ | ⟨h, _⟩
          · rw [k1]
            simp only [alt_inr, cond_true]
            rw [wflush_ok _ d7 k2]
            rfl
          · rw [k1] at h; cases h
        · rcases hz2 with ⟨h, _⟩ | ⟨_, y2, u2, rfl⟩
          · rw [k1] at h; cases h
          · rw [k1]; rfl
end Go.Proofs.YtddhfdbfackahaaDoor.N

set_option linter.unusedVariables false
set_option linter.unusedSimpArgs false
namespace Go.Proofs.YtddhfdbfackahaaDoor.N
open Go
theorem i8_ne {x : UInt8} (h : x ≠ 1) : (i8 x != 1) = true := by
  have : i8 x ≠ 1 := fun e => h (i8_inj (y := 1) e)
  simp [this]
theorem named_no (d : TDisk) (home : Int) (s : List UInt8) (hs : s.length = 32) (h : s[0]? ≠ some 1 ∨ s[31]? ≠ some 1) : jrnl_named fuel d home s = some ([], false) := by
  unfold jrnl_named jrnl_named_k
  have h0 : 0 < s.length := by omega
  have h31 : 31 < s.length := by omega
  rw [List.getElem?_eq_getElem h0, List.getElem?_eq_getElem h31] at h
  rw [inR_of (by omega) (by omega), List.getElem?_eq_getElem h0]
  simp only [cond_true, some_bind]
  by_cases a : s[0] = 1
  · rw [a, show (i8 1 != 1) = false from rfl, inR_of (by omega) (by omega), List.getElem?_eq_getElem h31]
    simp only [cond_false, cond_true, some_bind]
    have : s[31] ≠ 1 := by
      rcases h with h | h
      · exact absurd (by rw [a]) h
      · exact fun e => h (by rw [e])
    rw [i8_ne this]
    rfl
  · rw [i8_ne a]
    rfl
theorem trimR (k : Nat) (hk : k ≤ 1000) : strings_trimRightByte fuel (List.replicate k 0) 0 = some [] := by
  unfold strings_trimRightByte strings_trimRightByte_k strings_trimRightByte_l0
  obtain ⟨x, e, hx⟩ := iter_inv (step := strings_trimRightByte_s0 0) (fun j v => v = List.replicate j 0 ∧ j ≤ 1000) (fun r => r = []) (fun j v hI => by
    obtain ⟨rfl, hj⟩ := hI
    simp only [strings_trimRightByte_s0, strings_trimRightByte_s0k]
    rw [List.length_replicate]
    cases j with
    | zero => exact ⟨_, rfl, rfl⟩
    | succ j =>
      rw [decide_eq_true (show ((j + 1 : Nat) : Int) > 0 by omega), wi64_of (by omega) (by omega), show ((j + 1 : Nat) : Int) - 1 = (j : Int) by omega, inR_nat (by omega), Int.toNat_natCast, List.getElem?_replicate, if_pos (by omega), cutOk_of (by omega) (by omega) (by omega), cut_front]
      refine ⟨_, rfl, j, by omega, ?_, by omega⟩
      rw [List.take_replicate, Nat.min_eq_left (by omega)]) k (List.replicate k 0) fuel ⟨rfl, hk⟩ (fuel_gt (by omega))
  rw [e, hx]
  rfl
theorem trimL : strings_trimLeftByte fuel [] 0 = some [] := by
  unfold strings_trimLeftByte strings_trimLeftByte_k strings_trimLeftByte_l0
  rw [fuel_eq, iter_succ]
  rfl
theorem Trim_ok (k : Nat) (hk : k ≤ 1000) : strings_Trim fuel (List.replicate k 0) = some [] := by
  unfold strings_Trim strings_Trim_k
  cases k with
  | zero => rfl
  | succ k =>
    rw [beq_ne (show List.replicate (k + 1) (0 : UInt8) ≠ [] by simp), trimR _ hk]
    simp only [cond_false, some_bind]
    rw [trimL]
    rfl
theorem headB_0 (l : List TPut) : (headB l)[0]? = some 1 := rfl
theorem headB_1 (l : List TPut) : (headB l)[1]? = some (b8 (l.length : Int)) := rfl
theorem headB_31 (l : List TPut) (h : l.length ≤ 16) : (headB l)[31]? = some 1 := by
  have e : headB l = (1 :: b8 (l.length : Int) :: (l.map (fun p => b8 p.At) ++ List.replicate (29 - l.length) 0)) ++ [1] := by
    unfold headB; simp
  have hl : (1 :: b8 (l.length : Int) :: (l.map (fun p => b8 p.At) ++ List.replicate (29 - l.length) (0 : UInt8))).length = 31 := by
    simp only [List.length_cons, List.length_append, List.length_map, List.length_replicate]; omega
  rw [e, List.getElem?_append_right (by omega), hl]
  rfl
theorem headB_ats (l : List TPut) : ((headB l).drop 2).take l.length = l.map (fun p => b8 p.At) := by
  show (l.map (fun p : TPut => b8 p.At) ++ (List.replicate (29 - l.length) 0 ++ [1])).take l.length = _
  rw [List.take_append_of_le_length (by rw [List.length_map]; exact Nat.le_refl _), List.take_of_length_le (by rw [List.length_map]; exact Nat.le_refl _)]
theorem headB_rest (l : List TPut) (h : l.length ≤ 16) : ((headB l).drop (2 + l.length)).take (29 - l.length) = List.replicate (29 - l.length) 0 := by
  have : (headB l).drop (2 + l.length) = List.replicate (29 - l.length) 0 ++ [1] := by
    rw [← List.drop_drop]
    show (l.map (fun p : TPut => b8 p.At) ++ (List.replicate (29 - l.length) 0 ++ [1])).drop l.length = _
    rw [List.drop_append_of_le_length (by rw [List.length_map]; exact Nat.le_refl _), List.drop_of_length_le (by rw [List.length_map]; exact Nat.le_refl _)]
    rfl
  rw [this, List.take_append_of_le_length (by rw [List.length_replicate]; exact Nat.le_refl _), List.take_of_length_le (by rw [List.length_replicate]; exact Nat.le_refl _)]
theorem named_head (d : TDisk) (home : Nat) (l : List TPut) (hl : l ≠ []) (hv : Valid home l) (hn : home + l.length < d.Last.length) (hN : d.Last.length ≤ 1000) (hh : home ≤ 256) : jrnl_named fuel d (home : Int) (headB l) = some (l.map TPut.At, true) := by
  have h16 := hv.len
  have hlp : 0 < l.length := List.length_pos_iff.2 hl
  have hlen := headB_len l h16
  have hn0 : i8 (b8 (l.length : Int)) = (l.length : Int) := i8_b8 (by omega) (by omega)
  unfold jrnl_named jrnl_named_k
  rw [inR_of (by omega) (by omega), headB_0]
  simp only [cond_true, some_bind]
  rw [show (i8 1 != 1) = false from rfl, inR_of (by omega) (by omega), headB_31 l h16]
  simp only [cond_false, cond_true, some_bind]
  rw [show (i8 1 != 1) = false from rfl, inR_of (by omega) (by omega), headB_1]
  simp only [cond_false, cond_true, some_bind]
  rw [hn0, wi64_of (show -9223372036854775808 ≤ (l.length : Int) by omega) (by omega), decide_eq_false (show ¬ (l.length : Int) < 1 by omega), decide_eq_false (show ¬ (l.length : Int) > 16 by omega), wi64_of (show -9223372036854775808 ≤ (home : Int) + (l.length : Int) by omega) (by omega),
    decide_eq_false (show ¬ (home : Int) + (l.length : Int) ≥ (d.Last.length : Int) by omega), wi64_of (show -9223372036854775808 ≤ 2 + (l.length : Int) by omega) (by omega), show 2 + (l.length : Int) = ((2 + l.length : Nat) : Int) by omega, cutOk_of (by omega) (by omega) (by omega)]
  have hc := cut_mid (headB l) 2 l.length
  rw [show ((2 : Nat) : Int) = 2 from rfl, headB_ats] at hc
  rw [hc]
  simp only [cond_false, cond_true]
  unfold jrnl_named_l0
  rw [List.length_map]
  obtain ⟨x, e, hx⟩ := iter_inv (step := jrnl_named_s0 (home : Int) (headB l) (l.length : Int) (l.length : Int) d (l.map fun p => b8 p.At)) (fun k v => ∃ i : Nat, v.2.1 = (i : Int) ∧ i + k = l.length ∧ v.2.2 = (l.take i).map TPut.At ∧ ∀ p ∈ l.drop i, v.1 < p.At) (fun r => r = .inr (l.map TPut.At)) (fun k v hI => by
    obtain ⟨v1, v2, v3⟩ := v
    obtain ⟨i, h1, hk, h2, h3⟩ := hI
    simp only at h1 h2 h3
    subst h1 h2
    simp only [jrnl_named_s0, jrnl_named_s0k]
    by_cases hlt : i < l.length
    · have hdr : l.drop i = l[i] :: l.drop (i + 1) := List.drop_eq_getElem_cons hlt
      have hs := hv.sorted.sublist (List.drop_sublist i l)
      rw [hdr] at h3 hs
      obtain ⟨g0, g1, g2⟩ := hv.each _ (List.getElem_mem hlt)
      have g3 := h3 _ (List.mem_cons_self ..)
      have hlm : i < (l.map fun p => b8 p.At).length := by rw [List.length_map]; exact hlt
      rw [lt_dec hlt, inR_nat hlm, Int.toNat_natCast, List.getElem?_map, List.getElem?_eq_getElem hlt]
      simp only [cond_true, Option.map_some, some_bind]
      rw [i8_b8 g0 (by omega), wi64_of (show -9223372036854775808 ≤ l[i].At by omega) (by omega), decide_eq_false (show ¬ l[i].At ≤ v1 by omega), decide_eq_false (show ¬ l[i].At ≥ (home : Int) by omega), decide_eq_true (show ((l.take i).map TPut.At).length + 1 ≤ lim by rw [lim_eq]; simp; omega), wi64_succ (by omega)]
      refine ⟨_, rfl, k - 1, by omega, i + 1, rfl, by omega, ?_, fun p hp => List.rel_of_pairwise_cons hs hp⟩
      rw [List.take_add_one, List.getElem?_eq_getElem hlt, List.map_append]
      rfl
    · obtain rfl : i = l.length := by omega
      rw [ge_dec]
      exact ⟨_, rfl, by rw [List.take_length]; rfl⟩) l.length (-1, 0, []) fuel ⟨0, rfl, by omega, rfl, fun p hp => by have := (hv.each p hp).1; show (-1 : Int) < p.At; omega⟩ (fuel_gt (by omega))
  rw [e, hx, some_bind]
  simp only [alt_inr]
  have hc2 := cut_mid (headB l) (2 + l.length) (29 - l.length)
  rw [headB_rest l h16, show ((2 + l.length + (29 - l.length) : Nat) : Int) = 31 by omega] at hc2
  rw [cutOk_of (by omega) (by omega) (by omega), hc2, Trim_ok _ (by omega)]
  rfl
theorem Read_plain (d : TDisk) (hdn : d.Down = false) (i : Nat) (h : i < d.Last.length) (hw : ∀ q ∈ d.Wait, q.At ≠ (i : Int)) : disk_Read d (i : Int) = (d.Last.getD i [], true) := by
  unfold disk_Read
  rw [hdn, decide_eq_true (show (0 : Int) ≤ (i : Int) by omega), decide_eq_true (show (i : Int) < (d.Last.length : Int) by omega), findW_none hw]
  rfl
theorem read2_ok (d : TDisk) (hdn : d.Down = false) (i : Nat) (h : i < d.Last.length) (hw : ∀ q ∈ d.Wait, q.At ≠ (i : Int)) : jrnl_writer_read_2 (i : Int) ⟨d⟩ = some (.inl (d.Last.getD i [], ⟨d⟩)) := by
  unfold jrnl_writer_read_2 jrnl_writer_read_2_k
  simp only [Read_plain d hdn i h hw]
  rfl
theorem read1_ok (d : TDisk) (hdn : d.Down = false) (i : Nat) (h : i < d.Last.length) (hw : ∀ q ∈ d.Wait, q.At ≠ (i : Int)) : jrnl_writer_read (i : Int) ⟨d⟩ = some (.inl (d.Last.getD i [], ⟨d⟩, d.Last, d.Wait)) := by
  unfold jrnl_writer_read jrnl_writer_read_k
  simp only [Read_plain d hdn i h hw]
  rfl
def mends (L : List (List UInt8)) : Nat → List TPut → List TPut
  | _, [] => []
  | n, p :: r => ⟨p.At, L.getD n []⟩ :: mends L (n + 1) r
theorem mends_len (L : List (List UInt8)) : ∀ (n : Nat) (l : List TPut), (mends L n l).length = l.length
  | _, [] => rfl
  | n, p :: r => by rw [mends, List.length_cons, List.length_cons, mends_len]
theorem getD_len {L : List (List UInt8)} (h : ∀ x ∈ L, x.length = 32) {i : Nat} (hi : i < L.length) : (L.getD i []).length = 32 := by
  rw [List.getD_eq_getElem?_getD, List.getElem?_eq_getElem hi]
  exact h _ (List.getElem_mem hi)
theorem mend_loop (home : Nat) (l : List TPut) (o : TDisk) (ok : Bool) (r4 : List (List UInt8)) (r5 : List TPut) (hh : home ≤ 256) (hl : l.length ≤ 16) (L : List (List UInt8)) : ∀ (r : List TPut) (i : Nat) (d : TDisk) (x : TDisk) (n : Nat), l.drop i = r → i ≤ l.length → r.length < n → DOk d → d.Down = false → d.Last = L → d.Wait.length + r.length < 1000 → (∀ p ∈ r, okP home p) → home + l.length < L.length → (∀ p ∈ d.Wait, p.At < (home : Int)) →
    ∃ z, iter (jrnl_Mend_s0 (home : Int) (l.map TPut.At) ((l.map TPut.At).length : Int) o ok r4 r5) n ((i : Int), x, ⟨d⟩) = some z ∧ (((wmany d (mends L (home + 1 + i) r)).2 = true ∧ ∃ y, z = .inr (y, ⟨(wmany d (mends L (home + 1 + i) r)).1⟩)) ∨ ((wmany d (mends L (home + 1 + i) r)).2 = false ∧ ∃ y, z = .inl (y, ⟨(wmany d (mends L (home + 1 + i) r)).1⟩)))
  | _, _, _, _, 0, _, _, h, _, _, _, _, _, _, _ => absurd h (Nat.not_lt_zero _)
  | [], i, d, x, n + 1, hdr, hi, _, hd, hdn, _, _, _, _, _ => by
    obtain rfl : i = l.length := Nat.le_antisymm hi (List.drop_eq_nil_iff.1 hdr)
    rw [iter_succ]
    simp only [jrnl_Mend_s0, jrnl_Mend_s0k, List.length_map, ge_dec, cond_false]
    exact ⟨_, rfl, .inl ⟨rfl, _, rfl⟩⟩
  | p :: r, i, d, x, n + 1, hdr, hi, hn, hd, hdn, hL, hw, hp, hN, hat => by
    have hlt : i < l.length := by
      rcases Nat.lt_or_ge i l.length with h | h
      · exact h
      · rw [List.drop_eq_nil_iff.2 h] at hdr; cases hdr
    have hd2 : l.drop i = l[i] :: l.drop (i + 1) := List.drop_eq_getElem_cons hlt
    rw [hdr] at hd2
    obtain ⟨e1, e2⟩ := List.cons.inj hd2
    rw [List.length_cons] at hw hn
    obtain ⟨p0, p1, p2⟩ := hp p (List.mem_cons_self ..)
    have hin : home + 1 + i < d.Last.length := by rw [hL]; omega
    have hlm : i < (l.map TPut.At).length := by rw [List.length_map]; exact hlt
    have hpk : okP d.Last.length ⟨p.At, d.Last.getD (home + 1 + i) []⟩ := ⟨p0, by rw [hL]; show p.At < _; omega, getD_len hd.last hin⟩
    rw [iter_succ]
    simp only [jrnl_Mend_s0, jrnl_Mend_s0k]
    rw [lt_dec hlm, inR_nat hlm, Int.toNat_natCast, List.getElem?_map, List.getElem?_eq_getElem hlt, ← e1]
    simp only [cond_true, Option.map_some, some_bind]
    rw [wi64_of (show -9223372036854775808 ≤ (home : Int) + 1 by omega) (by omega), wi64_of (show -9223372036854775808 ≤ (home : Int) + 1 + (i : Int) by omega) (by omega), show (home : Int) + 1 + (i : Int) = ((home + 1 + i : Nat) : Int) by omega, read2_ok d hdn (home + 1 + i) hin (fun q hq => by have := hat q hq; omega), some_bind]
    simp only [alt_inl]
    rw [write2_ok d hd (by omega) hdn _ _ hpk, some_bind, mends, wmany, hL]
    rw [hL] at hpk
    unfold wout
    cases hD : (wput d ⟨p.At, L.getD (home + 1 + i) []⟩).Down with
    | true => exact ⟨_, rfl, .inr ⟨rfl, _, rfl⟩⟩
    | false =>
      simp only [cond_false, alt_inl]
      rw [wi64_succ (by omega)]
      exact mend_loop home l o ok r4 r5 hh hl L r (i + 1) (wput d ⟨p.At, L.getD (home + 1 + i) []⟩) _ n e2.symm hlt (by omega) (wput_ok hd (by omega) (by rw [hL]; exact hpk)) hD (by rw [wput_last]; exact hL) (by rw [wput_wait]; simp; omega) (fun q hq => hp q (List.mem_cons_of_mem _ hq)) hN (fun q hq => by
        rw [wput_wait] at hq
        rcases List.mem_append.1 hq with hq | hq
        · exact hat q hq
        · rw [List.mem_singleton.1 hq]; exact p1)
theorem mends_ok (L : List (List UInt8)) (home : Nat) (hL : ∀ x ∈ L, x.length = 32) : ∀ (n : Nat) (l : List TPut), (∀ p ∈ l, okP home p) → home ≤ L.length → n + l.length ≤ L.length → ∀ q ∈ mends L n l, okP L.length q
  | _, [], _, _, _, q, hq => by cases hq
  | n, p :: r, hp, hh, hn, q, hq => by
    rw [List.length_cons] at hn
    rw [mends] at hq
    rcases List.mem_cons.1 hq with rfl | hq
    · obtain ⟨a, b, c⟩ := hp p (List.mem_cons_self ..)
      exact ⟨a, by show p.At < _; omega, getD_len hL (by omega)⟩
    · exact mends_ok L home hL (n + 1) r (fun x hx => hp x (List.mem_cons_of_mem _ hx)) hh (by omega) q hq
theorem Mend_no (d : TDisk) (hd : DOk d) (hdn : d.Down = false) (hW : d.Wait = []) (home : Nat) (hh : home < d.Last.length) (h : (d.Last.getD home [])[0]? ≠ some 1 ∨ (d.Last.getD home [])[31]? ≠ some 1) : jrnl_Mend fuel d (home : Int) = some (d, false) := by
  unfold jrnl_Mend jrnl_Mend_k
  have hs := getD_len hd.last hh
  rw [read1_ok d hdn home hh (fun q hq => by rw [hW] at hq; cases hq), some_bind]
  simp only [alt_inl]
  rw [eq_int (show ((d.Last.getD home []).length : Int) = 32 by omega), named_no d _ _ hs h]
  rfl
theorem Mend_yes (d : TDisk) (hd : DOk d) (hdn : d.Down = false) (hW : d.Wait = []) (home : Nat) (hh : home ≤ 256) (l : List TPut) (hl : l ≠ []) (hv : Valid home l) (hn : home + l.length < d.Last.length) (h : d.Last.getD home [] = headB l) :
    jrnl_Mend fuel d (home : Int) = some (bif (wmany d (mends d.Last (home + 1) l)).2 then (flushed (wmany d (mends d.Last (home + 1) l)).1, true) else ((wmany d (mends d.Last (home + 1) l)).1, false)) := by
  unfold jrnl_Mend jrnl_Mend_k
  have h16 := hv.len
  rw [read1_ok d hdn home (by omega) (fun q hq => by rw [hW] at hq; cases hq), some_bind]
  simp only [alt_inl]
  rw [h, eq_int (show ((headB l).length : Int) = 32 by rw [headB_len l h16]; rfl), named_head d home l hl hv hn hd.len hh]
  simp only [cond_false, some_bind, Bool.not_true]
  obtain ⟨z, e, hz⟩ := mend_loop home l d false d.Last d.Wait hh h16 d.Last l 0 d (TDisk.mk [] [] 0 false) fuel rfl (by omega) (fuel_gt (by omega)) hd hdn rfl (by rw [hW]; simp; omega) hv.each hn (fun q hq => by rw [hW] at hq; cases hq)
  have e' : jrnl_Mend_l0 fuel (home : Int) (l.map TPut.At) ((l.map TPut.At).length : Int) d false d.Last d.Wait 0 (TDisk.mk [] [] 0 false) ⟨d⟩ = some z := e
  rw [e', some_bind]
  rw [Nat.add_zero] at hz
  have d2 := wmany_ok (mends d.Last (home + 1) l) d hd (by rw [hW, mends_len]; simp; omega) (mends_ok d.Last home hd.last (home + 1) l hv.each (by omega) (by omega))
  rcases wmany_down (mends d.Last (home + 1) l) d hdn with ⟨g1, g2⟩ | ⟨g1, g2⟩
  · rcases hz with ⟨_, y, rfl⟩ | ⟨h, _⟩
    · rw [g1]
      simp only [alt_inr, cond_true]
      rw [wflush_ok _ d2 g2]
      rfl
    · rw [g1] at h; cases h
  · rcases hz with ⟨h, _⟩ | ⟨_, y, rfl⟩
    · rw [g1] at h; cases h
    · rw [g1]; rfl
end Go.Proofs.YtddhfdbfackahaaDoor.N

set_option linter.unusedVariables false
set_option linter.unusedSimpArgs false
namespace Go.Proofs.YtddhfdbfackahaaDoor.N
open Go
def tear (L : List (List UInt8)) (p : TPut) (n : Nat) : List (List UInt8) := L.set p.At.toNat (p.B.take n ++ (L.getD p.At.toNat []).drop n)
def clampK : Option Int → Nat
  | some k => (min (max k 0) 32).toNat
  | none => 0
def crashL (L : List (List UInt8)) : List TPut → List Int → List (List UInt8)
  | [], _ => L
  | p :: r, ks => crashL (tear L p (clampK ks.head?)) r ks.tail
theorem clampK_le (o : Option Int) : clampK o ≤ 32 := by
  cases o with
  | none => exact Nat.zero_le _
  | some k => show (min (max k 0) 32).toNat ≤ 32; omega
theorem tear_len (L : List (List UInt8)) (p : TPut) (n : Nat) : (tear L p n).length = L.length := List.length_set
theorem crash_len : ∀ (ws : List TPut) (L : List (List UInt8)) (ks : List Int), (crashL L ws ks).length = L.length
  | [], L, ks => rfl
  | p :: r, L, ks => by rw [crashL, crash_len r, tear_len]
theorem rRead_ok (d : TDisk) (hdn : d.Down = false) (hW : d.Wait = []) (i : Nat) (h : i < d.Last.length) : ref5_Read fuel d (i : Int) = some (d.Last.getD i [], true) := by
  unfold ref5_Read ref5_Read_k
  have hi : ref5_is d (i : Int) = true := by
    unfold ref5_is ref5_is_k
    rw [hdn, decide_eq_true (show (i : Int) ≥ 0 by omega), decide_eq_true (show (i : Int) < (d.Last.length : Int) by omega)]
    rfl
  rw [hi, inR_nat h, Int.toNat_natCast, List.getElem?_eq_getElem h]
  simp only [Bool.not_true, cond_false, cond_true, some_bind]
  have hl : ref5_Read_l0 fuel (i : Int) d d.Last[i] 0 = some d.Last[i] := by
    unfold ref5_Read_l0
    rw [fuel_eq, iter_succ]
    simp only [ref5_Read_s0, ref5_Read_s0k, hW]
    rfl
  rw [hl, List.getD_eq_getElem?_getD, List.getElem?_eq_getElem h]
  rfl
theorem New_ok (n : Nat) (hn : n ≤ 64) : ref5_New fuel (n : Int) = some ⟨List.replicate n zeros, [], 0, false⟩ := by
  unfold ref5_New ref5_New_k ref5_New_l0
  obtain ⟨x, e, hx⟩ := iter_inv (step := ref5_New_s0 (n : Int)) (fun k v => ∃ i : Nat, v.1 = (i : Int) ∧ i + k = n ∧ v.2.2 = ⟨List.replicate i zeros, [], 0, false⟩) (fun r => r.2 = ⟨List.replicate n zeros, [], 0, false⟩) (fun k v hI => by
    obtain ⟨v1, v2, v3⟩ := v
    obtain ⟨i, h1, hk, h2⟩ := hI
    simp only at h1 h2
    subst h1 h2
    simp only [ref5_New_s0, ref5_New_s0k]
    by_cases hlt : i < n
    · rw [lt_dec hlt, decide_eq_true (show (n : Int) ≤ 64 by omega), decide_eq_true (show (List.replicate i zeros).length + 1 ≤ lim by rw [lim_eq, List.length_replicate]; omega), wi64_succ (by omega)]
      refine ⟨_, rfl, k - 1, by omega, i + 1, rfl, by omega, ?_⟩
      rw [List.replicate_succ']
      rfl
    · obtain rfl : i = n := by omega
      rw [ge_dec]
      exact ⟨_, rfl, rfl⟩) n (0, TDisk.mk [] [] 0 false, TDisk.mk [] [] 0 false) fuel ⟨0, rfl, by omega, rfl⟩ (fuel_gt (by omega))
  rw [e, some_bind, hx]
def secB (n : UInt8) (i : Nat) : UInt8 := b8 (wu8 (i8 n * 5 + (i : Int) * (i : Int)))
def sector (n : UInt8) : List UInt8 := (List.range 32).map (secB n)
theorem sector_len (n : UInt8) : (sector n).length = 32 := by unfold sector; rw [List.length_map, List.length_range]
theorem sector_ok (n : UInt8) : law6_sector fuel n = some (sector n) := by
  unfold law6_sector law6_sector_k law6_sector_l0
  have x0 := i8_lo n
  have x1 := i8_hi n
  obtain ⟨x, e, hx⟩ := iter_inv (step := law6_sector_s0 n) (fun k v => ∃ i : Nat, v.1 = (i : Int) ∧ i + k = 32 ∧ v.2 = (List.range i).map (secB n) ++ List.replicate (32 - i) 0) (fun r => r = sector n) (fun k v hI => by
    obtain ⟨v1, v2⟩ := v
    obtain ⟨i, h1, hk, h2⟩ := hI
    simp only at h1 h2
    subst h1 h2
    simp only [law6_sector_s0, law6_sector_s0k]
    have hlen : ((List.range i).map (secB n) ++ List.replicate (32 - i) (0 : UInt8)).length = 32 := by
      rw [List.length_append, List.length_map, List.length_range, List.length_replicate]; omega
    by_cases hlt : i < 32
    · have hii : (i : Int) * (i : Int) ≤ 31 * 31 := Int.mul_le_mul (by omega) (by omega) (by omega) (by omega)
      have hi0 : 0 ≤ (i : Int) * (i : Int) := Int.mul_nonneg (by omega) (by omega)
      rw [hlen, decide_eq_true (show (i : Int) < ((32 : Nat) : Int) by omega), inR_nat hlt, Int.toNat_natCast, List.getElem?_eq_getElem (show i < ((List.range i).map (secB n) ++ List.replicate (32 - i) (0 : UInt8)).length by rw [hlen]; exact hlt)]
      simp only [cond_true, some_bind]
      rw [wi64_of (show -9223372036854775808 ≤ i8 n by omega) (by omega), wi64_of (show -9223372036854775808 ≤ i8 n * 5 by omega) (by omega), wi64_of (show -9223372036854775808 ≤ (i : Int) * (i : Int) by omega) (by omega), wi64_of (show -9223372036854775808 ≤ i8 n * 5 + (i : Int) * (i : Int) by omega) (by omega), wi64_succ (by omega)]
      refine ⟨_, rfl, k - 1, by omega, i + 1, rfl, by omega, ?_⟩
      show List.set _ i _ = _
      rw [List.set_append_right _ _ (by rw [List.length_map, List.length_range]; exact Nat.le_refl _), List.length_map, List.length_range, Nat.sub_self, show 32 - i = (32 - (i + 1)) + 1 by omega, List.replicate_succ, List.set_cons_zero, List.range_succ, List.map_append, List.append_assoc]
      rfl
    · obtain rfl : i = 32 := by omega
      rw [hlen]
      exact ⟨_, rfl, by show _ = sector n; unfold sector; simp⟩) 32 (0, zeros) fuel ⟨0, rfl, rfl, rfl⟩ (fuel_gt (by omega))
  have e' : iter (law6_sector_s0 n) fuel (0, [0, 0, 0, 0, 0, 0, 0, 0, 0, 0, 0, 0, 0, 0, 0, 0, 0, 0, 0, 0, 0, 0, 0, 0, 0, 0, 0, 0, 0, 0, 0, 0]) = some x := e
  rw [e', some_bind, hx]
def putsFrom (n : Nat) : List UInt8 → List TPut
  | [] => []
  | x :: r => bif decide (i8 (b8 ((i8 x).tmod 3)) > 0) then ⟨(n : Int), sector x⟩ :: putsFrom (n + 1) r else putsFrom (n + 1) r
theorem puts_at : ∀ (l : List UInt8) (n : Nat) (p : TPut), p ∈ putsFrom n l → (n : Int) ≤ p.At ∧ p.At < ((n + l.length : Nat) : Int) ∧ ∃ x, p.B = sector x
  | [], _, _, h => by cases h
  | x :: r, n, p, h => by
    rw [putsFrom] at h
    rw [List.length_cons]
    cases hc : decide (i8 (b8 ((i8 x).tmod 3)) > 0) with
    | true =>
      rw [hc, cond_true] at h
      rcases List.mem_cons.1 h with rfl | h
      · exact ⟨by show (n : Int) ≤ n; omega, by show (n : Int) < _; omega, x, rfl⟩
      · obtain ⟨a, b, c⟩ := puts_at r (n + 1) p h
        exact ⟨by omega, by omega, c⟩
    | false =>
      rw [hc, cond_false] at h
      obtain ⟨a, b, c⟩ := puts_at r (n + 1) p h
      exact ⟨by omega, by omega, c⟩
theorem puts_sorted : ∀ (l : List UInt8) (n : Nat), (putsFrom n l).Pairwise fun p q => p.At < q.At
  | [], _ => .nil
  | x :: r, n => by
    rw [putsFrom]
    cases decide (i8 (b8 ((i8 x).tmod 3)) > 0) with
    | true =>
      refine .cons (fun q hq => ?_) (puts_sorted r (n + 1))
      have := (puts_at r (n + 1) q hq).1
      show (n : Int) < q.At
      omega
    | false => exact puts_sorted r (n + 1)
theorem puts_len : ∀ (l : List UInt8) (n : Nat), (putsFrom n l).length ≤ l.length
  | [], _ => Nat.le_refl _
  | x :: r, n => by
    rw [putsFrom]
    have := puts_len r (n + 1)
    cases decide (i8 (b8 ((i8 x).tmod 3)) > 0) with
    | true => rw [cond_true, List.length_cons, List.length_cons]; omega
    | false => rw [cond_false, List.length_cons]; omega
theorem puts_valid (l : List UInt8) (h : l.length = 8) : Valid 8 (putsFrom 0 l) := by
  refine ⟨by have := puts_len l 0; omega, fun p hp => ?_, puts_sorted l 0⟩
  obtain ⟨a, b, x, e⟩ := puts_at l 0 p hp
  exact ⟨by omega, by omega, by rw [e]; exact sector_len x⟩
theorem puts_ok (l : List UInt8) (h : l.length = 8) : law6_puts fuel l 8 = some (putsFrom 0 l) := by
  unfold law6_puts law6_puts_k law6_puts_l0
  obtain ⟨x, e, hx⟩ := iter_inv (step := law6_puts_s0 fuel l 8) (fun k v => ∃ i : Nat, v.1 = (i : Int) ∧ i + k = 8 ∧ v.2.length ≤ i ∧ v.2 ++ putsFrom i (l.drop i) = putsFrom 0 l) (fun r => r = putsFrom 0 l) (fun k v hI => by
    obtain ⟨v1, v2⟩ := v
    obtain ⟨i, h1, hk, hle, h2⟩ := hI
    simp only at h1 hle h2
    subst h1
    simp only [law6_puts_s0, law6_puts_s0k]
    by_cases hlt : i < 8
    · have hl2 : i < l.length := by omega
      rw [List.drop_eq_getElem_cons hl2, putsFrom] at h2
      rw [decide_eq_true (show (i : Int) < 8 by omega), lt_dec hl2, inR_nat hl2, Int.toNat_natCast, List.getElem?_eq_getElem hl2]
      simp only [cond_true, some_bind]
      cases hc : decide (i8 (b8 ((i8 l[i]).tmod 3)) > 0) with
      | true =>
        rw [hc, cond_true] at h2
        simp only [cond_true, sector_ok, some_bind]
        rw [decide_eq_true (show v2.length + 1 ≤ lim by rw [lim_eq]; omega), wi64_succ (by omega)]
        refine ⟨_, rfl, k - 1, by omega, i + 1, rfl, by omega, by simp; omega, ?_⟩
        show v2 ++ [_] ++ _ = _
        rw [List.append_assoc]
        exact h2
      | false =>
        rw [hc, cond_false] at h2
        simp only [cond_false]
        rw [wi64_succ (by omega)]
        exact ⟨_, rfl, k - 1, by omega, i + 1, rfl, by omega, by show v2.length ≤ i + 1; omega, h2⟩
    · obtain rfl : i = 8 := by omega
      rw [List.drop_eq_nil_iff.2 (by omega)] at h2
      exact ⟨_, rfl, by rw [← h2]; simp [putsFrom]⟩) 8 (0, []) fuel ⟨0, rfl, rfl, Nat.le_refl _, rfl⟩ (fuel_gt (by omega))
  rw [e, some_bind, hx]
end Go.Proofs.YtddhfdbfackahaaDoor.N

/- The seat's functions, and the nice ones (3). Loops and whole numbers of the nice functions. Plain words for this seat (1). Plain words for this seat (2). Plain words for this seat (3). Plain words for this seat (4). Plain words for this seat (5). Plain words for this seat (6). Plain words for this seat (7). Plain words for this seat (8). Plain words for this seat (9). Plain words for this seat (11). -/
import Derived.Test.YtinbnobanikfmaaGreatDoorSeat5
import Derived.Test.YtinbnobanikfmaaGreatDoorBase5
import Derived.Laws.BitsLemmas
import Derived.Test.YtinbnobanikfmaaGreatDoorSeat2
set_option linter.unusedVariables false
set_option maxRecDepth 100000
namespace Go.Proofs.YtinbnobanikfmaaGreatDoor.S
open Go Go.Proofs.YtinbnobanikfmaaGreatDoor.D
noncomputable def S64 : List (Nat × D.Spec E) := []
theorem S64_ok : AllS Tryz.prog E S64 := trivial
noncomputable def L64 : Nat → LoopInfo E := clL E 26 [] []
noncomputable def B64 : List (DVal E.T) → St E.T → Tree (Res E.T × St E.T) := dbody E (lookS S64) (lookD []) L64 0 false Tryz.f64
theorem B64_ok : FnOk Tryz.prog E 64 B64 := bodyC_ok sound mix S64_ok (SD := []) trivial (L := L64) (N := 0) (keep := false) Tryz.func64 rfl (by
  intro k g hg fr st out ho
  match k, hg with
  | _, hg => cases hg)
theorem F64 (w : N.TWrite) : (B64 [.val (.named 7) w] []).get = N.ref7_MayWrite_k (fun x_ => some (.ret [.val .bool x_], [])) w := by kernel_rfl
noncomputable def i64 : Ins E (Res E.T × St E.T) := ⟨[.v (.named 7)], [], fun w => .ret (.ret [.val .bool (N.ref7_MayWrite w)], [])⟩
theorem i64_ok : InsOk Tryz.prog 64 i64 := ⟨B64, B64_ok, by intro w out_ h_; exact ((F64 w).trans (N.ref7_MayWrite_bind _ w)).trans h_⟩
noncomputable def P64 : Nat × D.Spec E := (64, .pure [(.named 7)] (pureF [i64]))
theorem p64 : SpecOk Tryz.prog E P64.1 P64.2 := pureI_ok Tryz.call64 ⟨i64_ok, trivial⟩
noncomputable def S103 : List (Nat × D.Spec E) := [P64]
theorem S103_ok : AllS Tryz.prog E S103 := ⟨p64, trivial⟩
abbrev h103_s0 (i : Int) (w : N.TWrite) (b : List UInt8) : Fr E.T := ofSlots E 42 [] [3, 5, 6] [.ptr 0 [], .own 1, .val (.int .i64) i]
abbrev t103_s0 (i : Int) (w : N.TWrite) (b : List UInt8) : St E.T := [.box false (.val (.named 7) w), .arr .live (.int .u8) b]
def x103_s0 (i : Int) (w : N.TWrite) (x_ : List UInt8) : Tree (CodeOut E) := .ret (.exit 2, ofSlots E 42 [] [3, 4, 5, 6] [.ptr 0 [], .undef, .own 1, .val (.int .i64) i], [.box false (.val (.named 7) w), .arr .live (.int .u8) x_])
noncomputable def g103_s0 : Ins E (CodeOut E) := ⟨[.ptr 0 [], .own 1, .v (.int .i64)], [.box false (.v (.named 7)), .arr .live (.int .u8)], fun i w b => .opt (N.ref7_PutWrite_l0 N.fuel i w b) (x103_s0 i w)⟩
abbrev h103_s1 (w : N.TWrite) (i : Int) (b : List UInt8) : Fr E.T := ofSlots E 42 [] [3, 5, 6] [.ptr 0 [], .own 1, .val (.int .i64) i]
abbrev t103_s1 (w : N.TWrite) (i : Int) (b : List UInt8) : St E.T := [.box false (.val (.named 7) w), .arr .live (.int .u8) b]
def x103_s1 (w : N.TWrite) (x_ : List UInt8) : Tree (CodeOut E) := .ret (.exit 0, ofSlots E 42 [] [4, 5] [.undef, .own 1], [.box false (.val (.named 7) w), .arr .live (.int .u8) x_])
noncomputable def g103_s1 : Ins E (CodeOut E) := ⟨[.ptr 0 [], .own 1, .v (.int .i64)], [.box false (.v (.named 7)), .arr .live (.int .u8)], fun i w b => .opt (N.ref7_PutWrite_l1 N.fuel w i b) (x103_s1 w)⟩
noncomputable def L103 : Nat → LoopInfo E := clL E 42 [{ ks := [3, 5, 6], mvs := [], pro := [], d := [], g := some (insF [g103_s1]) }, { ks := [3, 5, 6], mvs := [], pro := [], d := [], g := some (insF [g103_s0]) }] []
theorem f103_s0 (i : Int) (w : N.TWrite) (b : List UInt8) : ((stepOf E S103 L103 0 1 Tryz.f103 (h103_s0 i w b) (t103_s0 i w b)).bind (nx E [3, 5, 6] [] [3, 4, 5, 6] 2)).get = N.ref7_PutWrite_s0k i w (fun v_ => some (.inl (h103_s0 i w v_, t103_s0 i w v_))) (fun x_ => some (.inr (.exit 2, ofSlots E 42 [] [3, 4, 5, 6] [.ptr 0 [], .undef, .own 1, .val (.int .i64) i], [.box false (.val (.named 7) w), .arr .live (.int .u8) x_]))) b := by kernel_rfl
theorem q103_s0 : InsLp 42 [3, 5, 6] [] [] (stepOf E S103 L103 0 1 Tryz.f103) g103_s0 := by
  intro i w b out_ ho_
  obtain ⟨x_, h1_, h2_⟩ := Option.bind_eq_some_iff.1 ho_
  refine iter_loop (rs := [3, 4, 5, 6]) (step := N.ref7_PutWrite_s0 i w) (hd := fun v_ => h103_s0 i w v_) (sv := fun v_ => t103_s0 i w v_) (ex := x103_s0 i w) (fun v_ => ?_) N.fuel b h1_ h2_
  refine (f103_s0 i w v_).trans ((N.ref7_PutWrite_s0_bind i w _ _ v_).trans ?_)
  refine congrArg _ (funext fun s_ => ?_)
  rcases s_ with v_ | a <;> rfl
theorem f103_s1 (w : N.TWrite) (i : Int) (b : List UInt8) : ((stepOf E S103 L103 0 0 Tryz.f103 (h103_s1 w i b) (t103_s1 w i b)).bind (nx E [3, 5, 6] [] [4, 5] 2)).get = N.ref7_PutWrite_s1k N.fuel w (fun v_ => some (.inl (h103_s1 w v_.1 v_.2, t103_s1 w v_.1 v_.2))) (fun x_ => some (.inr (.exit 0, ofSlots E 42 [] [4, 5] [.undef, .own 1], [.box false (.val (.named 7) w), .arr .live (.int .u8) x_]))) i b := by kernel_rfl
theorem q103_s1 : InsLp 42 [3, 5, 6] [] [] (stepOf E S103 L103 0 0 Tryz.f103) g103_s1 := by
  intro i w b out_ ho_
  obtain ⟨x_, h1_, h2_⟩ := Option.bind_eq_some_iff.1 ho_
  refine iter_loop (rs := [4, 5]) (step := N.ref7_PutWrite_s1 N.fuel w) (hd := fun v_ => h103_s1 w v_.1 v_.2) (sv := fun v_ => t103_s1 w v_.1 v_.2) (ex := x103_s1 w) (fun v_ => ?_) N.fuel (i, b) h1_ h2_
  refine (f103_s1 w v_.1 v_.2).trans ((N.ref7_PutWrite_s1_bind N.fuel w _ _ v_.1 v_.2).trans ?_)
  refine congrArg _ (funext fun s_ => ?_)
  rcases s_ with v_ | a <;> rfl
noncomputable def B103 : List (DVal E.T) → St E.T → Tree (Res E.T × St E.T) := dbody E (lookS S103) (lookD []) L103 0 false Tryz.f103
theorem B103_ok : FnOk Tryz.prog E 103 B103 := bodyC_ok sound mix S103_ok (SD := []) trivial (L := L103) (N := 0) (keep := false) Tryz.func103 rfl (by
  intro k g hg fr st out ho
  match k, hg with
  | 0, hg => cases hg; exact lp_ok (allLp_cons q103_s1 (allLp_nil)) fr st out ho
  | 1, hg => cases hg; exact lp_ok (allLp_cons q103_s0 (allLp_nil)) fr st out ho
  | _ + 2, hg => cases hg)
theorem F103 (body : List UInt8) (w : N.TWrite) : (B103 [.val .str body, .val (.named 7) w] []).get = N.ref7_PutWrite_k N.fuel (fun x_ => some (.ret [.val .str x_], [])) body w := by kernel_rfl
noncomputable def i103 : Ins E (Res E.T × St E.T) := ⟨[.v .str, .v (.named 7)], [], fun body w => .opt (N.ref7_PutWrite N.fuel body w) fun x_ => .ret (.ret [.val .str x_], [])⟩
theorem i103_ok : InsOk Tryz.prog 103 i103 := ⟨B103, B103_ok, by intro body w out_ h_; exact ((F103 body w).trans (N.ref7_PutWrite_bind N.fuel _ body w)).trans h_⟩
noncomputable def P103 : Nat × D.Spec E := (103, .pure [.str, (.named 7)] (pureF [i103]))
theorem p103 : SpecOk Tryz.prog E P103.1 P103.2 := pureI_ok Tryz.call103 ⟨i103_ok, trivial⟩
noncomputable def S65 : List (Nat × D.Spec E) := [P103]
theorem S65_ok : AllS Tryz.prog E S65 := ⟨p103, trivial⟩
abbrev h65_s0 (l : List N.TWrite) (body : List UInt8) (i : Int) : Fr E.T := ofSlots E 19 [] [0, 1, 5] [.val .str body, .val (.slice (.named 7)) l, .val (.int .i64) i]
abbrev t65_s0 (l : List N.TWrite) (body : List UInt8) (i : Int) : St E.T := []
def x65_s0 (l : List N.TWrite) (x_ : List UInt8) : Tree (CodeOut E) := .ret (.exit 0, ofSlots E 19 [] [0, 4] [.val .str x_, .undef], [])
noncomputable def g65_s0 : Ins E (CodeOut E) := ⟨[.v .str, .v (.slice (.named 7)), .v (.int .i64)], [], fun body l i => .opt (N.ref7_All_l0 N.fuel l body i) (x65_s0 l)⟩
noncomputable def L65 : Nat → LoopInfo E := clL E 19 [{ ks := [0, 1, 5], mvs := [], pro := [], d := [], g := some (insF [g65_s0]) }] []
theorem f65_s0 (l : List N.TWrite) (body : List UInt8) (i : Int) : ((stepOf E S65 L65 0 0 Tryz.f65 (h65_s0 l body i) (t65_s0 l body i)).bind (nx E [0, 1, 5] [] [0, 4] 0)).get = N.ref7_All_s0k N.fuel l (fun v_ => some (.inl (h65_s0 l v_.1 v_.2, t65_s0 l v_.1 v_.2))) (fun x_ => some (.inr (.exit 0, ofSlots E 19 [] [0, 4] [.val .str x_, .undef], []))) body i := by kernel_rfl
theorem q65_s0 : InsLp 19 [0, 1, 5] [] [] (stepOf E S65 L65 0 0 Tryz.f65) g65_s0 := by
  intro body l i out_ ho_
  obtain ⟨x_, h1_, h2_⟩ := Option.bind_eq_some_iff.1 ho_
  refine iter_loop (rs := [0, 4]) (step := N.ref7_All_s0 N.fuel l) (hd := fun v_ => h65_s0 l v_.1 v_.2) (sv := fun v_ => t65_s0 l v_.1 v_.2) (ex := x65_s0 l) (fun v_ => ?_) N.fuel (body, i) h1_ h2_
  refine (f65_s0 l v_.1 v_.2).trans ((N.ref7_All_s0_bind N.fuel l _ _ v_.1 v_.2).trans ?_)
  refine congrArg _ (funext fun s_ => ?_)
  rcases s_ with v_ | a <;> rfl
noncomputable def B65 : List (DVal E.T) → St E.T → Tree (Res E.T × St E.T) := dbody E (lookS S65) (lookD []) L65 0 false Tryz.f65
theorem B65_ok : FnOk Tryz.prog E 65 B65 := bodyC_ok sound mix S65_ok (SD := []) trivial (L := L65) (N := 0) (keep := false) Tryz.func65 rfl (by
  intro k g hg fr st out ho
  match k, hg with
  | 0, hg => cases hg; exact lp_ok (allLp_cons q65_s0 (allLp_nil)) fr st out ho
  | _ + 1, hg => cases hg)
theorem F65 (body : List UInt8) (l : List N.TWrite) : (B65 [.val .str body, .val (.slice (.named 7)) l] []).get = N.ref7_All_k N.fuel (fun x_ => some (.ret [.val .str x_], [])) body l := by kernel_rfl
noncomputable def i65 : Ins E (Res E.T × St E.T) := ⟨[.v .str, .v (.slice (.named 7))], [], fun body l => .opt (N.ref7_All N.fuel body l) fun x_ => .ret (.ret [.val .str x_], [])⟩
theorem i65_ok : InsOk Tryz.prog 65 i65 := ⟨B65, B65_ok, by intro body l out_ h_; exact ((F65 body l).trans (N.ref7_All_bind N.fuel _ body l)).trans h_⟩
noncomputable def P65 : Nat × D.Spec E := (65, .pure [.str, (.slice (.named 7))] (pureF [i65]))
theorem p65 : SpecOk Tryz.prog E P65.1 P65.2 := pureI_ok Tryz.call65 ⟨i65_ok, trivial⟩
noncomputable def S30 : List (Nat × D.Spec E) := [P45, P63, P64, P65]
theorem S30_ok : AllS Tryz.prog E S30 := ⟨p45, p63, p64, p65, trivial⟩
abbrev h30_s0 (client : Int) (file : Int) (l : List N.TWrite) (s : N.TState) (o2 : N.TMark) (m : N.TMark) (ok : Bool) (i : Int) (o1 : N.TState) : Fr E.T := ofSlots E 91 [] [1, 3, 4, 5, 10, 11, 12, 13, 14] [.val (.int .i64) client, .val (.int .i64) file, .val (.slice (.named 7)) l, .ptr 0 [], .ptr 1 [], .ptr 2 [], .ptr 3 [], .val .bool ok, .val (.int .i64) i]
abbrev t30_s0 (client : Int) (file : Int) (l : List N.TWrite) (s : N.TState) (o2 : N.TMark) (m : N.TMark) (ok : Bool) (i : Int) (o1 : N.TState) : St E.T := [.box false (.val (.named 4) s), .box false (.agg 4 [.nils, .nils, .val (.int .i64) o1.Epoch]), .box false (.val (.named 3) o2), .box false (.val (.named 3) m)]
def x30_s0 (client : Int) (file : Int) (l : List N.TWrite) (s : N.TState) (o2 : N.TMark) (m : N.TMark) (x_ : Bool × N.TState) : Tree (CodeOut E) := .ret (.exit 0, ofSlots E 91 [] [1, 3, 4, 5, 10, 11, 12, 13] [.val (.int .i64) client, .val (.int .i64) file, .val (.slice (.named 7)) l, .ptr 0 [], .ptr 1 [], .ptr 2 [], .ptr 3 [], .val .bool x_.1], [.box false (.val (.named 4) s), .box false (.agg 4 [.nils, .nils, .val (.int .i64) x_.2.Epoch]), .box false (.val (.named 3) o2), .box false (.val (.named 3) m)])
noncomputable def g30_s0 : Ins E (CodeOut E) := ⟨[.v (.int .i64), .v (.int .i64), .v (.slice (.named 7)), .ptr 0 [], .ptr 1 [], .ptr 2 [], .ptr 3 [], .v .bool, .v (.int .i64)], [.box false (.v (.named 4)), .box false (.agg 4 [.nils, .nils, .v (.int .i64)]), .box false (.v (.named 3)), .box false (.v (.named 3))], fun client file l ok i s o1_Epoch o2 m => .opt (N.ref7_Flush_l0 N.fuel client file l s o2 m ok i (N.TState.mk [] [] o1_Epoch)) (x30_s0 client file l s o2 m)⟩
noncomputable def L30 : Nat → LoopInfo E := clL E 91 [{ ks := [1, 3, 4, 5, 10, 11, 12, 13, 14], mvs := [], pro := [], d := [], g := some (insF [g30_s0]) }] []
theorem f30_s0 (client : Int) (file : Int) (l : List N.TWrite) (s : N.TState) (o2 : N.TMark) (m : N.TMark) (ok : Bool) (i : Int) (o1 : N.TState) : ((stepOf E S30 L30 0 0 Tryz.f30 (h30_s0 client file l s o2 m ok i o1) (t30_s0 client file l s o2 m ok i o1)).bind (nx E [1, 3, 4, 5, 10, 11, 12, 13, 14] [] [1, 3, 4, 5, 10, 11, 12, 13] 4)).get = N.ref7_Flush_s0k client file l s o2 m (fun v_ => some (.inl (h30_s0 client file l s o2 m v_.1 v_.2.1 v_.2.2, t30_s0 client file l s o2 m v_.1 v_.2.1 v_.2.2))) (fun x_ => some (.inr (.exit 0, ofSlots E 91 [] [1, 3, 4, 5, 10, 11, 12, 13] [.val (.int .i64) client, .val (.int .i64) file, .val (.slice (.named 7)) l, .ptr 0 [], .ptr 1 [], .ptr 2 [], .ptr 3 [], .val .bool x_.1], [.box false (.val (.named 4) s), .box false (.agg 4 [.nils, .nils, .val (.int .i64) x_.2.Epoch]), .box false (.val (.named 3) o2), .box false (.val (.named 3) m)]))) ok i o1 := by kernel_rfl
theorem q30_s0 : InsLp 91 [1, 3, 4, 5, 10, 11, 12, 13, 14] [] [] (stepOf E S30 L30 0 0 Tryz.f30) g30_s0 := by
  intro client file l ok i s o1_Epoch o2 m out_ ho_
  obtain ⟨x_, h1_, h2_⟩ := Option.bind_eq_some_iff.1 ho_
  refine iter_loop (rs := [1, 3, 4, 5, 10, 11, 12, 13]) (step := N.ref7_Flush_s0 client file l s o2 m) (hd := fun v_ => h30_s0 client file l s o2 m v_.1 v_.2.1 v_.2.2) (sv := fun v_ => t30_s0 client file l s o2 m v_.1 v_.2.1 v_.2.2) (ex := x30_s0 client file l s o2 m) (fun v_ => ?_) N.fuel (ok, i, (N.TState.mk [] [] o1_Epoch)) h1_ h2_
  refine (f30_s0 client file l s o2 m v_.1 v_.2.1 v_.2.2).trans ((N.ref7_Flush_s0_bind client file l s o2 m _ _ v_.1 v_.2.1 v_.2.2).trans ?_)
  refine congrArg _ (funext fun s_ => ?_)
  rcases s_ with v_ | a <;> rfl
noncomputable def B30 : List (DVal E.T) → St E.T → Tree (Res E.T × St E.T) := dbody E (lookS S30) (lookD []) L30 0 false Tryz.f30
theorem B30_ok : FnOk Tryz.prog E 30 B30 := bodyC_ok sound mix S30_ok (SD := []) trivial (L := L30) (N := 0) (keep := false) Tryz.func30 rfl (by
  intro k g hg fr st out ho
  match k, hg with
  | 0, hg => cases hg; exact lp_ok (allLp_cons q30_s0 (allLp_nil)) fr st out ho
  | _ + 1, hg => cases hg)
theorem F30 (s : N.TState) (client : Int) (seq : Int) (file : Int) (l : List N.TWrite) : (B30 [.val (.named 4) s, .val (.int .i64) client, .val (.int .i64) seq, .val (.int .i64) file, .val (.slice (.named 7)) l] []).get = N.ref7_Flush_k N.fuel (fun x_ => some (.ret [.val (.named 4) x_.1, .val (.named 3) x_.2], [])) s client seq file l := by kernel_rfl
noncomputable def i30 : Ins E (Res E.T × St E.T) := ⟨[.v (.named 4), .v (.int .i64), .v (.int .i64), .v (.int .i64), .v (.slice (.named 7))], [], fun s client seq file l => .opt (N.ref7_Flush N.fuel s client seq file l) fun x_ => .ret (.ret [.val (.named 4) x_.1, .val (.named 3) x_.2], [])⟩
theorem i30_ok : InsOk Tryz.prog 30 i30 := ⟨B30, B30_ok, by intro s client seq file l out_ h_; exact ((F30 s client seq file l).trans (N.ref7_Flush_bind N.fuel _ s client seq file l)).trans h_⟩
noncomputable def P30 : Nat × D.Spec E := (30, .pure [(.named 4), (.int .i64), (.int .i64), (.int .i64), (.slice (.named 7))] (pureF [i30]))
theorem p30 : SpecOk Tryz.prog E P30.1 P30.2 := pureI_ok Tryz.call30 ⟨i30_ok, trivial⟩
noncomputable def S32 : List (Nat × D.Spec E) := [P45, P63]
theorem S32_ok : AllS Tryz.prog E S32 := ⟨p45, p63, trivial⟩
noncomputable def L32 : Nat → LoopInfo E := clL E 32 [] []
noncomputable def B32 : List (DVal E.T) → St E.T → Tree (Res E.T × St E.T) := dbody E (lookS S32) (lookD []) L32 0 false Tryz.f32
theorem B32_ok : FnOk Tryz.prog E 32 B32 := bodyC_ok sound mix S32_ok (SD := []) trivial (L := L32) (N := 0) (keep := false) Tryz.func32 rfl (by
  intro k g hg fr st out ho
  match k, hg with
  | _, hg => cases hg)
theorem F32 (s : N.TState) (client : Int) (seq : Int) (file : Int) : (B32 [.val (.named 4) s, .val (.int .i64) client, .val (.int .i64) seq, .val (.int .i64) file] []).get = N.ref7_Gone_k (fun x_ => some (.ret [.val (.named 4) x_.1, .val (.named 3) x_.2], [])) s client seq file := by kernel_rfl
noncomputable def i32 : Ins E (Res E.T × St E.T) := ⟨[.v (.named 4), .v (.int .i64), .v (.int .i64), .v (.int .i64)], [], fun s client seq file => .opt (N.ref7_Gone s client seq file) fun x_ => .ret (.ret [.val (.named 4) x_.1, .val (.named 3) x_.2], [])⟩
theorem i32_ok : InsOk Tryz.prog 32 i32 := ⟨B32, B32_ok, by intro s client seq file out_ h_; exact ((F32 s client seq file).trans (N.ref7_Gone_bind _ s client seq file)).trans h_⟩
noncomputable def P32 : Nat × D.Spec E := (32, .pure [(.named 4), (.int .i64), (.int .i64), (.int .i64)] (pureF [i32]))
theorem p32 : SpecOk Tryz.prog E P32.1 P32.2 := pureI_ok Tryz.call32 ⟨i32_ok, trivial⟩
noncomputable def S10 : List (Nat × D.Spec E) := [P15, P26, P27, P28, P29, P30, P31, P32, P33]
theorem S10_ok : AllS Tryz.prog E S10 := ⟨p15, p26, p27, p28, p29, p30, p31, p32, p33, trivial⟩
abbrev h10_s0 (most : Int) (i : Int) (p : N.Ttenancymade_Picks) (o1 : N.TState) (s : N.TState) : Fr E.T := ofSlots E 82 [] [0, 1, 4, 5, 6] [.ptr 0 [], .val (.int .i64) most, .ptr 1 [], .ptr 2 [], .val (.int .i64) i]
abbrev t10_s0 (most : Int) (i : Int) (p : N.Ttenancymade_Picks) (o1 : N.TState) (s : N.TState) : St E.T := [.box false (.val (.named 6) p), .box false (.agg 4 [.nils, .nils, .val (.int .i64) o1.Epoch]), .box false (.val (.named 4) s)]
def x10_s0 (most : Int) (x_ : N.Ttenancymade_Picks × N.TState × N.TState) : Tree (CodeOut E) := .ret (.exit 0, ofSlots E 82 [] [4, 5] [.ptr 1 [], .ptr 2 []], [.box false (.val (.named 6) x_.1), .box false (.agg 4 [.nils, .nils, .val (.int .i64) x_.2.1.Epoch]), .box false (.val (.named 4) x_.2.2)])
noncomputable def g10_s0 : Ins E (CodeOut E) := ⟨[.ptr 0 [], .v (.int .i64), .ptr 1 [], .ptr 2 [], .v (.int .i64)], [.box false (.v (.named 6)), .box false (.agg 4 [.nils, .nils, .v (.int .i64)]), .box false (.v (.named 4))], fun most i p o1_Epoch s => .opt (N.made_Picks_State_l0 N.fuel most i p (N.TState.mk [] [] o1_Epoch) s) (x10_s0 most)⟩
noncomputable def L10 : Nat → LoopInfo E := clL E 82 [{ ks := [0, 1, 4, 5, 6], mvs := [], pro := [], d := [], g := some (insF [g10_s0]) }] []
theorem f10_s0 (most : Int) (i : Int) (p : N.Ttenancymade_Picks) (o1 : N.TState) (s : N.TState) : ((stepOf E S10 L10 0 0 Tryz.f10 (h10_s0 most i p o1 s) (t10_s0 most i p o1 s)).bind (nx E [0, 1, 4, 5, 6] [] [4, 5] 3)).get = N.made_Picks_State_s0k N.fuel most (fun v_ => some (.inl (h10_s0 most v_.1 v_.2.1 v_.2.2.1 v_.2.2.2, t10_s0 most v_.1 v_.2.1 v_.2.2.1 v_.2.2.2))) (fun x_ => some (.inr (.exit 0, ofSlots E 82 [] [4, 5] [.ptr 1 [], .ptr 2 []], [.box false (.val (.named 6) x_.1), .box false (.agg 4 [.nils, .nils, .val (.int .i64) x_.2.1.Epoch]), .box false (.val (.named 4) x_.2.2)]))) i p o1 s := by kernel_rfl
theorem q10_s0 : InsLp 82 [0, 1, 4, 5, 6] [] [] (stepOf E S10 L10 0 0 Tryz.f10) g10_s0 := by
  intro most i p o1_Epoch s out_ ho_
  obtain ⟨x_, h1_, h2_⟩ := Option.bind_eq_some_iff.1 ho_
  refine iter_loop (rs := [4, 5]) (step := N.made_Picks_State_s0 N.fuel most) (hd := fun v_ => h10_s0 most v_.1 v_.2.1 v_.2.2.1 v_.2.2.2) (sv := fun v_ => t10_s0 most v_.1 v_.2.1 v_.2.2.1 v_.2.2.2) (ex := x10_s0 most) (fun v_ => ?_) N.fuel (i, p, (N.TState.mk [] [] o1_Epoch), s) h1_ h2_
  refine (f10_s0 most v_.1 v_.2.1 v_.2.2.1 v_.2.2.2).trans ((N.made_Picks_State_s0_bind N.fuel most _ _ v_.1 v_.2.1 v_.2.2.1 v_.2.2.2).trans ?_)
  refine congrArg _ (funext fun s_ => ?_)
  rcases s_ with v_ | a <;> rfl
noncomputable def B10 : List (DVal E.T) → St E.T → Tree (Res E.T × St E.T) := tidyF (dbody E (lookS S10) (lookD []) L10 0 false Tryz.f10)
theorem B10_ok : FnOk Tryz.prog E 10 B10 := tidy_fn ok (bodyC_ok sound mix S10_ok (SD := []) trivial (L := L10) (N := 0) (keep := false) Tryz.func10 rfl (by
  intro k g hg fr st out ho
  match k, hg with
  | 0, hg => cases hg; exact lp_ok (allLp_cons q10_s0 (allLp_nil)) fr st out ho
  | _ + 1, hg => cases hg))
theorem F10 (most : Int) (p : N.Ttenancymade_Picks) : (B10 [.ptr 0 [], .val (.int .i64) most] [.box false (.val (.named 6) p)]).get = N.made_Picks_State_k N.fuel (fun x_ => some (.ret [.val (.named 4) x_.1], [.box false (.val (.named 6) x_.2)])) most p := by kernel_rfl
noncomputable def i10 : Ins E (Res E.T × St E.T) := ⟨[.ptr 0 [], .v (.int .i64)], [.box false (.v (.named 6))], fun most p => .opt (N.made_Picks_State N.fuel most p) fun x_ => .ret (.ret [.val (.named 4) x_.1], [.box false (.val (.named 6) x_.2)])⟩
theorem i10_ok : InsOk Tryz.prog 10 i10 := ⟨B10, B10_ok, by intro most p out_ h_; exact ((F10 most p).trans (N.made_Picks_State_bind N.fuel _ most p)).trans h_⟩
noncomputable def P10 : Nat × D.Spec E := (10, .full [.ptr, .data (.int .i64)] false (fullF [i10]))
theorem p10 : SpecOk Tryz.prog E P10.1 P10.2 := fullI_ok ok Tryz.call10 ⟨i10_ok, trivial⟩
noncomputable def S42 : List (Nat × D.Spec E) := []
theorem S42_ok : AllS Tryz.prog E S42 := trivial
noncomputable def L42 : Nat → LoopInfo E := clL E 51 [] []
noncomputable def B42 : List (DVal E.T) → St E.T → Tree (Res E.T × St E.T) := dbody E (lookS S42) (lookD []) L42 0 false Tryz.f42
theorem B42_ok : FnOk Tryz.prog E 42 B42 := bodyC_ok sound mix S42_ok (SD := []) trivial (L := L42) (N := 0) (keep := false) Tryz.func42 rfl (by
  intro k g hg fr st out ho
  match k, hg with
  | _, hg => cases hg)
theorem F42 (l : List (List UInt8)) (p : N.TPut) (n : Int) : (B42 [.val (.slice .str) l, .val (.named 0) p, .val (.int .i64) n] []).get = N.ref5_lasts_k (fun x_ => some (.ret [.val (.slice .str) x_], [])) l p n := by kernel_rfl
noncomputable def i42 : Ins E (Res E.T × St E.T) := ⟨[.v (.slice .str), .v (.named 0), .v (.int .i64)], [], fun l p n => .opt (N.ref5_lasts l p n) fun x_ => .ret (.ret [.val (.slice .str) x_], [])⟩
theorem i42_ok : InsOk Tryz.prog 42 i42 := ⟨B42, B42_ok, by intro l p n out_ h_; exact ((F42 l p n).trans (N.ref5_lasts_bind _ l p n)).trans h_⟩
noncomputable def P42 : Nat × D.Spec E := (42, .pure [(.slice .str), (.named 0), (.int .i64)] (pureF [i42]))
theorem p42 : SpecOk Tryz.prog E P42.1 P42.2 := pureI_ok Tryz.call42 ⟨i42_ok, trivial⟩
noncomputable def S13 : List (Nat × D.Spec E) := [P42]
theorem S13_ok : AllS Tryz.prog E S13 := ⟨p42, trivial⟩
abbrev h13_s0 (keep : List Int) (k : Int) (d : N.TDisk) (o1 : N.TDisk) : Fr E.T := ofSlots E 37 [] [1, 2, 4, 5] [.val (.slice (.int .i64)) keep, .ptr 0 [], .ptr 1 [], .val (.int .i64) k]
abbrev t13_s0 (keep : List Int) (k : Int) (d : N.TDisk) (o1 : N.TDisk) : St E.T := [.box false (.val (.named 1) d), .box false (.agg 1 [.nils, .nils, .val (.int .i64) o1.Arm, .val .bool o1.Down])]
def x13_s0 (keep : List Int) (x_ : N.TDisk × N.TDisk) : Tree (CodeOut E) := .ret (.exit 0, ofSlots E 37 [] [2, 4] [.ptr 0 [], .ptr 1 []], [.box false (.val (.named 1) x_.1), .box false (.agg 1 [.nils, .nils, .val (.int .i64) x_.2.Arm, .val .bool x_.2.Down])])
noncomputable def g13_s0 : Ins E (CodeOut E) := ⟨[.v (.slice (.int .i64)), .ptr 0 [], .ptr 1 [], .v (.int .i64)], [.box false (.v (.named 1)), .box false (.agg 1 [.nils, .nils, .v (.int .i64), .v .bool])], fun keep k d o1_Arm o1_Down => .opt (N.ref5_Crash_l0 N.fuel keep k d (N.TDisk.mk [] [] o1_Arm o1_Down)) (x13_s0 keep)⟩
noncomputable def L13 : Nat → LoopInfo E := clL E 37 [{ ks := [1, 2, 4, 5], mvs := [], pro := [], d := [], g := some (insF [g13_s0]) }] []
theorem f13_s0 (keep : List Int) (k : Int) (d : N.TDisk) (o1 : N.TDisk) : ((stepOf E S13 L13 0 0 Tryz.f13 (h13_s0 keep k d o1) (t13_s0 keep k d o1)).bind (nx E [1, 2, 4, 5] [] [2, 4] 2)).get = N.ref5_Crash_s0k keep (fun v_ => some (.inl (h13_s0 keep v_.1 v_.2.1 v_.2.2, t13_s0 keep v_.1 v_.2.1 v_.2.2))) (fun x_ => some (.inr (.exit 0, ofSlots E 37 [] [2, 4] [.ptr 0 [], .ptr 1 []], [.box false (.val (.named 1) x_.1), .box false (.agg 1 [.nils, .nils, .val (.int .i64) x_.2.Arm, .val .bool x_.2.Down])]))) k d o1 := by kernel_rfl
theorem q13_s0 : InsLp 37 [1, 2, 4, 5] [] [] (stepOf E S13 L13 0 0 Tryz.f13) g13_s0 := by
  intro keep k d o1_Arm o1_Down out_ ho_
  obtain ⟨x_, h1_, h2_⟩ := Option.bind_eq_some_iff.1 ho_
  refine iter_loop (rs := [2, 4]) (step := N.ref5_Crash_s0 keep) (hd := fun v_ => h13_s0 keep v_.1 v_.2.1 v_.2.2) (sv := fun v_ => t13_s0 keep v_.1 v_.2.1 v_.2.2) (ex := x13_s0 keep) (fun v_ => ?_) N.fuel (k, d, (N.TDisk.mk [] [] o1_Arm o1_Down)) h1_ h2_
  refine (f13_s0 keep v_.1 v_.2.1 v_.2.2).trans ((N.ref5_Crash_s0_bind keep _ _ v_.1 v_.2.1 v_.2.2).trans ?_)
  refine congrArg _ (funext fun s_ => ?_)
  rcases s_ with v_ | a <;> rfl
noncomputable def B13 : List (DVal E.T) → St E.T → Tree (Res E.T × St E.T) := dbody E (lookS S13) (lookD []) L13 0 false Tryz.f13
theorem B13_ok : FnOk Tryz.prog E 13 B13 := bodyC_ok sound mix S13_ok (SD := []) trivial (L := L13) (N := 0) (keep := false) Tryz.func13 rfl (by
  intro k g hg fr st out ho
  match k, hg with
  | 0, hg => cases hg; exact lp_ok (allLp_cons q13_s0 (allLp_nil)) fr st out ho
  | _ + 1, hg => cases hg)
theorem F13 (d : N.TDisk) (keep : List Int) : (B13 [.val (.named 1) d, .val (.slice (.int .i64)) keep] []).get = N.ref5_Crash_k N.fuel (fun x_ => some (.ret [.val (.named 1) x_], [])) d keep := by kernel_rfl
noncomputable def i13 : Ins E (Res E.T × St E.T) := ⟨[.v (.named 1), .v (.slice (.int .i64))], [], fun d keep => .opt (N.ref5_Crash N.fuel d keep) fun x_ => .ret (.ret [.val (.named 1) x_], [])⟩
theorem i13_ok : InsOk Tryz.prog 13 i13 := ⟨B13, B13_ok, by intro d keep out_ h_; exact ((F13 d keep).trans (N.ref5_Crash_bind N.fuel _ d keep)).trans h_⟩
noncomputable def P13 : Nat × D.Spec E := (13, .pure [(.named 1), (.slice (.int .i64))] (pureF [i13]))
theorem p13 : SpecOk Tryz.prog E P13.1 P13.2 := pureI_ok Tryz.call13 ⟨i13_ok, trivial⟩
noncomputable def S3 : List (Nat × D.Spec E) := [P10, P11, P12, P13, P14, P7, P8, P9]
theorem S3_ok : AllS Tryz.prog E S3 := ⟨p10, p11, p12, p13, p14, p7, p8, p9, trivial⟩
abbrev h3_s0 (which : UInt8) (arm : UInt8) (keep : List Int) (l : List (List UInt8)) (o0 : List (List UInt8)) (i : Int) (st : N.TStore) (old : N.TState) : Fr E.T := ofSlots E 112 [] [1, 2, 3, 4, 9, 10, 11] [.val (.int .u8) which, .val (.int .u8) arm, .val (.slice (.int .i64)) keep, .rptr (.arr 6 (.arr 20 (.int .u8))) l, .ptr 1 [], .ptr 2 [], .val (.int .i64) i]
abbrev t3_s0 (which : UInt8) (arm : UInt8) (keep : List Int) (l : List (List UInt8)) (o0 : List (List UInt8)) (i : Int) (st : N.TStore) (old : N.TState) : St E.T := [.box true (.val (.arr 6 (.arr 20 (.int .u8))) o0), .box false (.val (.named 5) st), .box false (.val (.named 4) old)]
def x3_s0 (which : UInt8) (arm : UInt8) (keep : List Int) (l : List (List UInt8)) (o0 : List (List UInt8)) (x_ : (N.TStore × N.TState × N.Ttenancymade_Picks × N.TState × N.TStore × N.TStore) ⊕ ((N.TStore × N.TState × N.Ttenancymade_Picks × N.TState × N.TStore × N.TStore) ⊕ (N.TStore × N.TState))) : Tree (CodeOut E) := altT x_ (fun u0_ => .ret (.ret, ofSlots E 112 [] [8] [.val .bool false], [.box true (.val (.arr 6 (.arr 20 (.int .u8))) o0), .box false (.agg 5 [.agg 1 [.val (.slice .str) u0_.1.D.Last, .val (.slice (.named 0)) u0_.1.D.Wait, .val (.int .i64) u0_.1.D.Arm, .val .bool u0_.1.D.Down], .val (.named 4) u0_.1.S]), .box false (.val (.named 4) u0_.2.1), .box false (.val (.named 6) u0_.2.2.1), .box false (.val (.named 4) u0_.2.2.2.1), .box false (.val (.named 5) u0_.2.2.2.2.1), .box false (.val (.named 5) u0_.2.2.2.2.2)])) (fun w0_ => altT w0_ (fun u1_ => .ret (.ret, ofSlots E 112 [] [8] [.val .bool false], [.box true (.val (.arr 6 (.arr 20 (.int .u8))) o0), .box false (.val (.named 5) u1_.1), .box false (.val (.named 4) u1_.2.1), .box false (.val (.named 6) u1_.2.2.1), .box false (.val (.named 4) u1_.2.2.2.1), .box false (.val (.named 5) u1_.2.2.2.2.1), .box false (.val (.named 5) u1_.2.2.2.2.2)])) (fun w1_ => .ret (.exit 0, ofSlots E 112 [] [8] [.undef], [.box true (.val (.arr 6 (.arr 20 (.int .u8))) o0), .box false (.val (.named 5) w1_.1), .box false (.val (.named 4) w1_.2)])))
noncomputable def g3_s0 : Ins E (CodeOut E) := ⟨[.v (.int .u8), .v (.int .u8), .v (.slice (.int .i64)), .rptr (.arr 6 (.arr 20 (.int .u8))), .ptr 1 [], .ptr 2 [], .v (.int .i64)], [.box true (.v (.arr 6 (.arr 20 (.int .u8)))), .box false (.v (.named 5)), .box false (.v (.named 4))], fun which arm keep l i o0 st old => .opt (N.law12_StoreKeeps_l0 N.fuel which arm keep l o0 i st old) (x3_s0 which arm keep l o0)⟩
noncomputable def L3 : Nat → LoopInfo E := clL E 112 [{ ks := [1, 2, 3, 4, 9, 10, 11], mvs := [], pro := [.rd 4], d := [], g := some (insF [g3_s0]) }] []
theorem f3_s0 (which : UInt8) (arm : UInt8) (keep : List Int) (l : List (List UInt8)) (o0 : List (List UInt8)) (i : Int) (st : N.TStore) (old : N.TState) : ((stepOf E S3 L3 0 0 Tryz.f3 (h3_s0 which arm keep l o0 i st old) (t3_s0 which arm keep l o0 i st old)).bind (nx E [1, 2, 3, 4, 9, 10, 11] [] [8] 3)).get = N.law12_StoreKeeps_s0k N.fuel which arm keep l o0 (fun v_ => some (.inl (h3_s0 which arm keep l o0 v_.1 v_.2.1 v_.2.2, t3_s0 which arm keep l o0 v_.1 v_.2.1 v_.2.2))) (fun x_ => some (.inr (.ret, ofSlots E 112 [] [8] [.val .bool false], [.box true (.val (.arr 6 (.arr 20 (.int .u8))) o0), .box false (.agg 5 [.agg 1 [.val (.slice .str) x_.1.D.Last, .val (.slice (.named 0)) x_.1.D.Wait, .val (.int .i64) x_.1.D.Arm, .val .bool x_.1.D.Down], .val (.named 4) x_.1.S]), .box false (.val (.named 4) x_.2.1), .box false (.val (.named 6) x_.2.2.1), .box false (.val (.named 4) x_.2.2.2.1), .box false (.val (.named 5) x_.2.2.2.2.1), .box false (.val (.named 5) x_.2.2.2.2.2)]))) (fun x_ => some (.inr (.ret, ofSlots E 112 [] [8] [.val .bool false], [.box true (.val (.arr 6 (.arr 20 (.int .u8))) o0), .box false (.val (.named 5) x_.1), .box false (.val (.named 4) x_.2.1), .box false (.val (.named 6) x_.2.2.1), .box false (.val (.named 4) x_.2.2.2.1), .box false (.val (.named 5) x_.2.2.2.2.1), .box false (.val (.named 5) x_.2.2.2.2.2)]))) (fun x_ => some (.inr (.exit 0, ofSlots E 112 [] [8] [.undef], [.box true (.val (.arr 6 (.arr 20 (.int .u8))) o0), .box false (.val (.named 5) x_.1), .box false (.val (.named 4) x_.2)]))) i st old := by kernel_rfl
theorem q3_s0 : InsLp 112 [1, 2, 3, 4, 9, 10, 11] [] [] (stepOf E S3 L3 0 0 Tryz.f3) g3_s0 := by
  intro which arm keep l i o0 st old out_ ho_
  obtain ⟨x_, h1_, h2_⟩ := Option.bind_eq_some_iff.1 ho_
  refine iter_loop (rs := [8]) (step := N.law12_StoreKeeps_s0 N.fuel which arm keep l o0) (hd := fun v_ => h3_s0 which arm keep l o0 v_.1 v_.2.1 v_.2.2) (sv := fun v_ => t3_s0 which arm keep l o0 v_.1 v_.2.1 v_.2.2) (ex := x3_s0 which arm keep l o0) (fun v_ => ?_) N.fuel (i, st, old) h1_ h2_
  refine (f3_s0 which arm keep l o0 v_.1 v_.2.1 v_.2.2).trans ((N.law12_StoreKeeps_s0_bind N.fuel which arm keep l o0 _ _ _ _ v_.1 v_.2.1 v_.2.2).trans ?_)
  refine congrArg _ (funext fun s_ => ?_)
  rcases s_ with v_ | a | a | a <;> rfl
noncomputable def B3 : List (DVal E.T) → St E.T → Tree (Res E.T × St E.T) := dbody E (lookS S3) (lookD []) L3 0 false Tryz.f3
theorem B3_ok : FnOk Tryz.prog E 3 B3 := bodyC_ok sound mix S3_ok (SD := []) trivial (L := L3) (N := 0) (keep := false) Tryz.func3 rfl (by
  intro k g hg fr st out ho
  match k, hg with
  | 0, hg => cases hg; exact lp_ok (allLp_cons q3_s0 (allLp_nil)) fr st out ho
  | _ + 1, hg => cases hg)
theorem F3 (l : List (List UInt8)) (which : UInt8) (arm : UInt8) (keep : List Int) : (B3 [.val (.arr 6 (.arr 20 (.int .u8))) l, .val (.int .u8) which, .val (.int .u8) arm, .val (.slice (.int .i64)) keep] []).get = N.law12_StoreKeeps_k N.fuel (fun x_ => some (.ret [.val .bool x_], [])) l which arm keep := by kernel_rfl
noncomputable def i3 : Ins E (Res E.T × St E.T) := ⟨[.v (.arr 6 (.arr 20 (.int .u8))), .v (.int .u8), .v (.int .u8), .v (.slice (.int .i64))], [], fun l which arm keep => .opt (N.law12_StoreKeeps N.fuel l which arm keep) fun x_ => .ret (.ret [.val .bool x_], [])⟩
theorem i3_ok : InsOk Tryz.prog 3 i3 := ⟨B3, B3_ok, by intro l which arm keep out_ h_; exact ((F3 l which arm keep).trans (N.law12_StoreKeeps_bind N.fuel _ l which arm keep)).trans h_⟩
noncomputable def P3 : Nat × D.Spec E := (3, .pure [(.arr 6 (.arr 20 (.int .u8))), (.int .u8), (.int .u8), (.slice (.int .i64))] (pureF [i3]))
theorem p3 : SpecOk Tryz.prog E P3.1 P3.2 := pureI_ok Tryz.call3 ⟨i3_ok, trivial⟩
noncomputable def S48 : List (Nat × D.Spec E) := []
theorem S48_ok : AllS Tryz.prog E S48 := trivial
noncomputable def L48 : Nat → LoopInfo E := clL E 3 [] []
noncomputable def B48 : List (DVal E.T) → St E.T → Tree (Res E.T × St E.T) := dbody E (lookS S48) (lookD []) L48 0 false Tryz.f48
theorem B48_ok : FnOk Tryz.prog E 48 B48 := bodyC_ok sound mix S48_ok (SD := []) trivial (L := L48) (N := 0) (keep := false) Tryz.func48 rfl (by
  intro k g hg fr st out ho
  match k, hg with
  | _, hg => cases hg)
theorem F48 : (B48 [] []).get = N.ref5_noughts_k (fun x_ => some (.ret [.val .str ([0, 0, 0, 0, 0, 0, 0, 0, 0, 0, 0, 0, 0, 0, 0, 0, 0, 0, 0, 0, 0, 0, 0, 0, 0, 0, 0, 0, 0, 0, 0, 0])], [])) := by kernel_rfl
noncomputable def i48 : Ins E (Res E.T × St E.T) := ⟨[], [], .ret (.ret [.val .str ([0, 0, 0, 0, 0, 0, 0, 0, 0, 0, 0, 0, 0, 0, 0, 0, 0, 0, 0, 0, 0, 0, 0, 0, 0, 0, 0, 0, 0, 0, 0, 0])], [])⟩
theorem i48_ok : InsOk Tryz.prog 48 i48 := ⟨B48, B48_ok, by intro out_ h_; exact ((F48).trans (N.ref5_noughts_bind _)).trans h_⟩
noncomputable def P48 : Nat × D.Spec E := (48, .pure [] (pureF [i48]))
theorem p48 : SpecOk Tryz.prog E P48.1 P48.2 := pureI_ok Tryz.call48 ⟨i48_ok, trivial⟩
noncomputable def S16 : List (Nat × D.Spec E) := [P48]
theorem S16_ok : AllS Tryz.prog E S16 := ⟨p48, trivial⟩
abbrev h16_s0 (n : Int) (i : Int) (o0 : N.TDisk) (d : N.TDisk) : Fr E.T := ofSlots E 22 [] [0, 2, 3, 4] [.val (.int .i64) n, .ptr 0 [], .ptr 1 [], .val (.int .i64) i]
abbrev t16_s0 (n : Int) (i : Int) (o0 : N.TDisk) (d : N.TDisk) : St E.T := [.box false (.agg 1 [.nils, .nils, .val (.int .i64) o0.Arm, .val .bool o0.Down]), .box false (.agg 1 [.own 2, .nils, .val (.int .i64) d.Arm, .val .bool d.Down]), .arr .live .str d.Last]
def x16_s0 (n : Int) (x_ : N.TDisk × N.TDisk) : Tree (CodeOut E) := .ret (.exit 0, ofSlots E 22 [] [2, 3] [.ptr 0 [], .ptr 1 []], [.box false (.agg 1 [.nils, .nils, .val (.int .i64) x_.1.Arm, .val .bool x_.1.Down]), .box false (.agg 1 [.own 2, .nils, .val (.int .i64) x_.2.Arm, .val .bool x_.2.Down]), .arr .live .str x_.2.Last])
noncomputable def g16_s0 : Ins E (CodeOut E) := ⟨[.v (.int .i64), .ptr 0 [], .ptr 1 [], .v (.int .i64)], [.box false (.agg 1 [.nils, .nils, .v (.int .i64), .v .bool]), .box false (.agg 1 [.own 2, .nils, .v (.int .i64), .v .bool]), .arr .live .str], fun n i o0_Arm o0_Down d_Arm d_Down a2_ => .opt (N.ref5_New_l0 N.fuel n i (N.TDisk.mk [] [] o0_Arm o0_Down) (N.TDisk.mk a2_ [] d_Arm d_Down)) (x16_s0 n)⟩
noncomputable def L16 : Nat → LoopInfo E := clL E 22 [{ ks := [0, 2, 3, 4], mvs := [], pro := [.pro (.obj 1) [0] .str], d := [], g := some (insF [g16_s0]) }] []
theorem f16_s0 (n : Int) (i : Int) (o0 : N.TDisk) (d : N.TDisk) : ((stepOf E S16 L16 0 0 Tryz.f16 (h16_s0 n i o0 d) (t16_s0 n i o0 d)).bind (nx E [0, 2, 3, 4] [] [2, 3] 3)).get = N.ref5_New_s0k n (fun v_ => some (.inl (h16_s0 n v_.1 v_.2.1 v_.2.2, t16_s0 n v_.1 v_.2.1 v_.2.2))) (fun x_ => some (.inr (.exit 0, ofSlots E 22 [] [2, 3] [.ptr 0 [], .ptr 1 []], [.box false (.agg 1 [.nils, .nils, .val (.int .i64) x_.1.Arm, .val .bool x_.1.Down]), .box false (.agg 1 [.own 2, .nils, .val (.int .i64) x_.2.Arm, .val .bool x_.2.Down]), .arr .live .str x_.2.Last]))) i o0 d := by kernel_rfl
theorem q16_s0 : InsLp 22 [0, 2, 3, 4] [] [] (stepOf E S16 L16 0 0 Tryz.f16) g16_s0 := by
  intro n i o0_Arm o0_Down d_Arm d_Down a2_ out_ ho_
  obtain ⟨x_, h1_, h2_⟩ := Option.bind_eq_some_iff.1 ho_
  refine iter_loop (rs := [2, 3]) (step := N.ref5_New_s0 n) (hd := fun v_ => h16_s0 n v_.1 v_.2.1 v_.2.2) (sv := fun v_ => t16_s0 n v_.1 v_.2.1 v_.2.2) (ex := x16_s0 n) (fun v_ => ?_) N.fuel (i, (N.TDisk.mk [] [] o0_Arm o0_Down), (N.TDisk.mk a2_ [] d_Arm d_Down)) h1_ h2_
  refine (f16_s0 n v_.1 v_.2.1 v_.2.2).trans ((N.ref5_New_s0_bind n _ _ v_.1 v_.2.1 v_.2.2).trans ?_)
  refine congrArg _ (funext fun s_ => ?_)
  rcases s_ with v_ | a <;> rfl
noncomputable def B16 : List (DVal E.T) → St E.T → Tree (Res E.T × St E.T) := dbody E (lookS S16) (lookD []) L16 0 false Tryz.f16
theorem B16_ok : FnOk Tryz.prog E 16 B16 := bodyC_ok sound mix S16_ok (SD := []) trivial (L := L16) (N := 0) (keep := false) Tryz.func16 rfl (by
  intro k g hg fr st out ho
  match k, hg with
  | 0, hg => cases hg; exact lp_ok (allLp_cons q16_s0 (allLp_nil)) fr st out ho
  | _ + 1, hg => cases hg)
theorem F16 (n : Int) : (B16 [.val (.int .i64) n] []).get = N.ref5_New_k N.fuel (fun x_ => some (.ret [.val (.named 1) x_], [])) n := by kernel_rfl
noncomputable def i16 : Ins E (Res E.T × St E.T) := ⟨[.v (.int .i64)], [], fun n => .opt (N.ref5_New N.fuel n) fun x_ => .ret (.ret [.val (.named 1) x_], [])⟩
theorem i16_ok : InsOk Tryz.prog 16 i16 := ⟨B16, B16_ok, by intro n out_ h_; exact ((F16 n).trans (N.ref5_New_bind N.fuel _ n)).trans h_⟩
noncomputable def P16 : Nat × D.Spec E := (16, .pure [(.int .i64)] (pureF [i16]))
theorem p16 : SpecOk Tryz.prog E P16.1 P16.2 := pureI_ok Tryz.call16 ⟨i16_ok, trivial⟩
noncomputable def S18 : List (Nat × D.Spec E) := []
theorem S18_ok : AllS Tryz.prog E S18 := trivial
abbrev h18_s0 (a : List (List UInt8)) (b : List (List UInt8)) (i : Int) : Fr E.T := ofSlots E 26 [] [0, 1, 5] [.val (.slice .str) a, .val (.slice .str) b, .val (.int .i64) i]
abbrev t18_s0 (a : List (List UInt8)) (b : List (List UInt8)) (i : Int) : St E.T := []
def x18_s0 (a : List (List UInt8)) (b : List (List UInt8)) (x_ : Unit ⊕ Unit) : Tree (CodeOut E) := altT x_ (fun u0_ => .ret (.ret, ofSlots E 26 [] [4] [.val .bool false], [])) (fun w0_ => .ret (.exit 0, ofSlots E 26 [] [4] [.undef], []))
noncomputable def g18_s0 : Ins E (CodeOut E) := ⟨[.v (.slice .str), .v (.slice .str), .v (.int .i64)], [], fun a b i => .opt (N.ref5_SameTexts_l0 N.fuel a b i) (x18_s0 a b)⟩
noncomputable def L18 : Nat → LoopInfo E := clL E 26 [{ ks := [0, 1, 5], mvs := [], pro := [], d := [], g := some (insF [g18_s0]) }] []
theorem f18_s0 (a : List (List UInt8)) (b : List (List UInt8)) (i : Int) : ((stepOf E S18 L18 0 0 Tryz.f18 (h18_s0 a b i) (t18_s0 a b i)).bind (nx E [0, 1, 5] [] [4] 0)).get = N.ref5_SameTexts_s0k a b (fun v_ => some (.inl (h18_s0 a b v_, t18_s0 a b v_))) (fun x_ => some (.inr (.ret, ofSlots E 26 [] [4] [.val .bool false], []))) (fun x_ => some (.inr (.exit 0, ofSlots E 26 [] [4] [.undef], []))) i := by kernel_rfl
theorem q18_s0 : InsLp 26 [0, 1, 5] [] [] (stepOf E S18 L18 0 0 Tryz.f18) g18_s0 := by
  intro a b i out_ ho_
  obtain ⟨x_, h1_, h2_⟩ := Option.bind_eq_some_iff.1 ho_
  refine iter_loop (rs := [4]) (step := N.ref5_SameTexts_s0 a b) (hd := fun v_ => h18_s0 a b v_) (sv := fun v_ => t18_s0 a b v_) (ex := x18_s0 a b) (fun v_ => ?_) N.fuel i h1_ h2_
  refine (f18_s0 a b v_).trans ((N.ref5_SameTexts_s0_bind a b _ _ _ v_).trans ?_)
  refine congrArg _ (funext fun s_ => ?_)
  rcases s_ with v_ | a | a <;> rfl
noncomputable def B18 : List (DVal E.T) → St E.T → Tree (Res E.T × St E.T) := dbody E (lookS S18) (lookD []) L18 0 false Tryz.f18
theorem B18_ok : FnOk Tryz.prog E 18 B18 := bodyC_ok sound mix S18_ok (SD := []) trivial (L := L18) (N := 0) (keep := false) Tryz.func18 rfl (by
  intro k g hg fr st out ho
  match k, hg with
  | 0, hg => cases hg; exact lp_ok (allLp_cons q18_s0 (allLp_nil)) fr st out ho
  | _ + 1, hg => cases hg)
theorem F18 (a : List (List UInt8)) (b : List (List UInt8)) : (B18 [.val (.slice .str) a, .val (.slice .str) b] []).get = N.ref5_SameTexts_k N.fuel (fun x_ => some (.ret [.val .bool x_], [])) a b := by kernel_rfl
noncomputable def i18 : Ins E (Res E.T × St E.T) := ⟨[.v (.slice .str), .v (.slice .str)], [], fun a b => .opt (N.ref5_SameTexts N.fuel a b) fun x_ => .ret (.ret [.val .bool x_], [])⟩
theorem i18_ok : InsOk Tryz.prog 18 i18 := ⟨B18, B18_ok, by intro a b out_ h_; exact ((F18 a b).trans (N.ref5_SameTexts_bind N.fuel _ a b)).trans h_⟩
noncomputable def P18 : Nat × D.Spec E := (18, .pure [(.slice .str), (.slice .str)] (pureF [i18]))
theorem p18 : SpecOk Tryz.prog E P18.1 P18.2 := pureI_ok Tryz.call18 ⟨i18_ok, trivial⟩
noncomputable def S85 : List (Nat × D.Spec E) := []
theorem S85_ok : AllS Tryz.prog E S85 := trivial
abbrev h85_s0 (a : List N.TPut) (b : List N.TPut) (i : Int) : Fr E.T := ofSlots E 26 [] [0, 1, 5] [.val (.slice (.named 0)) a, .val (.slice (.named 0)) b, .val (.int .i64) i]
abbrev t85_s0 (a : List N.TPut) (b : List N.TPut) (i : Int) : St E.T := []
def x85_s0 (a : List N.TPut) (b : List N.TPut) (x_ : Unit ⊕ Unit) : Tree (CodeOut E) := altT x_ (fun u0_ => .ret (.ret, ofSlots E 26 [] [4] [.val .bool false], [])) (fun w0_ => .ret (.exit 0, ofSlots E 26 [] [4] [.undef], []))
noncomputable def g85_s0 : Ins E (CodeOut E) := ⟨[.v (.slice (.named 0)), .v (.slice (.named 0)), .v (.int .i64)], [], fun a b i => .opt (N.ref5_SamePuts_l0 N.fuel a b i) (x85_s0 a b)⟩
noncomputable def L85 : Nat → LoopInfo E := clL E 26 [{ ks := [0, 1, 5], mvs := [], pro := [], d := [], g := some (insF [g85_s0]) }] []
theorem f85_s0 (a : List N.TPut) (b : List N.TPut) (i : Int) : ((stepOf E S85 L85 0 0 Tryz.f85 (h85_s0 a b i) (t85_s0 a b i)).bind (nx E [0, 1, 5] [] [4] 0)).get = N.ref5_SamePuts_s0k a b (fun v_ => some (.inl (h85_s0 a b v_, t85_s0 a b v_))) (fun x_ => some (.inr (.ret, ofSlots E 26 [] [4] [.val .bool false], []))) (fun x_ => some (.inr (.exit 0, ofSlots E 26 [] [4] [.undef], []))) i := by kernel_rfl
theorem q85_s0 : InsLp 26 [0, 1, 5] [] [] (stepOf E S85 L85 0 0 Tryz.f85) g85_s0 := by
  intro a b i out_ ho_
  obtain ⟨x_, h1_, h2_⟩ := Option.bind_eq_some_iff.1 ho_
  refine iter_loop (rs := [4]) (step := N.ref5_SamePuts_s0 a b) (hd := fun v_ => h85_s0 a b v_) (sv := fun v_ => t85_s0 a b v_) (ex := x85_s0 a b) (fun v_ => ?_) N.fuel i h1_ h2_
  refine (f85_s0 a b v_).trans ((N.ref5_SamePuts_s0_bind a b _ _ _ v_).trans ?_)
  refine congrArg _ (funext fun s_ => ?_)
  rcases s_ with v_ | a | a <;> rfl
noncomputable def B85 : List (DVal E.T) → St E.T → Tree (Res E.T × St E.T) := dbody E (lookS S85) (lookD []) L85 0 false Tryz.f85
theorem B85_ok : FnOk Tryz.prog E 85 B85 := bodyC_ok sound mix S85_ok (SD := []) trivial (L := L85) (N := 0) (keep := false) Tryz.func85 rfl (by
  intro k g hg fr st out ho
  match k, hg with
  | 0, hg => cases hg; exact lp_ok (allLp_cons q85_s0 (allLp_nil)) fr st out ho
  | _ + 1, hg => cases hg)
theorem F85 (a : List N.TPut) (b : List N.TPut) : (B85 [.val (.slice (.named 0)) a, .val (.slice (.named 0)) b] []).get = N.ref5_SamePuts_k N.fuel (fun x_ => some (.ret [.val .bool x_], [])) a b := by kernel_rfl
noncomputable def i85 : Ins E (Res E.T × St E.T) := ⟨[.v (.slice (.named 0)), .v (.slice (.named 0))], [], fun a b => .opt (N.ref5_SamePuts N.fuel a b) fun x_ => .ret (.ret [.val .bool x_], [])⟩
theorem i85_ok : InsOk Tryz.prog 85 i85 := ⟨B85, B85_ok, by intro a b out_ h_; exact ((F85 a b).trans (N.ref5_SamePuts_bind N.fuel _ a b)).trans h_⟩
noncomputable def P85 : Nat × D.Spec E := (85, .pure [(.slice (.named 0)), (.slice (.named 0))] (pureF [i85]))
theorem p85 : SpecOk Tryz.prog E P85.1 P85.2 := pureI_ok Tryz.call85 ⟨i85_ok, trivial⟩
noncomputable def S49 : List (Nat × D.Spec E) := [P18, P85]
theorem S49_ok : AllS Tryz.prog E S49 := ⟨p18, p85, trivial⟩
noncomputable def L49 : Nat → LoopInfo E := clL E 31 [] []
noncomputable def B49 : List (DVal E.T) → St E.T → Tree (Res E.T × St E.T) := dbody E (lookS S49) (lookD []) L49 0 false Tryz.f49
theorem B49_ok : FnOk Tryz.prog E 49 B49 := bodyC_ok sound mix S49_ok (SD := []) trivial (L := L49) (N := 0) (keep := false) Tryz.func49 rfl (by
  intro k g hg fr st out ho
  match k, hg with
  | _, hg => cases hg)
theorem F49 (a : N.TDisk) (b : N.TDisk) : (B49 [.val (.named 1) a, .val (.named 1) b] []).get = N.ref5_Same_k N.fuel (fun x_ => some (.ret [.val .bool x_], [])) a b := by kernel_rfl
noncomputable def i49 : Ins E (Res E.T × St E.T) := ⟨[.v (.named 1), .v (.named 1)], [], fun a b => .opt (N.ref5_Same N.fuel a b) fun x_ => .ret (.ret [.val .bool x_], [])⟩
theorem i49_ok : InsOk Tryz.prog 49 i49 := ⟨B49, B49_ok, by intro a b out_ h_; exact ((F49 a b).trans (N.ref5_Same_bind N.fuel _ a b)).trans h_⟩
noncomputable def P49 : Nat × D.Spec E := (49, .pure [(.named 1), (.named 1)] (pureF [i49]))
theorem p49 : SpecOk Tryz.prog E P49.1 P49.2 := pureI_ok Tryz.call49 ⟨i49_ok, trivial⟩
noncomputable def S17 : List (Nat × D.Spec E) := [P14, P49]
theorem S17_ok : AllS Tryz.prog E S17 := ⟨p14, p49, trivial⟩
noncomputable def L17 : Nat → LoopInfo E := clL E 17 [] []
noncomputable def B17 : List (DVal E.T) → St E.T → Tree (Res E.T × St E.T) := dbody E (lookS S17) (lookD []) L17 0 false Tryz.f17
theorem B17_ok : FnOk Tryz.prog E 17 B17 := bodyC_ok sound mix S17_ok (SD := []) trivial (L := L17) (N := 0) (keep := false) Tryz.func17 rfl (by
  intro k g hg fr st out ho
  match k, hg with
  | _, hg => cases hg)
theorem F17 (a : N.TStore) (b : N.TStore) : (B17 [.val (.named 5) a, .val (.named 5) b] []).get = N.ref7_SameStore_k N.fuel (fun x_ => some (.ret [.val .bool x_], [])) a b := by kernel_rfl
noncomputable def i17 : Ins E (Res E.T × St E.T) := ⟨[.v (.named 5), .v (.named 5)], [], fun a b => .opt (N.ref7_SameStore N.fuel a b) fun x_ => .ret (.ret [.val .bool x_], [])⟩
theorem i17_ok : InsOk Tryz.prog 17 i17 := ⟨B17, B17_ok, by intro a b out_ h_; exact ((F17 a b).trans (N.ref7_SameStore_bind N.fuel _ a b)).trans h_⟩
noncomputable def P17 : Nat × D.Spec E := (17, .pure [(.named 5), (.named 5)] (pureF [i17]))
theorem p17 : SpecOk Tryz.prog E P17.1 P17.2 := pureI_ok Tryz.call17 ⟨i17_ok, trivial⟩
noncomputable def S4 : List (Nat × D.Spec E) := [P11, P12, P15, P16, P17, P7, P8]
theorem S4_ok : AllS Tryz.prog E S4 := ⟨p11, p12, p15, p16, p17, p7, p8, trivial⟩
noncomputable def L4 : Nat → LoopInfo E := clL E 160 [] []
noncomputable def B4 : List (DVal E.T) → St E.T → Tree (Res E.T × St E.T) := dbody E (lookS S4) (lookD []) L4 0 false Tryz.f4
theorem B4_ok : FnOk Tryz.prog E 4 B4 := bodyC_ok sound mix S4_ok (SD := []) trivial (L := L4) (N := 0) (keep := false) Tryz.func4 rfl (by
  intro k g hg fr st out ho
  match k, hg with
  | _, hg => cases hg)
theorem F4 : (B4 [] []).get = N.law12_StoreForms_k N.fuel (fun x_ => some (.ret [.val .bool x_], [])) := by kernel_rfl
noncomputable def i4 : Ins E (Res E.T × St E.T) := ⟨[], [], .opt (N.law12_StoreForms N.fuel) fun x_ => .ret (.ret [.val .bool x_], [])⟩
theorem i4_ok : InsOk Tryz.prog 4 i4 := ⟨B4, B4_ok, by intro out_ h_; exact ((F4).trans (N.law12_StoreForms_bind N.fuel _)).trans h_⟩
noncomputable def P4 : Nat × D.Spec E := (4, .pure [] (pureF [i4]))
theorem p4 : SpecOk Tryz.prog E P4.1 P4.2 := pureI_ok Tryz.call4 ⟨i4_ok, trivial⟩
noncomputable def L5 : Nat → LoopInfo E := clL E 133 [] []
end Go.Proofs.YtinbnobanikfmaaGreatDoor.S

set_option linter.unusedSimpArgs false
namespace Go.Proofs.YtinbnobanikfmaaGreatDoor.N
open Go
theorem wi64_of {n : Int} (h1 : -9223372036854775808 ≤ n) (h2 : n ≤ 9223372036854775807) : wi64 n = n := by
  unfold wi64; rw [IntKind.wrap_i64]; omega
theorem some_bind {α β : Type} (a : α) (f : α → Option β) : (some a).bind f = f a := rfl
theorem i8_lo (x : UInt8) : 0 ≤ i8 x := Int.natCast_nonneg _
theorem i8_hi (x : UInt8) : i8 x < 256 := by have := x.toNat_lt; unfold i8; omega
theorem i8_inj {x y : UInt8} (h : i8 x = i8 y) : x = y := UInt8.toNat_inj.1 (by unfold i8 at h; omega)
theorem i8_b8 {n : Int} (h : 0 ≤ n) (h2 : n < 256) : i8 (b8 n) = n := by
  unfold i8 b8
  rw [UInt8.toNat_ofNat_of_lt' (by show n.toNat < 256; omega)]
  omega
theorem inR_of {i : Int} {n : Nat} (h : 0 ≤ i) (h2 : i < n) : inR i n = true := by
  unfold inR; simp [h, h2]
theorem at_of {α : Type} {xs : List α} {i : Nat} {a : α} (h : xs[i]? = some a) : i < xs.length := (List.getElem?_eq_some_iff.1 h).1
def runL {A S X : Type} (g : A → S → Option (S ⊕ X)) (fin : S → X) : List A → S → Option X
  | [], s => some (fin s)
  | a :: r, s => (g a s).bind fun o => alt o (fun s' => runL g fin r s') (fun x => some x)
theorem iter_list {A S V X : Type} {step : V → Option (V ⊕ X)} {xs : List A} {mk : Nat → S → V} {g : A → S → Option (S ⊕ X)} {fin : S → X}
    (hc : ∀ i s a, xs[i]? = some a → step (mk i s) = (g a s).map (Sum.map (mk (i + 1)) id)) (he : ∀ s, step (mk xs.length s) = some (.inr (fin s))) :
    ∀ (r : List A) (i : Nat) (s : S) (n : Nat), xs.drop i = r → i ≤ xs.length → r.length < n → iter step n (mk i s) = runL g fin r s
  | _, _, _, 0, _, _, h => absurd h (Nat.not_lt_zero _)
  | [], i, s, n + 1, hd, hi, _ => by
    have : xs.length ≤ i := List.drop_eq_nil_iff.1 hd
    have : i = xs.length := Nat.le_antisymm hi this
    subst this
    rw [iter_succ, he]
    rfl
  | a :: r, i, s, n + 1, hd, hi, hn => by
    have hlt : i < xs.length := by
      rcases Nat.lt_or_ge i xs.length with h | h
      · exact h
      · rw [List.drop_eq_nil_iff.2 h] at hd; cases hd
    have ha : xs[i]? = some a := by
      have := List.getElem?_drop (xs := xs) (i := i) (j := 0)
      rw [hd] at this
      simpa using this.symm
    have hr : xs.drop (i + 1) = r := by
      have := List.drop_drop (l := xs) (i := 1) (j := i)
      rw [hd] at this
      simpa using this.symm
    rw [iter_succ, hc i s a ha, runL]
    cases hg : g a s with
    | none => rfl
    | some o =>
      simp only [Option.map_some, Option.bind_some]
      cases o with
      | inl s' => exact iter_list hc he r (i + 1) s' n hr hlt (by simp at hn; omega)
      | inr x => rfl
theorem iter_list0 {A S V X : Type} {step : V → Option (V ⊕ X)} {xs : List A} (mk : Nat → S → V) (g : A → S → Option (S ⊕ X)) (fin : S → X)
    (hc : ∀ i s a, xs[i]? = some a → step (mk i s) = (g a s).map (Sum.map (mk (i + 1)) id)) (he : ∀ s, step (mk xs.length s) = some (.inr (fin s))) (s : S) (hn : xs.length < fuel) :
    iter step fuel (mk 0 s) = runL g fin xs s := iter_list hc he xs 0 s fuel rfl (Nat.zero_le _) hn
theorem fuel_gt {n : Nat} (h : n < 4294967296) : n < fuel := by rw [fuel_eq]; exact h
theorem runL_all {A X : Type} (p : A → Bool) (x y : X) : ∀ l : List A, runL (S := Unit) (fun a _ => bif p a then some (.inl ()) else some (.inr x)) (fun _ => y) l () = some (bif l.all p then y else x)
  | [] => rfl
  | a :: r => by
    rw [runL, List.all_cons]
    cases p a with
    | true => exact runL_all p x y r
    | false => rfl
open Go
theorem lt_dec {i n : Nat} (h : i < n) : decide ((i : Int) < (n : Int)) = true := decide_eq_true (by omega)
theorem ge_dec (n : Nat) : decide ((n : Int) < (n : Int)) = false := decide_eq_false (by omega)
theorem inR_nat {i n : Nat} (h : i < n) : inR (i : Int) n = true := inR_of (by omega) (by omega)
theorem wi64_succ {i : Nat} (h : i < 4294967296) : wi64 ((i : Int) + 1) = ((i + 1 : Nat) : Int) := by rw [wi64_of (by omega) (by omega)]; omega
def okc (a : UInt8) : Bool := !(decide (i8 a < 33)) && !(decide (i8 a > 126))
def mayName (s : List UInt8) : Bool := s.all okc && (decide ((s.length : Int) ≥ 1) && decide ((s.length : Int) ≤ 8))
theorem dir_May_ok (s : List UInt8) (h : s.length < 4294967296) : dir_May fuel s = some (mayName s) := by
  have hl : dir_May_l0 fuel s (s.length : Int) s 0 = some (bif s.all okc then .inr () else .inl ()) := by
    unfold dir_May_l0
    rw [← runL_all okc (Sum.inl ()) (Sum.inr ()) s]
    refine iter_list0 (xs := s) (fun i (_ : Unit) => (i : Int)) _ _ (fun i _ a ha => ?_) (fun _ => ?_) () (fuel_gt h)
    · have hi := at_of ha
      simp only [dir_May_s0, dir_May_s0k, lt_dec hi, inR_nat hi, Int.toNat_natCast, ha, cond_true, some_bind, wi64_succ (Nat.lt_trans hi h), okc]
      cases decide (i8 a < 33) <;> cases decide (i8 a > 126) <;> rfl
    · simp only [dir_May_s0, dir_May_s0k, ge_dec, cond_false]
  unfold dir_May dir_May_k
  rw [hl, some_bind]
  unfold mayName
  cases s.all okc <;> cases decide ((s.length : Int) ≥ 1) <;> rfl
theorem ref7_MayName_ok (s : List UInt8) (h : s.length < 4294967296) : ref7_MayName fuel s = some (mayName s) := by
  have hl : ref7_MayName_l0 fuel s 0 = some (bif s.all okc then .inr () else .inl ()) := by
    unfold ref7_MayName_l0
    rw [← runL_all okc (Sum.inl ()) (Sum.inr ()) s]
    refine iter_list0 (xs := s) (fun i (_ : Unit) => (i : Int)) _ _ (fun i _ a ha => ?_) (fun _ => ?_) () (fuel_gt h)
    · have hi := at_of ha
      simp only [ref7_MayName_s0, ref7_MayName_s0k, lt_dec hi, inR_nat hi, Int.toNat_natCast, ha, cond_true, some_bind, wi64_succ (Nat.lt_trans hi h), okc]
      cases decide (i8 a < 33) <;> cases decide (i8 a > 126) <;> rfl
    · simp only [ref7_MayName_s0, ref7_MayName_s0k, ge_dec, cond_false]
  unfold ref7_MayName ref7_MayName_k
  rw [hl, some_bind]
  unfold mayName
  cases s.all okc <;> cases decide ((s.length : Int) ≥ 1) <;> rfl
open Go
open Go
def byteAt (v : Int) (k : Nat) : UInt8 := b8 (wu8 (shrI .i64 v (wi64 (8 * (k : Int)))))
def be : Nat → Int → List UInt8
  | 0, _ => []
  | k + 1, v => byteAt v k :: be k v
theorem be_len : ∀ (k : Nat) (v : Int), (be k v).length = k
  | 0, _ => rfl
  | k + 1, v => by rw [be, List.length_cons, be_len k v]
theorem put_loop (v : Int) : ∀ (i : Nat) (b : List UInt8) (n : Nat), i < n → i ≤ 8 → b.length + i ≤ lim → iter (bits_Put_s0 v) n ((i : Int) - 1, b) = some (b ++ be i v)
  | _, _, 0, h, _, _ => absurd h (Nat.not_lt_zero _)
  | 0, b, n + 1, _, _, _ => by
    rw [iter_succ]
    simp only [bits_Put_s0, bits_Put_s0k]
    rw [decide_eq_false (by omega)]
    show some b = some (b ++ [])
    rw [List.append_nil]
  | i + 1, b, n + 1, h, h8, hl => by
    rw [iter_succ]
    simp only [bits_Put_s0, bits_Put_s0k]
    have e : ((i + 1 : Nat) : Int) - 1 = (i : Int) := by omega
    rw [e, decide_eq_true (show (i : Int) ≥ 0 by omega), wi64_of (show -9223372036854775808 ≤ 8 * (i : Int) by omega) (by omega), decide_eq_false (show ¬ 8 * (i : Int) < 0 by omega), decide_eq_true (show b.length + 1 ≤ lim by omega)]
    simp only [cond_true, cond_false, some_bind, alt_inl]
    rw [wi64_of (by omega) (by omega), put_loop v i _ n (by omega) (by omega) (by rw [List.length_append]; simp only [List.length_cons, List.length_nil]; omega), List.append_assoc]
    rw [show be (i + 1) v = byteAt v i :: be i v from rfl]
    unfold byteAt
    rw [wi64_of (show -9223372036854775808 ≤ 8 * (i : Int) by omega) (by omega)]
    rfl
theorem bits_Put_ok (b : List UInt8) (v : Int) (k : Nat) (h1 : 1 ≤ k) (h8 : k ≤ 8) (hb : b.length + k ≤ lim) : bits_Put fuel b v (k : Int) = some (b ++ be k v) := by
  unfold bits_Put bits_Put_k bits_Put_l0
  rw [decide_eq_false (show ¬ (k : Int) < 1 by omega), decide_eq_false (show ¬ (k : Int) > 8 by omega), wi64_of (by omega) (by omega)]
  simp only [cond_false]
  rw [put_loop v k b fuel (fuel_gt (by omega)) h8 hb]
  rfl
theorem put1 (b : List UInt8) (v : Int) (h : b.length + 1 ≤ lim) : bits_Put fuel b v 1 = some (b ++ be 1 v) := bits_Put_ok b v 1 (by omega) (by omega) h
theorem put4 (b : List UInt8) (v : Int) (h : b.length + 4 ≤ lim) : bits_Put fuel b v 4 = some (b ++ be 4 v) := bits_Put_ok b v 4 (by omega) (by omega) h
def txt (s : List UInt8) : List UInt8 := b8 (s.length : Int) :: s
theorem txt_len (s : List UInt8) : (txt s).length = s.length + 1 := rfl
theorem wu8_of {n : Int} (h : 0 ≤ n) (h2 : n < 256) : wu8 n = n := by unfold wu8; rw [IntKind.wrap_u8]; omega
theorem bits_Text_ok (b s : List UInt8) (hs : s.length ≤ 255) (hb : b.length + 256 ≤ lim) : bits_Text b s = some (b ++ txt s) := by
  unfold bits_Text bits_Text_k
  rw [decide_eq_false (show ¬ (s.length : Int) > 255 by omega), decide_eq_true (show b.length + 1 ≤ lim by omega), wu8_of (by omega) (by omega), decide_eq_true (by rw [List.length_append]; simp only [List.length_cons, List.length_nil]; omega)]
  simp only [cond_true, cond_false, List.append_assoc]
  rfl
open Go
theorem lim_eq : lim = 2147483648 := rfl
theorem mayName_iff {s : List UInt8} : mayName s = true → 1 ≤ s.length ∧ s.length ≤ 8 := by
  intro h
  simp [mayName] at h
  omega
open Go
def val (l : List UInt8) : Int := l.foldl (fun v x => v * 256 + i8 x) 0
def num (k : Nat) (b : List UInt8) : Option (Int × List UInt8) := if b.length < k then none else some (val (b.take k), b.drop k)
theorem bor_add {v x : Nat} (hv : v < 36028797018963968) (hx : x < 256) : bor .i64 (shlI .i64 (v : Int) 8) (x : Int) = (v : Int) * 256 + (x : Int) := by
  have h1 : shlI .i64 (v : Int) 8 = ((v <<< 8 : Nat) : Int) := by
    unfold shlI
    have : min (8 : Int).toNat IntKind.i64.bits = 8 := rfl
    rw [this, Nat.shiftLeft_eq]
    show wi64 ((v : Int) * 2 ^ 8) = _
    rw [wi64_of (by omega) (by omega)]
    omega
  rw [h1]
  unfold bor
  have h64 : IntKind.i64.bits = 64 := rfl
  have hs : v <<< 8 < 2 ^ 64 := by rw [Nat.shiftLeft_eq]; omega
  rw [h64, BitVec.ofInt_natCast, BitVec.ofInt_natCast, BitVec.toNat_or, BitVec.toNat_ofNat, BitVec.toNat_ofNat, Nat.mod_eq_of_lt hs, Nat.mod_eq_of_lt (show x < 2 ^ 64 by omega), ← Nat.shiftLeft_add_eq_or_of_lt (show x < 2 ^ 8 by omega), Nat.shiftLeft_eq]
  show wi64 _ = _
  rw [wi64_of (by omega) (by omega)]
  omega
theorem val_step (v : Int) (x : UInt8) (h0 : 0 ≤ v) (h1 : v < 36028797018963968) : bor .i64 (shlI .i64 v 8) (wi64 (i8 x)) = v * 256 + i8 x := by
  have e := bor_add (v := v.toNat) (x := x.toNat) (by omega) x.toNat_lt
  have hx0 := i8_lo x
  have hx1 := i8_hi x
  rw [wi64_of (by omega) (by omega)]
  have e1 : ((v.toNat : Nat) : Int) = v := by omega
  rw [e1] at e
  exact e
theorem fold_bound : ∀ (l : List UInt8) (v : Int), 0 ≤ v → 0 ≤ l.foldl (fun v x => v * 256 + i8 x) v ∧ l.foldl (fun v x => v * 256 + i8 x) v < (v + 1) * 256 ^ l.length
  | [], v, h => by simp; omega
  | x :: r, v, h => by
    have h1 := i8_lo x
    have h2 := i8_hi x
    obtain ⟨g1, g2⟩ := fold_bound r (v * 256 + i8 x) (by omega)
    refine ⟨g1, ?_⟩
    have h3 : (v * 256 + i8 x + 1) ≤ (v + 1) * 256 := by omega
    have h4 : (0 : Int) ≤ 256 ^ r.length := by have : (0 : Int) < 256 ^ r.length := Int.pow_pos (by omega); omega
    have h5 := Int.mul_le_mul_of_nonneg_right h3 h4
    have h6 : (v + 1) * 256 ^ (x :: r).length = (v + 1) * 256 * 256 ^ r.length := by rw [List.length_cons, Int.pow_succ, Int.mul_assoc, Int.mul_comm (256 ^ r.length) 256]
    rw [h6]
    exact Int.lt_of_lt_of_le g2 h5
theorem val_lo (l : List UInt8) : 0 ≤ val l := (fold_bound l 0 (Int.le_refl _)).1
theorem val_hi (l : List UInt8) : val l < 256 ^ l.length := by have := (fold_bound l 0 (Int.le_refl _)).2; rw [Int.zero_add, Int.one_mul] at this; exact this
theorem pow_le7 {k : Nat} (h : k ≤ 6) : (256 : Int) ^ k ≤ 281474976710656 := by
  have : k = 0 ∨ k = 1 ∨ k = 2 ∨ k = 3 ∨ k = 4 ∨ k = 5 ∨ k = 6 := by omega
  rcases this with rfl | rfl | rfl | rfl | rfl | rfl | rfl <;> decide
theorem take_loop (l : List UInt8) (ok : Bool) (h7 : l.length ≤ 7) : bits_Take_l0 fuel l (l.length : Int) ok 0 0 = some (val l) := by
  have key : ∀ (r p : List UInt8) (n : Nat), l = p ++ r → r.length < n → iter (bits_Take_s0 l (l.length : Int) ok) n (val p, (p.length : Int)) = some (val l) := by
    intro r
    induction r with
    | nil =>
      intro p n hp hn
      rw [List.append_nil] at hp
      subst hp
      cases n with
      | zero => exact absurd hn (Nat.not_lt_zero _)
      | succ n =>
        rw [iter_succ]
        simp only [bits_Take_s0, bits_Take_s0k, ge_dec, cond_false, some_bind, alt_inr]
    | cons x r ih =>
      intro p n hp hn
      have hlt : p.length < l.length := by rw [hp]; simp
      have hx : l[p.length]? = some x := by rw [hp]; simp
      cases n with
      | zero => exact absurd hn (Nat.not_lt_zero _)
      | succ n =>
        rw [iter_succ]
        simp only [bits_Take_s0, bits_Take_s0k, lt_dec hlt, inR_nat hlt, Int.toNat_natCast, hx, cond_true, some_bind, alt_inl]
        have hb := val_hi p
        have hp6 := pow_le7 (k := p.length) (by omega)
        rw [val_step _ _ (val_lo p) (by omega), wi64_succ (by omega)]
        have e : val p * 256 + i8 x = val (p ++ [x]) := by unfold val; rw [List.foldl_append]; rfl
        have e2 : ((p.length + 1 : Nat) : Int) = ((p ++ [x]).length : Int) := by simp
        rw [e, e2]
        exact ih (p ++ [x]) n (by rw [hp]; simp) (by simp at hn; omega)
  exact key l [] fuel rfl (fuel_gt (by omega))
theorem cutOk_of {lo hi : Int} {n : Nat} (h1 : 0 ≤ lo) (h2 : lo ≤ hi) (h3 : hi ≤ n) : cutOk lo hi n = true := by
  unfold cutOk; simp [h1, h2, h3]
theorem cut_front {α : Type} (b : List α) (k : Nat) : cutL b 0 (k : Int) = b.take k := by
  unfold cutL; simp
theorem cut_back {α : Type} (b : List α) (k : Nat) : cutL b (k : Int) (b.length : Int) = b.drop k := by
  unfold cutL; simp
theorem bits_front_ok (b : List UInt8) (k : Nat) : bits_front b (k : Int) = some (if b.length < k then .inr () else .inl (b.take k)) := by
  unfold bits_front bits_front_k
  by_cases h : b.length < k
  · rw [decide_eq_true (show (b.length : Int) < k by omega), if_pos h]; rfl
  · rw [decide_eq_false (show ¬ (b.length : Int) < k by omega), if_neg h, cutOk_of (by omega) (by omega) (by omega), cut_front]; rfl
theorem bits_Take_ok (b : List UInt8) (k : Nat) (h1 : 1 ≤ k) (h7 : k ≤ 7) : bits_Take fuel b (k : Int) = some (match num k b with | some (v, _) => (v, true) | none => (0, false)) := by
  unfold bits_Take bits_Take_k
  rw [decide_eq_false (show ¬ (k : Int) < 1 by omega), decide_eq_false (show ¬ (k : Int) > 7 by omega), bits_front_ok]
  unfold num
  by_cases h : b.length < k
  · rw [if_pos h, if_pos h]; rfl
  · have hl : (b.take k).length = k := by rw [List.length_take]; omega
    rw [if_neg h, if_neg h]
    simp only [cond_false, some_bind, alt_inl]
    rw [take_loop _ _ (by omega)]
    rfl
def text : List UInt8 → Option (List UInt8 × List UInt8)
  | [] => none
  | x :: r => if r.length < x.toNat then none else some (r.take x.toNat, r.drop x.toNat)
theorem text_cons (x : UInt8) (r : List UInt8) : text (x :: r) = if r.length < x.toNat then none else some (r.take x.toNat, r.drop x.toNat) := rfl
theorem take_text_ok (b : List UInt8) (hb : b.length ≤ lim) : bits_TakeText b = some (match text b with | some (s, _) => (s, (s.length : Int) + 1, true) | none => ([], 0, false)) := by
  unfold bits_TakeText bits_TakeText_k
  have h1 := bits_front_ok b 1
  rw [show ((1 : Nat) : Int) = 1 from rfl] at h1
  rw [h1]
  cases b with
  | nil => rfl
  | cons x r =>
    have hx0 := i8_lo x
    have hx1 := i8_hi x
    rw [if_neg (by simp)]
    simp only [some_bind, alt_inl]
    have h2 : inR 0 ((x :: r).take 1).length = true := inR_of (by omega) (by simp)
    have h3 : ((x :: r).take 1)[0]? = some x := rfl
    rw [h2, h3]
    simp only [cond_true, some_bind]
    rw [wi64_of (show -9223372036854775808 ≤ i8 x by omega) (by omega), wi64_of (show -9223372036854775808 ≤ i8 x + 1 by omega) (by omega)]
    rw [text_cons]
    by_cases h : r.length < x.toNat
    · rw [if_pos h, decide_eq_true (by rw [List.length_cons]; show ((r.length + 1 : Nat) : Int) < ((x.toNat : Nat) : Int) + 1; omega)]; rfl
    · have e : cutL (x :: r) 1 (i8 x + 1) = r.take x.toNat := by
        unfold cutL
        have : (i8 x + 1).toNat = x.toNat + 1 := by unfold i8; omega
        rw [this]
        simp
      rw [if_neg h, decide_eq_false (by rw [List.length_cons]; show ¬ ((r.length + 1 : Nat) : Int) < ((x.toNat : Nat) : Int) + 1; omega), cutOk_of (by omega) (by omega) (by rw [List.length_cons]; show ((x.toNat : Nat) : Int) + 1 ≤ ((r.length + 1 : Nat) : Int); omega), e]
      have e2 : ((r.take x.toNat).length : Int) = i8 x := by rw [List.length_take]; unfold i8; omega
      simp only [cond_false, cond_true, e2]
open Go
theorem num_parts {k : Nat} {b : List UInt8} {v : Int} {r : List UInt8} (h : num k b = some (v, r)) : r.length + k = b.length ∧ 0 ≤ v ∧ v < 256 ^ k ∧ v = val (b.take k) ∧ r = b.drop k := by
  unfold num at h
  by_cases hl : b.length < k
  · rw [if_pos hl] at h; cases h
  · rw [if_neg hl] at h
    cases h
    have e : (b.take k).length = k := by rw [List.length_take]; omega
    have := val_hi (b.take k)
    rw [e] at this
    exact ⟨by rw [List.length_drop]; omega, val_lo _, this, rfl, rfl⟩
open Go
open Go
theorem i8_byteAt {v : Int} (h : 0 ≤ v) (k : Nat) (hk : k ≤ 3) : i8 (byteAt v k) = v / 256 ^ k % 256 := by
  have key : ∀ s : Int, byteAt v k = b8 (wu8 s) → i8 (byteAt v k) = s % 256 := by
    intro s hs
    rw [hs]
    have e : wu8 s = s % 256 := by unfold wu8; rw [IntKind.wrap_u8]
    rw [e, i8_b8 (by omega) (by omega)]
  have h3 : k = 0 ∨ k = 1 ∨ k = 2 ∨ k = 3 := by omega
  rcases h3 with rfl | rfl | rfl | rfl
  · refine key (v / 256 ^ 0) (congrArg (fun s => b8 (wu8 s)) ?_)
    rw [wi64_of (by omega) (by omega)]
    show v.fdiv 1 = v / 1
    rw [Int.fdiv_eq_ediv_of_nonneg _ (by omega)]
  · refine key (v / 256 ^ 1) (congrArg (fun s => b8 (wu8 s)) ?_)
    rw [wi64_of (by omega) (by omega)]
    show v.fdiv 256 = v / 256
    rw [Int.fdiv_eq_ediv_of_nonneg _ (by omega)]
  · refine key (v / 256 ^ 2) (congrArg (fun s => b8 (wu8 s)) ?_)
    rw [wi64_of (by omega) (by omega)]
    show v.fdiv 65536 = v / 65536
    rw [Int.fdiv_eq_ediv_of_nonneg _ (by omega)]
  · refine key (v / 256 ^ 3) (congrArg (fun s => b8 (wu8 s)) ?_)
    rw [wi64_of (by omega) (by omega)]
    show v.fdiv 16777216 = v / 16777216
    rw [Int.fdiv_eq_ediv_of_nonneg _ (by omega)]
theorem val_be1 {v : Int} (h : 0 ≤ v) (h2 : v < 256) : val (be 1 v) = v := by
  have e0 := i8_byteAt h 0 (by omega)
  show 0 * 256 + i8 (byteAt v 0) = v
  rw [e0]
  have : (256 : Int) ^ 0 = 1 := rfl
  rw [this]
  omega
theorem val_be4 {v : Int} (h : 0 ≤ v) (h2 : v < 4294967296) : val (be 4 v) = v := by
  have e0 := i8_byteAt h 0 (by omega)
  have e1 := i8_byteAt h 1 (by omega)
  have e2 := i8_byteAt h 2 (by omega)
  have e3 := i8_byteAt h 3 (by omega)
  show (((0 * 256 + i8 (byteAt v 3)) * 256 + i8 (byteAt v 2)) * 256 + i8 (byteAt v 1)) * 256 + i8 (byteAt v 0) = v
  rw [e0, e1, e2, e3]
  have h0 : (256 : Int) ^ 0 = 1 := rfl
  have h1 : (256 : Int) ^ 1 = 256 := rfl
  have h2 : (256 : Int) ^ 2 = 65536 := rfl
  have h3 : (256 : Int) ^ 3 = 16777216 := rfl
  rw [h0, h1, h2, h3]
  omega
theorem num_be {k : Nat} {v : Int} (h : val (be k v) = v) (s : List UInt8) : num k (be k v ++ s) = some (v, s) := by
  unfold num
  have e : (be k v).length = k := be_len k v
  rw [if_neg (by rw [List.length_append]; omega)]
  have h1 : (be k v ++ s).take k = be k v := by rw [List.take_append_of_le_length (by omega), List.take_of_length_le (by omega)]
  have h2 : (be k v ++ s).drop k = s := by rw [List.drop_append_of_le_length (by omega), List.drop_of_length_le (by omega)]; rfl
  rw [h1, h2, h]
theorem num1 {v : Int} (h : 0 ≤ v) (h2 : v < 256) (s : List UInt8) : num 1 (be 1 v ++ s) = some (v, s) := num_be (val_be1 h h2) s
theorem num4 {v : Int} (h : 0 ≤ v) (h2 : v < 4294967296) (s : List UInt8) : num 4 (be 4 v ++ s) = some (v, s) := num_be (val_be4 h h2) s
theorem text_txt (t s : List UInt8) (h : t.length ≤ 255) : text (txt t ++ s) = some (t, s) := by
  show text (b8 (t.length : Int) :: (t ++ s)) = _
  have e : (b8 (t.length : Int)).toNat = t.length := by
    have := i8_b8 (n := (t.length : Int)) (by omega) (by omega)
    unfold i8 at this
    omega
  rw [text_cons, e, if_neg (by rw [List.length_append]; omega), List.take_append_of_le_length (by omega), List.take_of_length_le (by omega), List.drop_append_of_le_length (by omega), List.drop_of_length_le (by omega)]
  rfl
open Go
def pok (p : Ttenancymade_Picks) : Prop := 0 ≤ p.n ∧ p.n ≤ 1000 ∧ p.l.length ≤ 1000
theorem made_ok (l : List UInt8) (h : l.length ≤ 1000) : pok (made_Made l) := ⟨Int.le_refl _, by show (0 : Int) ≤ 1000; omega, h⟩
theorem Num_ok (p : Ttenancymade_Picks) (hp : pok p) (m : Int) (h1 : 1 ≤ m) : ∃ r, made_Picks_Num m p = some r ∧ 0 ≤ r.1 ∧ r.1 < m ∧ pok r.2 := by
  obtain ⟨l, n⟩ := p
  obtain ⟨g1, g2, g3⟩ := hp
  simp only at g1 g2 g3
  unfold made_Picks_Num made_Picks_Num_k
  simp only
  by_cases hn : n ≥ (l.length : Int)
  · rw [decide_eq_true hn]
    exact ⟨_, rfl, Int.le_refl _, by show (0 : Int) < m; omega, g1, g2, g3⟩
  · rw [decide_eq_false hn, decide_eq_false (show ¬ m < 1 by omega), wi64_of (show -9223372036854775808 ≤ n + 1 by omega) (by omega)]
    have e : n + 1 - 1 = n := by omega
    rw [e, wi64_of (by omega) (by omega), inR_of g1 (by omega)]
    have hlt : n.toNat < l.length := by omega
    have hm : (m == 0) = false := by simp; omega
    rw [List.getElem?_eq_getElem hlt, hm]
    simp only [cond_false, cond_true, some_bind]
    have hx0 := i8_lo l[n.toNat]
    have hx1 := i8_hi l[n.toNat]
    rw [wi64_of (by omega) (by omega), Int.tmod_eq_emod_of_nonneg hx0]
    exact ⟨_, rfl, Int.emod_nonneg _ (by omega), Int.emod_lt_of_pos _ (by omega), by show 0 ≤ n + 1; omega, by show n + 1 ≤ 1000; omega, g3⟩
theorem iter_inv {V X : Type} {step : V → Option (V ⊕ X)} (I : Nat → V → Prop) (Q : X → Prop)
    (h : ∀ k v, I k v → ∃ o, step v = some o ∧ Sum.elim (fun v' => ∃ k', k' < k ∧ I k' v') Q o) :
    ∀ (k : Nat) (v : V) (n : Nat), I k v → k < n → ∃ x, iter step n v = some x ∧ Q x := by
  intro k
  induction k using Nat.strongRecOn with
  | _ k ih =>
    intro v n hi hn
    obtain ⟨o, ho, hq⟩ := h k v hi
    cases n with
    | zero => omega
    | succ n =>
      rw [iter_succ, ho]
      cases o with
      | inl v' =>
        obtain ⟨k', h1, h2⟩ := hq
        exact ih k' h1 v' n h2 (by omega)
      | inr x => exact ⟨x, rfl, hq⟩
theorem beq_of {α : Type} [BEq α] [LawfulBEq α] {a b : α} (h : a = b) : (a == b) = true := by rw [h]; exact beq_self_eq_true b
theorem beq_ne {α : Type} [BEq α] [LawfulBEq α] {a b : α} (h : a ≠ b) : (a == b) = false := by
  cases hb : a == b with
  | false => rfl
  | true => exact absurd (eq_of_beq hb) h
theorem cut_mid {α : Type} (b : List α) (i k : Nat) : cutL b (i : Int) ((i + k : Nat) : Int) = (b.drop i).take k := by
  unfold cutL
  rw [Int.toNat_natCast, Int.toNat_natCast, List.drop_take]
  congr 1
  omega
theorem ne_int {n : Nat} {k : Int} (h : (n : Int) ≠ k) : ((n : Int) != k) = true := by simp [h]
theorem eq_int {n : Nat} {k : Int} (h : (n : Int) = k) : ((n : Int) != k) = false := by simp [h]
open Go
def noFile : TFile := ⟨[], 0, []⟩
def fileOk (f : TFile) : Prop := f = noFile ∨ (mayName f.Name = true ∧ 1 ≤ f.Ver ∧ f.Ver ≤ 1073741824 ∧ f.Body.length ≤ 24)
def markOk (B : Int) (m : TMark) : Prop := 0 ≤ m.Seq ∧ m.Seq ≤ B ∧ 0 ≤ m.Err ∧ m.Err ≤ 3 ∧ 0 ≤ m.File ∧ m.File ≤ 6 ∧ 0 ≤ m.Ver ∧ m.Ver ≤ 1073741824
def once (l : List TFile) : Prop := ∀ (i j : Nat) (f g : TFile), l[i]? = some f → l[j]? = some g → f.Name ≠ [] → f.Name = g.Name → i = j
structure Good (B : Int) (s : TState) : Prop where
  nf : s.Files.length = 6
  nm : s.Marks.length = 3
  e0 : 0 ≤ s.Epoch
  e1 : s.Epoch ≤ 1073741824
  fs : ∀ f ∈ s.Files, fileOk f
  on : once s.Files
  ms : ∀ m ∈ s.Marks, markOk B m
theorem fileOk.name {f : TFile} (h : fileOk f) : f.Name.length ≤ 8 := by
  rcases h with rfl | ⟨h, _⟩
  · decide
  · exact (mayName_iff h).2
theorem fileOk.body {f : TFile} (h : fileOk f) : f.Body.length ≤ 24 := by
  rcases h with rfl | ⟨_, _, _, h⟩
  · decide
  · exact h
theorem fileOk.ver {f : TFile} (h : fileOk f) : 0 ≤ f.Ver ∧ f.Ver ≤ 1073741824 := by
  rcases h with rfl | ⟨_, h1, h2, _⟩
  · decide
  · exact ⟨by omega, h2⟩
theorem fileOk.none {f : TFile} (h : fileOk f) (hn : f.Name = []) : f = noFile := by
  rcases h with h | ⟨h, _⟩
  · exact h
  · have := (mayName_iff h).1
    rw [hn] at this
    simp at this
theorem fileOk.some {f : TFile} (h : fileOk f) (hn : f.Name ≠ []) : mayName f.Name = true ∧ 1 ≤ f.Ver := by
  rcases h with rfl | ⟨h, h2, _⟩
  · exact absurd rfl hn
  · exact ⟨h, h2⟩
theorem markOk.mono {B B' : Int} {m : TMark} (h : markOk B m) (hb : B ≤ B') : markOk B' m := ⟨h.1, Int.le_trans h.2.1 hb, h.2.2⟩
theorem Good.mono {B B' : Int} {s : TState} (h : Good B s) (hb : B ≤ B') : Good B' s := ⟨h.nf, h.nm, h.e0, h.e1, h.fs, h.on, fun m hm => (h.ms m hm).mono hb⟩
theorem mk_mark {B q e f v : Int} (hq : 0 ≤ q) (hq2 : q ≤ B) (e0 : 0 ≤ e) (e1 : e ≤ 3) (f0 : 0 ≤ f) (f1 : f ≤ 6) (v0 : 0 ≤ v) (v1 : v ≤ 1073741824) : markOk B ⟨q, e, f, v⟩ := ⟨hq, hq2, e0, e1, f0, f1, v0, v1⟩
theorem mk_file {n b : List UInt8} {v : Int} (h : mayName n = true) (v0 : 1 ≤ v) (v1 : v ≤ 1073741824) (hb : b.length ≤ 24) : fileOk ⟨n, v, b⟩ := .inr ⟨h, v0, v1, hb⟩
def newState : TState := ⟨[noFile, noFile, noFile, noFile, noFile, noFile], [⟨0, 0, 0, 0⟩, ⟨0, 0, 0, 0⟩, ⟨0, 0, 0, 0⟩], 0⟩
theorem new_ok : Good 1 newState := by
  refine ⟨rfl, rfl, by decide, by decide, fun f hf => ?_, fun i j f g hi _ hn _ => ?_, fun m hm => ?_⟩
  · simp only [newState, List.mem_cons, List.not_mem_nil, or_false, or_self] at hf
    exact .inl hf
  · have : f ∈ newState.Files := List.mem_of_getElem? hi
    simp only [newState, List.mem_cons, List.not_mem_nil, or_false, or_self] at this
    rw [this] at hn
    exact absurd rfl hn
  · simp only [newState, List.mem_cons, List.not_mem_nil, or_false, or_self] at hm
    subst hm
    exact ⟨by decide, by decide, by decide, by decide, by decide, by decide, by decide, by decide⟩
theorem PutMark_ok {B : Int} (l : List TMark) (hl : l.length = 3) (h : ∀ m ∈ l, markOk B m) (c : Int) (h1 : 1 ≤ c) (h3 : c ≤ 3) (m : TMark) (hm : markOk B m) :
    ∃ r, ref7_PutMark l c m = some r ∧ r.length = 3 ∧ ∀ x ∈ r, markOk B x := by
  unfold ref7_PutMark ref7_PutMark_k
  have hlt : (c - 1).toNat < l.length := by omega
  rw [decide_eq_true (show l.length ≤ lim by rw [lim_eq]; omega), decide_eq_true (show c ≥ 1 from h1), decide_eq_true (show c ≤ (l.length : Int) by omega), wi64_of (by omega) (by omega), inR_of (by omega) (by omega),
    List.getElem?_eq_getElem hlt]
  simp only [cond_true, some_bind]
  cases decide (m.Seq > l[(c - 1).toNat].Seq) with
  | false => exact ⟨l, rfl, hl, h⟩
  | true =>
    refine ⟨_, rfl, by rw [List.length_set]; exact hl, fun x hx => ?_⟩
    rcases List.mem_or_eq_of_mem_set hx with hx | rfl
    · exact h x hx
    · exact hm
theorem once_set {l : List TFile} (h : once l) (n : Nat) (f : TFile) (hf : f.Name = [] ∨ ∀ (j : Nat) g, l[j]? = some g → g.Name = f.Name → j = n) : once (l.set n f) := by
  intro i j x y hi hj hx he
  rw [List.getElem?_set] at hi hj
  by_cases h1 : n = i
  · by_cases h2 : n = j
    · omega
    · rw [if_neg h2] at hj
      rw [if_pos h1] at hi
      split at hi
      · cases hi
        rcases hf with hf | hf
        · exact absurd hf hx
        · have := hf j y hj he.symm
          omega
      · cases hi
  · rw [if_neg h1] at hi
    by_cases h2 : n = j
    · rw [if_pos h2] at hj
      split at hj
      · cases hj
        rcases hf with hf | hf
        · rw [hf] at he; exact absurd he hx
        · have := hf i x hi he
          omega
      · cases hj
    · rw [if_neg h2] at hj
      exact h i j x y hi hj hx he
theorem marked_none {B : Int} {s : TState} (hs : Good B s) (c : Int) (h1 : 1 ≤ c) (h3 : c ≤ 3) (m : TMark) (hm : markOk B m) (f : TFile) :
    ∃ t, ref7_marked s c m 0 f = some t ∧ Good B t := by
  obtain ⟨r, e, g1, g2⟩ := PutMark_ok s.Marks hs.nm hs.ms c h1 h3 m hm
  unfold ref7_marked ref7_marked_k
  rw [e, some_bind, decide_eq_true (show s.Files.length ≤ lim by rw [lim_eq, hs.nf]; omega)]
  exact ⟨_, rfl, hs.nf, g1, hs.e0, hs.e1, hs.fs, hs.on, g2⟩
theorem marked_at {B : Int} {s : TState} (hs : Good B s) (c : Int) (h1 : 1 ≤ c) (h3 : c ≤ 3) (m : TMark) (hm : markOk B m) (n : Nat) (hn : n < 6) (f : TFile) (hf : fileOk f) (hf2 : f.Name = [] ∨ ∀ (j : Nat) g, s.Files[j]? = some g → g.Name = f.Name → j = n) :
    ∃ t, ref7_marked s c m ((n : Int) + 1) f = some t ∧ Good B t := by
  obtain ⟨r, e, g1, g2⟩ := PutMark_ok s.Marks hs.nm hs.ms c h1 h3 m hm
  have hlt : n < s.Files.length := by rw [hs.nf]; exact hn
  unfold ref7_marked ref7_marked_k
  rw [e, some_bind, decide_eq_true (show s.Files.length ≤ lim by rw [lim_eq, hs.nf]; omega), decide_eq_true (show (n : Int) + 1 > 0 by omega), wi64_of (by omega) (by omega), show (n : Int) + 1 - 1 = (n : Int) by omega,
    inR_nat hlt, Int.toNat_natCast, List.getElem?_eq_getElem hlt]
  refine ⟨_, rfl, by show (s.Files.set n f).length = 6; rw [List.length_set]; exact hs.nf, g1, hs.e0, hs.e1, fun x hx => ?_, once_set hs.on n f hf2, g2⟩
  rcases List.mem_or_eq_of_mem_set hx with hx | rfl
  · exact hs.fs x hx
  · exact hf
def found (l : List TFile) (name : List UInt8) (r : Int × Bool) : Prop :=
  (r.2 = true ∧ mayName name = true ∧ ∃ (i : Nat) (f : TFile), r.1 = (i : Int) + 1 ∧ l[i]? = some f ∧ f.Name = name ∧ ∀ (j : Nat) g, j < i → l[j]? = some g → g.Name ≠ name) ∨
  (r = (0, false) ∧ (mayName name = true → ∀ (j : Nat) g, l[j]? = some g → g.Name ≠ name))
theorem Find_ok (l : List TFile) (name : List UInt8) (hl : l.length ≤ 1000) (hn : name.length < 4294967296) : ∃ r, ref7_Find fuel l name = some r ∧ found l name r := by
  unfold ref7_Find ref7_Find_k ref7_Find_l0
  obtain ⟨x, e, hx⟩ := iter_inv (step := ref7_Find_s0 fuel l name) (fun k v => ∃ i : Nat, v = (i : Int) ∧ i + k = l.length ∧ ∀ (j : Nat) g, j < i → l[j]? = some g → g.Name ≠ name)
    (fun o => Sum.elim (fun a => found l name (a, true)) (fun _ => found l name (0, false)) o) (fun k v hI => by
    obtain ⟨i, rfl, hk, hj⟩ := hI
    simp only [ref7_Find_s0, ref7_Find_s0k, ref7_MayName_ok name hn, some_bind]
    by_cases hi : i < l.length
    · rw [lt_dec hi]
      cases hm : mayName name with
      | false => exact ⟨_, rfl, .inr ⟨rfl, fun h => by rw [hm] at h; cases h⟩⟩
      | true =>
        simp only [cond_true]
        rw [inR_nat hi, Int.toNat_natCast, List.getElem?_eq_getElem hi]
        simp only [cond_true, some_bind]
        rw [wi64_succ (by omega)]
        by_cases hnm : l[i].Name = name
        · rw [beq_of hnm]
          exact ⟨_, rfl, .inl ⟨rfl, hm, i, l[i], by show ((i + 1 : Nat) : Int) = _; omega, List.getElem?_eq_getElem hi, hnm, hj⟩⟩
        · rw [beq_ne hnm]
          refine ⟨_, rfl, k - 1, by omega, i + 1, rfl, by omega, fun j g hji hg => ?_⟩
          by_cases h : j = i
          · subst h
            rw [List.getElem?_eq_getElem hi] at hg
            cases hg
            exact hnm
          · exact hj j g (by omega) hg
    · obtain rfl : i = l.length := by omega
      rw [ge_dec]
      refine ⟨_, rfl, .inr ⟨rfl, fun _ j g hg => hj j g (at_of hg) hg⟩⟩) l.length (0 : Int) fuel ⟨0, rfl, by omega, fun j g h => by omega⟩ (fuel_gt (by omega))
  rw [e, some_bind]
  cases x with
  | inl a => exact ⟨_, rfl, hx⟩
  | inr a => exact ⟨_, rfl, hx⟩
def roomy (l : List TFile) (r : Int × Bool) : Prop :=
  (r.2 = true ∧ ∃ (i : Nat) (f : TFile), r.1 = (i : Int) + 1 ∧ l[i]? = some f ∧ f.Name = []) ∨ (r.2 = false)
theorem Room_ok (l : List TFile) (hl : l.length ≤ 1000) : ∃ r, ref7_Room fuel l = some r ∧ roomy l r := by
  unfold ref7_Room ref7_Room_k ref7_Room_l0
  obtain ⟨x, e, hx⟩ := iter_inv (step := ref7_Room_s0 l) (fun k v => ∃ i : Nat, v = (i : Int) ∧ i + k = l.length)
    (fun o => Sum.elim (fun a => roomy l (a, true)) (fun _ => roomy l (0, false)) o) (fun k v hI => by
    obtain ⟨i, rfl, hk⟩ := hI
    simp only [ref7_Room_s0, ref7_Room_s0k]
    by_cases hi : i < l.length
    · rw [lt_dec hi, inR_nat hi, Int.toNat_natCast, List.getElem?_eq_getElem hi]
      simp only [cond_true, some_bind]
      rw [wi64_succ (by omega)]
      by_cases hnm : l[i].Name = []
      · rw [beq_of hnm]
        exact ⟨_, rfl, .inl ⟨rfl, i, l[i], by show ((i + 1 : Nat) : Int) = _; omega, List.getElem?_eq_getElem hi, hnm⟩⟩
      · rw [beq_ne hnm]
        exact ⟨_, rfl, k - 1, by omega, i + 1, rfl, by omega⟩
    · obtain rfl : i = l.length := by omega
      rw [ge_dec]
      exact ⟨_, rfl, .inr rfl⟩) l.length (0 : Int) fuel ⟨0, rfl, by omega⟩ (fuel_gt (by omega))
  rw [e, some_bind]
  cases x with
  | inl a => exact ⟨_, rfl, hx⟩
  | inr a => exact ⟨_, rfl, hx⟩
theorem Open_ok {B : Int} {s : TState} (hs : Good B s) (c : Int) (h1 : 1 ≤ c) (h3 : c ≤ 3) (q : Int) (hq : 0 ≤ q) (hq2 : q ≤ B) (name : List UInt8) (hn : name.length < 4294967296) :
    ∃ t, ref7_Open fuel s c q name = some t ∧ Good B t.1 := by
  unfold ref7_Open ref7_Open_k
  rw [ref7_MayName_ok name hn, some_bind]
  cases hm : mayName name with
  | false =>
    obtain ⟨t, e, ht⟩ := marked_none hs c h1 h3 ⟨q, 1, 0, 0⟩ (mk_mark hq hq2 (by decide) (by decide) (by decide) (by decide) (by decide) (by decide)) (TFile.mk [] 0 [])
    rw [e, some_bind]
    exact ⟨_, rfl, ht⟩
  | true =>
    simp only [Bool.not_true, cond_false]
    obtain ⟨r, e, hr⟩ := Find_ok s.Files name (by rw [hs.nf]; omega) hn
    rw [e, some_bind]
    rcases hr with ⟨h2, _, i, f, hi, hf, hfn, _⟩ | ⟨rfl, hno⟩
    · have hlt := at_of hf
      have hlt6 : i < 6 := by rw [hs.nf] at hlt; exact hlt
      have hfo := hs.fs f (List.mem_of_getElem? hf)
      rw [h2, hi, wi64_of (by omega) (by omega), show (i : Int) + 1 - 1 = (i : Int) by omega, inR_nat hlt, Int.toNat_natCast, hf]
      simp only [cond_true, some_bind]
      obtain ⟨t, e, ht⟩ := marked_none hs c h1 h3 ⟨q, 0, (i : Int) + 1, f.Ver⟩ (mk_mark hq hq2 (by decide) (by decide) (by omega) (by omega) (hfo.ver.1) (hfo.ver.2)) (TFile.mk [] 0 [])
      rw [e, some_bind]
      exact ⟨_, rfl, ht⟩
    · simp only [cond_false]
      obtain ⟨r, e, hr⟩ := Room_ok s.Files (by rw [hs.nf]; omega)
      rw [e, some_bind]
      rcases hr with ⟨h2, i, f, hi, hf, hfn⟩ | h2
      · have hlt := at_of hf
        have hlt6 : i < 6 := by rw [hs.nf] at hlt; exact hlt
        rw [h2, hi]
        simp only [Bool.not_true, cond_false]
        obtain ⟨t, e, ht⟩ := marked_at hs c h1 h3 ⟨q, 0, (i : Int) + 1, 1⟩ (mk_mark hq hq2 (by decide) (by decide) (by omega) (by omega) (by decide) (by decide)) i hlt6 (TFile.mk name 1 []) (mk_file hm (by decide) (by decide) (by decide))
          (.inr fun j g hg he => absurd he (hno hm j g hg))
        rw [e, some_bind]
        exact ⟨_, rfl, ht⟩
      · rw [h2]
        obtain ⟨t, e, ht⟩ := marked_none hs c h1 h3 ⟨q, 3, 0, 0⟩ (mk_mark hq hq2 (by decide) (by decide) (by decide) (by decide) (by decide) (by decide)) (TFile.mk [] 0 [])
        simp only [Bool.not_false, cond_true]
        rw [e, some_bind]
        exact ⟨_, rfl, ht⟩
theorem Is_ok {B : Int} {s : TState} (hs : Good B s) (f : Int) (h1 : 1 ≤ f) (h2 : f ≤ 7) : ∃ r, ref7_Is s f = some r ∧ (r = true → ∃ (n : Nat) (x : TFile), f = (n : Int) + 1 ∧ n < 6 ∧ s.Files[n]? = some x ∧ x.Name ≠ []) := by
  unfold ref7_Is ref7_Is_k
  rw [decide_eq_true (show f ≥ 1 from h1)]
  by_cases h : f ≤ 6
  · have hlt : (f - 1).toNat < s.Files.length := by rw [hs.nf]; omega
    rw [decide_eq_true (show f ≤ (s.Files.length : Int) by rw [hs.nf]; exact h), wi64_of (by omega) (by omega), inR_of (by omega) (by rw [hs.nf]; omega), List.getElem?_eq_getElem hlt]
    refine ⟨_, rfl, fun hr => ⟨(f - 1).toNat, s.Files[(f - 1).toNat], by omega, by omega, List.getElem?_eq_getElem hlt, fun hn => ?_⟩⟩
    rw [beq_of hn] at hr
    cases hr
  · rw [decide_eq_false (show ¬ f ≤ (s.Files.length : Int) by rw [hs.nf]; exact h)]
    exact ⟨_, rfl, fun hr => by cases hr⟩
theorem Gone_ok {B : Int} {s : TState} (hs : Good B s) (c : Int) (h1 : 1 ≤ c) (h3 : c ≤ 3) (q : Int) (hq : 0 ≤ q) (hq2 : q ≤ B) (f : Int) (hf1 : 1 ≤ f) (hf2 : f ≤ 7) :
    ∃ t, ref7_Gone s c q f = some t ∧ Good B t.1 := by
  unfold ref7_Gone ref7_Gone_k
  obtain ⟨r, e, hr⟩ := Is_ok hs f hf1 hf2
  rw [e, some_bind]
  cases r with
  | false =>
    obtain ⟨t, e, ht⟩ := marked_none hs c h1 h3 ⟨q, 2, 0, 0⟩ (mk_mark hq hq2 (by decide) (by decide) (by decide) (by decide) (by decide) (by decide)) (TFile.mk [] 0 [])
    simp only [Bool.not_false, cond_true]
    rw [e, some_bind]
    exact ⟨_, rfl, ht⟩
  | true =>
    obtain ⟨n, x, rfl, hn, hx, hxn⟩ := hr rfl
    obtain ⟨t, e, ht⟩ := marked_at hs c h1 h3 ⟨q, 0, (n : Int) + 1, 0⟩ (mk_mark hq hq2 (by decide) (by decide) (by omega) (by omega) (by decide) (by decide)) n hn (TFile.mk [] 0 []) (.inl rfl) (.inl rfl)
    simp only [Bool.not_true, cond_false]
    rw [e, some_bind]
    exact ⟨_, rfl, ht⟩
end Go.Proofs.YtinbnobanikfmaaGreatDoor.N

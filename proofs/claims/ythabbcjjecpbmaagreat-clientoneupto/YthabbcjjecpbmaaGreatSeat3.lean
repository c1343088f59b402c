/- The seat's functions, and the nice ones. Loops and whole numbers of the nice functions. Plain words for this seat (1). -/
import Derived.Test.YthabbcjjecpbmaaGreatSeat1
import Derived.Test.YthabbcjjecpbmaaGreatSeat2
import Derived.Test.YthabbcjjecpbmaaGreatBase6
import Derived.Test.YthabbcjjecpbmaaGreatBase5
import Derived.Laws.BitsLemmas
set_option linter.unusedVariables false
set_option maxRecDepth 100000
namespace Go.Proofs.YthabbcjjecpbmaaGreat.Z
open Go Go.Proofs.YthabbcjjecpbmaaGreat.D
noncomputable section
@[reducible] def g8 (z : N.Tclient_work) (n0 n1 n2 : Nat) : DVal E.T := .agg 8 [.agg 4 [.iv z.Client.ID, .iv z.Client.Now, .iv z.Client.Epoch, .iv z.Client.Seq, .own n0, .own n1, .nv 3 z.Client.Out, .iv z.Client.Bad, .iv z.Client.Hits, .iv z.Client.Asks], .own n2]
@[reducible] def g8_2 (z : N.Tclient_work) (n0 n1 : Nat) : DVal E.T := .agg 8 [.agg 4 [.iv z.Client.ID, .iv z.Client.Now, .iv z.Client.Epoch, .iv z.Client.Seq, .own n0, .own n1, .nv 3 z.Client.Out, .iv z.Client.Bad, .iv z.Client.Hits, .iv z.Client.Asks], .nils]
@[reducible] def g8_3 (z : N.Tclient_work) (n0 n1 : Nat) : DVal E.T := .agg 8 [.agg 4 [.iv z.Client.ID, .iv z.Client.Now, .iv z.Client.Epoch, .iv z.Client.Seq, .own n0, .own n1, .agg 3 [.bv z.Client.Out.Is, .agg 2 [.iv z.Client.Out.Ask.Kind, .iv z.Client.Out.Ask.From, .iv z.Client.Out.Ask.Epoch, .iv z.Client.Out.Ask.Seq, .sv z.Client.Out.Ask.Name, .iv z.Client.Out.Ask.File, .iv z.Client.Out.Ask.Mode, .nils], .iv z.Client.Out.First, .iv z.Client.Out.Last], .iv z.Client.Bad, .iv z.Client.Hits, .iv z.Client.Asks], .nils]
@[reducible] def s8_4 (n0 n1 : Nat) : Sh := .agg 8 [.agg 4 [.iv, .iv, .iv, .iv, .own n0, .own n1, .v (.named 3), .iv, .iv, .iv], .nils]
@[reducible] def s8_5 (n0 n1 : Nat) : Sh := .agg 8 [.agg 4 [.iv, .iv, .iv, .iv, .own n0, .own n1, .agg 3 [.v .bool, .agg 2 [.iv, .iv, .iv, .iv, .v .str, .iv, .iv, .nils], .iv, .iv], .iv, .iv, .iv], .nils]
def x9 : GFn E := { i := ⟨[.iv], [], fun a => .tot (.ret (N.client_New a)) fun x_ => .ret (.ret [.nv 4 x_], [])⟩ }
theorem y9 : InsOk Tryz.prog 9 x9.ins := go Tryz.func9 rfl trivial trivial trivial (fun _ => by show _ = _; kernel_rfl)
def P9 : SP := (9, .pure [.i6] (pureF [x9.ins]))
theorem p9 : OK P9 := pureI_ok Tryz.call9 ⟨y9, trivial⟩
noncomputable def B92 : List (DVal E.T) → St E.T → Tree (Res E.T × St E.T) := cloneF E (.named 0)
def P92 : SP := (92, .full [.data (.slice (.named 0))] false B92)
theorem cf92 : ∃ R0 C R id o1 o2, Tryz.f92.body = some (.seq R0 (.seq (.seq (.region id #[o1, o2] false) C) R)) ∧ (o1.op = .move (.tmp 0) ∧ o1.dst = some 3 ∧ o1.guard = none) ∧ (o2.op = .binOp .eql 26 (.tmp 3) (.const (.slice none 0 0)) 26 ∧ o2.dst = some 4 ∧ o2.guard = none) ∧
  CloneFacts E Tryz.f92 (.named 0) R0 C R (fun xs => put E (frame E Tryz.f92 [.val (.slice (.named 0)) xs]) (some 2) .nils) (fun xs => put E (put E (put E (put E (frame E Tryz.f92 [.val (.slice (.named 0)) xs]) (some 2) .nils) (some 3) (.val (.slice (.named 0)) xs)) (some 4) (.val .bool true)) (some 2) .nils) (fun xs n => put E (put E (put E (put E (put E (put E (put E (frame E Tryz.f92 [.val (.slice (.named 0)) xs]) (some 2) .nils) (some 3) (.val (.slice (.named 0)) xs)) (some 4) (.val .bool false)) (some 5) .nils) (some 6) (.val (.slice (.named 0)) xs)) (some 7) (.own n)) (some 2) (.own n)) :=
 ⟨_, _, _, _, _, _, rfl, ⟨rfl, rfl, rfl⟩, ⟨rfl, rfl, rfl⟩, by
  constructor
  all_goals intros
  all_goals kernel_rfl⟩
theorem p92 : OK P92 := by
 obtain ⟨R0, C, R, id, o1, o2, hb, h1, h2, hF⟩ := cf92
 exact ⟨Tryz.call92, clone_fn sound mix Tryz.func92 hb h1 h2 ⟨_, Tryz.underlying26⟩ hF⟩
def x66 : GFn E := { S := [P92], i := ⟨[.v (.named 2)], [], fun a => .tot (.ret (N.client_twin a)) fun x_ => .ret (.ret [.nv 2 a], [])⟩ }
theorem y66 : InsOk Tryz.prog 66 x66.ins := go Tryz.func66 rfl ⟨p92, trivial⟩ trivial trivial (fun _ => by show _ = _; kernel_rfl)
def P66 : SP := (66, .pure [(.named 2)] (pureF [x66.ins]))
theorem p66 : OK P66 := pureI_ok Tryz.call66 ⟨y66, trivial⟩
def x94 : GFn E := { S := [P92], i := ⟨[.v (.named 1)], [], fun c => .tot (.ret (N.cache_twin c)) fun x_ => .ret (.ret [.nv 1 c], [])⟩ }
theorem y94 : InsOk Tryz.prog 94 x94.ins := go Tryz.func94 rfl ⟨p92, trivial⟩ trivial trivial (fun _ => by show _ = _; kernel_rfl)
def P94 : SP := (94, .pure [(.named 1)] (pureF [x94.ins]))
theorem p94 : OK P94 := pureI_ok Tryz.call94 ⟨y94, trivial⟩
def x93 : GFn E := { i := ⟨[.v (.named 1), .iv], [], fun c a => .tot (N.cache_Valid_t c a) fun x_ => .ret (.ret [.iv x_], [])⟩ }
theorem y93 : InsOk Tryz.prog 93 x93.ins := go Tryz.func93 rfl trivial trivial trivial (fun _ _ => by show _ = _; kernel_rfl)
def P93 : SP := (93, .pure [(.named 1), .i6] (pureF [x93.ins]))
theorem p93 : OK P93 := pureI_ok Tryz.call93 ⟨y93, trivial⟩
def x71 : GFn E := { i := ⟨[.v (.named 1)], [], fun c => .tot (N.cache_Reset_t c) fun x_ => .ret (.ret [.nv 1 x_], [])⟩ }
theorem y71 : InsOk Tryz.prog 71 x71.ins := go Tryz.func71 rfl trivial trivial trivial (fun _ => by show _ = _; kernel_rfl)
def P71 : SP := (71, .pure [(.named 1)] (pureF [x71.ins]))
theorem p71 : OK P71 := pureI_ok Tryz.call71 ⟨y71, trivial⟩
def x67 : GFn E := { S := [P71, P93, P94], i := ⟨[.v (.named 1), .iv], [], fun c a => .tot (N.cache_Lapse_t c a) fun x_ => .ret (.ret [.nv 1 x_], [])⟩ }
theorem y67 : InsOk Tryz.prog 67 x67.ins := go Tryz.func67 rfl ⟨p71, p93, p94, trivial⟩ trivial trivial (fun _ _ => by show _ = _; kernel_rfl)
def P67 : SP := (67, .pure [(.named 1), .i6] (pureF [x67.ins]))
theorem p67 : OK P67 := pureI_ok Tryz.call67 ⟨y67, trivial⟩
noncomputable def B64 : List (DVal E.T) → St E.T → Tree (Res E.T × St E.T) := cloneF E (.named 1)
def P64 : SP := (64, .full [.data (.slice (.named 1))] false B64)
theorem cf64 : ∃ R0 C R id o1 o2, Tryz.f64.body = some (.seq R0 (.seq (.seq (.region id #[o1, o2] false) C) R)) ∧ (o1.op = .move (.tmp 0) ∧ o1.dst = some 3 ∧ o1.guard = none) ∧ (o2.op = .binOp .eql 24 (.tmp 3) (.const (.slice none 0 0)) 24 ∧ o2.dst = some 4 ∧ o2.guard = none) ∧
  CloneFacts E Tryz.f64 (.named 1) R0 C R (fun xs => put E (frame E Tryz.f64 [.val (.slice (.named 1)) xs]) (some 2) .nils) (fun xs => put E (put E (put E (put E (frame E Tryz.f64 [.val (.slice (.named 1)) xs]) (some 2) .nils) (some 3) (.val (.slice (.named 1)) xs)) (some 4) (.val .bool true)) (some 2) .nils) (fun xs n => put E (put E (put E (put E (put E (put E (put E (frame E Tryz.f64 [.val (.slice (.named 1)) xs]) (some 2) .nils) (some 3) (.val (.slice (.named 1)) xs)) (some 4) (.val .bool false)) (some 5) .nils) (some 6) (.val (.slice (.named 1)) xs)) (some 7) (.own n)) (some 2) (.own n)) :=
 ⟨_, _, _, _, _, _, rfl, ⟨rfl, rfl, rfl⟩, ⟨rfl, rfl, rfl⟩, by
  constructor
  all_goals intros
  all_goals kernel_rfl⟩
theorem p64 : OK P64 := by
 obtain ⟨R0, C, R, id, o1, o2, hb, h1, h2, hF⟩ := cf64
 exact ⟨Tryz.call64, clone_fn sound mix Tryz.func64 hb h1 h2 ⟨_, Tryz.underlying24⟩ hF⟩
noncomputable def B65 : List (DVal E.T) → St E.T → Tree (Res E.T × St E.T) := cloneF E .str
def P65 : SP := (65, .full [.data (.slice .str)] false B65)
theorem cf65 : ∃ R0 C R id o1 o2, Tryz.f65.body = some (.seq R0 (.seq (.seq (.region id #[o1, o2] false) C) R)) ∧ (o1.op = .move (.tmp 0) ∧ o1.dst = some 3 ∧ o1.guard = none) ∧ (o2.op = .binOp .eql 25 (.tmp 3) (.const (.slice none 0 0)) 25 ∧ o2.dst = some 4 ∧ o2.guard = none) ∧
  CloneFacts E Tryz.f65 .str R0 C R (fun xs => put E (frame E Tryz.f65 [.val (.slice .str) xs]) (some 2) .nils) (fun xs => put E (put E (put E (put E (frame E Tryz.f65 [.val (.slice .str) xs]) (some 2) .nils) (some 3) (.val (.slice .str) xs)) (some 4) (.val .bool true)) (some 2) .nils) (fun xs n => put E (put E (put E (put E (put E (put E (put E (frame E Tryz.f65 [.val (.slice .str) xs]) (some 2) .nils) (some 3) (.val (.slice .str) xs)) (some 4) (.val .bool false)) (some 5) .nils) (some 6) (.val (.slice .str) xs)) (some 7) (.own n)) (some 2) (.own n)) :=
 ⟨_, _, _, _, _, _, rfl, ⟨rfl, rfl, rfl⟩, ⟨rfl, rfl, rfl⟩, by
  constructor
  all_goals intros
  all_goals kernel_rfl⟩
theorem p65 : OK P65 := by
 obtain ⟨R0, C, R, id, o1, o2, hb, h1, h2, hF⟩ := cf65
 exact ⟨Tryz.call65, clone_fn sound mix Tryz.func65 hb h1 h2 ⟨_, Tryz.underlying25⟩ hF⟩
def x25 : GFn E := { S := [P64, P65, P66, P67], ls := [{ ks := [1, 3, 36, 37, 38], rs := [2, 3], ins := some [⟨[.ptr 0 [], .ptr 1 [], .own 2, .iv, .iv], [.bx (.v (.named 4)), .bx (s8_4 2 3), .al (.named 1), .al .str], fun a b c d e f g h j k l m n => ⟨(b, (N.Tclient_work.mk (N.TClient.mk d e f g m n h j k l) [])), N.client_of_s0t a c, fun v_ => ([.ptr 0 [], .ptr 1 [], .own 2, .iv a, .iv v_.1], [.bx (.nv 4 c), .bx (g8_2 v_.2 2 3), .al (.named 1) v_.2.Client.Files, .al .str v_.2.Client.Names]), fun x_ => .ret (.exit 0, [.undef, .ptr 1 []], [.bx (.nv 4 c), .bx (g8_2 x_ 2 3), .al (.named 1) x_.Client.Files, .al .str x_.Client.Names])⟩⟩] }], keep := true, i := ⟨[.v (.named 4)], [], fun c => .opt (N.client_of_t N.fuel c) fun x_ => .ret (.ret [.ptr 1 []], [.dead, .bx (g8_2 x_ 2 3), .al (.named 1) x_.Client.Files, .al .str x_.Client.Names])⟩ }
theorem y25 : InsOk Tryz.prog 25 x25.ins := goF Tryz.func25 rfl ⟨p64, p65, p66, p67, trivial⟩ trivial ⟨⟨fun _ _ _ _ _ _ _ _ _ _ _ _ _ => ⟨rfl, fun _ => by show _ = _; kernel_rfl⟩, trivial⟩, trivial⟩ (fun _ => by show _ = _; kernel_rfl)
def P25 : SP := (25, .full [.data (.named 4)] false (fullF [x25.ins]))
theorem p25 : OK P25 := fullI_ok ok Tryz.call25 ⟨y25, trivial⟩
def x106 : GFn E := { i := ⟨[.ptr 0 [], .iv], [.bx (s8_4 1 2), .al (.named 1), .al .str], fun e a b c d f g h j k l => .tot (.ret (N.client_work_says e (N.Tclient_work.mk (N.TClient.mk a b c d k l f g h j) []))) fun x_ => .ret (.panic (.ifc 137 (.nv 12 x_)), [.bx (.agg 8 [.agg 4 [.iv a, .iv b, .iv c, .iv d, .own 1, .own 2, .nv 3 f, .iv g, .iv h, .iv j], .nils]), .al (.named 1) k, .al .str l])⟩ }
theorem y106 : InsOk Tryz.prog 106 x106.ins := goF Tryz.func106 rfl trivial trivial trivial (fun _ _ _ _ _ _ _ _ _ _ _ => by show _ = _; kernel_rfl)
def x106a : GFn E := { i := ⟨[.ptr 0 [], .iv], [.bx (s8_4 1 2), .arr .fix (.named 1), .al .str], fun e a b c d f g h j k l => .tot (.ret (N.client_work_says_2 e (N.Tclient_work.mk (N.TClient.mk a b c d k l f g h j) []))) fun x_ => .ret (.panic (.ifc 137 (.nv 12 x_)), [.bx (.agg 8 [.agg 4 [.iv a, .iv b, .iv c, .iv d, .own 1, .own 2, .nv 3 f, .iv g, .iv h, .iv j], .nils]), .arr .fix (.named 1) k, .al .str l])⟩ }
theorem y106a : InsOk Tryz.prog 106 x106a.ins := goF Tryz.func106 rfl trivial trivial trivial (fun _ _ _ _ _ _ _ _ _ _ _ => by show _ = _; kernel_rfl)
def P106 : SP := (106, .full [.ptr, .data .i6] false (fullF [x106.ins, x106a.ins]))
theorem p106 : OK P106 := fullI_ok ok Tryz.call106 ⟨y106, y106a, trivial⟩
def x124 : GFn E := { ls := [{ ks := [0, 6, 7, 8], rs := [0, 2], ins := some [⟨[.v .str, .own 0, .iv, .iv], [.al (.int .u8)], fun a t7 t8 r0 => ⟨t8, N.dir_May_s0t a t7 r0, fun v_ => ([.sv a, .own 0, .iv t7, .iv v_], [.al (.int .u8) r0]), fun x_ => altT x_ (fun b => .ret (.ret, [.sv a, .bv false], [.al (.int .u8) r0])) (fun c => .ret (.exit 0, [.sv a, .undef], [.al (.int .u8) r0]))⟩⟩] }], i := stdI [.str] [.bool] (N.dir_May_t N.fuel) }
theorem y124 : InsOk Tryz.prog 124 x124.ins := go Tryz.func124 rfl trivial trivial ⟨⟨fun _ _ _ _ => ⟨rfl, fun _ => by show _ = _; kernel_rfl⟩, trivial⟩, trivial⟩ (fun _ => by show _ = _; kernel_rfl)
def P124 : SP := (124, .pure [.str] (pureF [x124.ins]))
theorem p124 : OK P124 := pureI_ok Tryz.call124 ⟨y124, trivial⟩
def x125 : GFn E := { ls := [{ ks := [0, 1, 7, 8], rs := [4], ins := some [⟨[.v (.slice .str), .v .str, .iv, .iv], [], fun s v t7 t8 => ⟨t8, N.slices_Index_string_s0t s v t7, fun v_ => ([.val (.slice .str) s, .sv v, .iv t7, .iv v_], []), fun x_ => altT x_ (fun a => .ret (.ret, [.iv a], [])) (fun b => .ret (.exit 0, [.undef], []))⟩⟩] }], i := stdI [(.slice .str), .str] [.i6] (N.slices_Index_string_t N.fuel) }
theorem y125 : InsOk Tryz.prog 125 x125.ins := go Tryz.func125 rfl trivial trivial ⟨⟨fun _ _ _ _ => ⟨rfl, fun _ => by show _ = _; kernel_rfl⟩, trivial⟩, trivial⟩ (fun _ _ => by show _ = _; kernel_rfl)
def P125 : SP := (125, .pure [(.slice .str), .str] (pureF [x125.ins]))
theorem p125 : OK P125 := pureI_ok Tryz.call125 ⟨y125, trivial⟩
def x126 : GFn E := { S := [P106], i := ⟨[.ptr 0 []], [.bx (s8_4 1 2), .al (.named 1), .al .str], fun a b c d e f g h j k => .opt (N.client_work_free_t (N.Tclient_work.mk (N.TClient.mk a b c d j k e f g h) [])) fun x_ => altT x_ (fun l => .ret (.ret [], [.bx (.agg 8 [.agg 4 [.iv a, .iv b, .iv c, .iv d, .own 1, .own 2, .nv 3 e, .iv f, .iv g, .iv h], .nils]), .al (.named 1) j, .al .str k])) (fun m => .ret (.panic (.ifc 137 (.nv 12 m)), [.bx (.agg 8 [.agg 4 [.iv a, .iv b, .iv c, .iv d, .own 1, .own 2, .nv 3 e, .iv f, .iv g, .iv h], .nils]), .al (.named 1) j, .al .str k]))⟩ }
theorem y126 : InsOk Tryz.prog 126 x126.ins := goF Tryz.func126 rfl ⟨p106, trivial⟩ trivial trivial (fun _ _ _ _ _ _ _ _ _ _ => by show _ = _; kernel_rfl)
def x126a : GFn E := { S := [P106], i := ⟨[.ptr 0 []], [.bx (s8_4 1 2), .arr .fix (.named 1), .al .str], fun a b c d e f g h j k => .opt (N.client_work_free_2_t (N.Tclient_work.mk (N.TClient.mk a b c d j k e f g h) [])) fun x_ => altT x_ (fun l => .ret (.ret [], [.bx (.agg 8 [.agg 4 [.iv a, .iv b, .iv c, .iv d, .own 1, .own 2, .nv 3 e, .iv f, .iv g, .iv h], .nils]), .arr .fix (.named 1) j, .al .str k])) (fun m => .ret (.panic (.ifc 137 (.nv 12 m)), [.bx (.agg 8 [.agg 4 [.iv a, .iv b, .iv c, .iv d, .own 1, .own 2, .nv 3 e, .iv f, .iv g, .iv h], .nils]), .arr .fix (.named 1) j, .al .str k]))⟩ }
theorem y126a : InsOk Tryz.prog 126 x126a.ins := goF Tryz.func126 rfl ⟨p106, trivial⟩ trivial trivial (fun _ _ _ _ _ _ _ _ _ _ => by show _ = _; kernel_rfl)
def P126 : SP := (126, .full [.ptr] false (fullF [x126.ins, x126a.ins]))
theorem p126 : OK P126 := fullI_ok ok Tryz.call126 ⟨y126, y126a, trivial⟩
def x31 : GFn E := { S := [P66], keep := true, i := ⟨[.ptr 0 []], [.bx (s8_4 1 2), .al (.named 1), .al .str], fun a b c d e f g h j k => .tot (.ret (N.client_work_again (N.Tclient_work.mk (N.TClient.mk a b c d j k e f g h) []))) fun x_ => .ret (.ret [], [.bx (g8 x_ 1 2 3), .al (.named 1) x_.Client.Files, .al .str x_.Client.Names, .al (.named 2) x_.asked])⟩ }
theorem y31 : InsOk Tryz.prog 31 x31.ins := goF Tryz.func31 rfl ⟨p66, trivial⟩ trivial trivial (fun _ _ _ _ _ _ _ _ _ _ => by show _ = _; kernel_rfl)
def x31a : GFn E := { S := [P66], keep := true, i := ⟨[.ptr 0 []], [.bx (s8_4 1 2), .arr .fix (.named 1), .al .str], fun a b c d e f g h j k => .tot (.ret (N.client_work_again_2 (N.Tclient_work.mk (N.TClient.mk a b c d j k e f g h) []))) fun x_ => .ret (.ret [], [.bx (g8 x_ 1 2 3), .arr .fix (.named 1) x_.Client.Files, .al .str x_.Client.Names, .al (.named 2) x_.asked])⟩ }
theorem y31a : InsOk Tryz.prog 31 x31a.ins := goF Tryz.func31 rfl ⟨p66, trivial⟩ trivial trivial (fun _ _ _ _ _ _ _ _ _ _ => by show _ = _; kernel_rfl)
def P31 : SP := (31, .full [.ptr] false (fullF [x31.ins, x31a.ins]))
theorem p31 : OK P31 := fullI_ok ok Tryz.call31 ⟨y31, y31a, trivial⟩
def x78 : GFn E := { S := [P31, P66], keep := true, i := ⟨[.ptr 0 [], .v (.named 2)], [.bx (s8_4 1 2), .al (.named 1), .al .str], fun a b c d e f g h j k l => .tot (.ret (N.client_work_asks a (N.Tclient_work.mk (N.TClient.mk b c d e k l f g h j) []))) fun x_ => .ret (.ret [], [.bx (g8 x_ 1 2 4), .al (.named 1) x_.Client.Files, .al .str x_.Client.Names, .dead, .al (.named 2) x_.asked])⟩ }
theorem y78 : InsOk Tryz.prog 78 x78.ins := goF Tryz.func78 rfl ⟨p31, p66, trivial⟩ trivial trivial (fun _ _ _ _ _ _ _ _ _ _ _ => by show _ = _; kernel_rfl)
def x78a : GFn E := { S := [P31, P66], keep := true, i := ⟨[.ptr 0 [], .v (.named 2)], [.bx (s8_4 1 2), .arr .fix (.named 1), .al .str], fun a b c d e f g h j k l => .tot (.ret (N.client_work_asks_2 a (N.Tclient_work.mk (N.TClient.mk b c d e k l f g h j) []))) fun x_ => .ret (.ret [], [.bx (g8 x_ 1 2 4), .arr .fix (.named 1) x_.Client.Files, .al .str x_.Client.Names, .dead, .al (.named 2) x_.asked])⟩ }
theorem y78a : InsOk Tryz.prog 78 x78a.ins := goF Tryz.func78 rfl ⟨p31, p66, trivial⟩ trivial trivial (fun _ _ _ _ _ _ _ _ _ _ _ => by show _ = _; kernel_rfl)
def P78 : SP := (78, .full [.ptr, .data (.named 2)] false (fullF [x78.ins, x78a.ins]))
theorem p78 : OK P78 := fullI_ok ok Tryz.call78 ⟨y78, y78a, trivial⟩
def x107 : GFn E := { S := [P106, P124, P125, P126, P78], keep := true, i := ⟨[.ptr 0 [], .v .str], [.bx (s8_4 1 2), .al (.named 1), .al .str], fun a b c d e f g h j k l => .opt (N.client_work_opens_t N.fuel a (N.Tclient_work.mk (N.TClient.mk b c d e k l f g h j) [])) fun x_ => altT x_ (fun m => .ret (.ret [], [.bx (g8 m 1 2 4), .al (.named 1) m.Client.Files, .al .str m.Client.Names, .dead, .al (.named 2) m.asked])) (fun n => .ret (.panic (.ifc 137 (.nv 12 n.1)), [.bx (g8_2 n.2 1 2), .al (.named 1) n.2.Client.Files, .al .str n.2.Client.Names]))⟩ }
theorem y107 : InsOk Tryz.prog 107 x107.ins := goF Tryz.func107 rfl ⟨p106, p124, p125, p126, p78, trivial⟩ trivial trivial (fun _ _ _ _ _ _ _ _ _ _ _ => by show _ = _; kernel_rfl)
def P107 : SP := (107, .full [.ptr, .data .str] false (fullF [x107.ins]))
theorem p107 : OK P107 := fullI_ok ok Tryz.call107 ⟨y107, trivial⟩
def x108 : GFn E := { i := ⟨[.v (.named 0)], [], fun w => .tot (N.file_May_t w) fun x_ => .ret (.ret [.bv x_], [])⟩ }
theorem y108 : InsOk Tryz.prog 108 x108.ins := go Tryz.func108 rfl trivial trivial trivial (fun _ => by show _ = _; kernel_rfl)
def P108 : SP := (108, .pure [(.named 0)] (pureF [x108.ins]))
theorem p108 : OK P108 := pureI_ok Tryz.call108 ⟨y108, trivial⟩
def x72 : GFn E := { keep := true, i := ⟨[.ptr 0 [], .iv], [.bx (s8_4 1 2), .al (.named 1), .al .str], fun n a b c d e f g h j k => .opt (N.client_work_file_t n (N.Tclient_work.mk (N.TClient.mk a b c d j k e f g h) [])) fun x_ => altT x_ (fun l => .ret (.ret [.ptr 1 [.idx (.named 1) l]], [.bx (.agg 8 [.agg 4 [.iv a, .iv b, .iv c, .iv d, .own 1, .own 2, .nv 3 e, .iv f, .iv g, .iv h], .nils]), .al (.named 1) j, .al .str k])) (fun m => .ret (.ret [.ptr 3 []], [.bx (.agg 8 [.agg 4 [.iv a, .iv b, .iv c, .iv d, .own 1, .own 2, .nv 3 e, .iv f, .iv g, .iv h], .nils]), .al (.named 1) j, .al .str k, .bx (.agg 1 [.iv 0, .iv 0, .iv 0, .sv ([]), .nils, .iv 0, .bv false, .bv false])]))⟩ }
theorem y72 : InsOk Tryz.prog 72 x72.ins := goF Tryz.func72 rfl trivial trivial trivial (fun _ _ _ _ _ _ _ _ _ _ _ => by show _ = _; kernel_rfl)
def x72a : GFn E := { keep := true, i := ⟨[.ptr 0 [], .iv], [.bx (s8_4 1 2), .arr .fix (.named 1), .al .str], fun n a b c d e f g h j k => .opt (N.client_work_file_2_t n (N.Tclient_work.mk (N.TClient.mk a b c d j k e f g h) [])) fun x_ => altT x_ (fun l => .ret (.ret [.ptr 1 [.idx (.named 1) l]], [.bx (.agg 8 [.agg 4 [.iv a, .iv b, .iv c, .iv d, .own 1, .own 2, .nv 3 e, .iv f, .iv g, .iv h], .nils]), .arr .fix (.named 1) j, .al .str k])) (fun m => .ret (.ret [.ptr 3 []], [.bx (.agg 8 [.agg 4 [.iv a, .iv b, .iv c, .iv d, .own 1, .own 2, .nv 3 e, .iv f, .iv g, .iv h], .nils]), .arr .fix (.named 1) j, .al .str k, .bx (.agg 1 [.iv 0, .iv 0, .iv 0, .sv ([]), .nils, .iv 0, .bv false, .bv false])]))⟩ }
theorem y72a : InsOk Tryz.prog 72 x72a.ins := goF Tryz.func72 rfl trivial trivial trivial (fun _ _ _ _ _ _ _ _ _ _ _ => by show _ = _; kernel_rfl)
def x72b : GFn E := { keep := true, i := ⟨[.ptr 0 [], .iv], [.bx (s8_5 1 2), .al (.named 1), .al .str], fun n a b c d e f g h j k l m o p q r s t u => .opt (N.client_work_file_3_t n (N.Tclient_work.mk (N.TClient.mk a b c d t u (N.TOut.mk e (N.TAsk.mk f g h j k l m []) o p) q r s) [])) fun x_ => altT x_ (fun v => .ret (.ret [.ptr 1 [.idx (.named 1) v]], [.bx (.agg 8 [.agg 4 [.iv a, .iv b, .iv c, .iv d, .own 1, .own 2, .agg 3 [.bv e, .agg 2 [.iv f, .iv g, .iv h, .iv j, .sv k, .iv l, .iv m, .nils], .iv o, .iv p], .iv q, .iv r, .iv s], .nils]), .al (.named 1) t, .al .str u])) (fun w => .ret (.ret [.ptr 3 []], [.bx (.agg 8 [.agg 4 [.iv a, .iv b, .iv c, .iv d, .own 1, .own 2, .agg 3 [.bv e, .agg 2 [.iv f, .iv g, .iv h, .iv j, .sv k, .iv l, .iv m, .nils], .iv o, .iv p], .iv q, .iv r, .iv s], .nils]), .al (.named 1) t, .al .str u, .bx (.agg 1 [.iv 0, .iv 0, .iv 0, .sv ([]), .nils, .iv 0, .bv false, .bv false])]))⟩ }
theorem y72b : InsOk Tryz.prog 72 x72b.ins := goF Tryz.func72 rfl trivial trivial trivial (fun _ _ _ _ _ _ _ _ _ _ _ _ _ _ _ _ _ _ _ _ => by show _ = _; kernel_rfl)
def P72 : SP := (72, .full [.ptr, .data .i6] false (fullF [x72.ins, x72a.ins, x72b.ins]))
theorem p72 : OK P72 := fullI_ok ok Tryz.call72 ⟨y72, y72a, y72b, trivial⟩
noncomputable def B132 : DSpec E := dbodyE E (lookS []) (clL E 21 [] []) 0 Tryz.f132
theorem p132 : DSpecOk Tryz.prog E 132 B132 := dfullE_ok sound mix (S := []) trivial (L := clL E 21 [] []) (fun _ => rfl) Tryz.call132 Tryz.func132 rfl
def x123 : GFn E := { S := [P108, P133], D := [(132, B132)], i := stdI [.str, (.named 0)] [.str] N.file_Put_t }
theorem y123 : InsOk Tryz.prog 123 x123.ins := go Tryz.func123 rfl ⟨p108, p133, trivial⟩ ⟨p132, trivial⟩ trivial (fun _ _ => by show _ = _; kernel_rfl)
def P123 : SP := (123, .pure [.str, (.named 0)] (pureF [x123.ins]))
theorem p123 : OK P123 := pureI_ok Tryz.call123 ⟨y123, trivial⟩
def x105 : GFn E := { S := [P123], ls := [{ ks := [0, 7, 8, 9], rs := [0, 4], ins := some [⟨[.v .str, .v (.slice (.named 0)), .iv, .iv], [], fun a t7 t8 t9 => ⟨(a, t9), N.file_All_s0t t7 t8, fun v_ => ([.sv v_.1, .val (.slice (.named 0)) t7, .iv t8, .iv v_.2], []), fun x_ => .ret (.exit 0, [.sv x_, .undef], [])⟩⟩] }], i := stdI [.str, (.slice (.named 0))] [.str] (N.file_All_t N.fuel) }
theorem y105 : InsOk Tryz.prog 105 x105.ins := go Tryz.func105 rfl ⟨p123, trivial⟩ trivial ⟨⟨fun _ _ _ _ => ⟨rfl, fun _ => by show _ = _; kernel_rfl⟩, trivial⟩, trivial⟩ (fun _ _ => by show _ = _; kernel_rfl)
def P105 : SP := (105, .pure [.str, (.slice (.named 0))] (pureF [x105.ins]))
theorem p105 : OK P105 := pureI_ok Tryz.call105 ⟨y105, trivial⟩
def x127 : GFn E := { S := [P105], i := stdI [(.named 1)] [.str] (N.cache_View_t N.fuel) }
theorem y127 : InsOk Tryz.prog 127 x127.ins := go Tryz.func127 rfl ⟨p105, trivial⟩ trivial trivial (fun _ => by show _ = _; kernel_rfl)
def P127 : SP := (127, .pure [(.named 1)] (pureF [x127.ins]))
theorem p127 : OK P127 := pureI_ok Tryz.call127 ⟨y127, trivial⟩
def x109 : GFn E := { S := [P126, P127, P72, P78, P93], keep := true, i := ⟨[.ptr 0 [], .iv], [.bx (s8_4 1 2), .arr .fix (.named 1), .al .str], fun n a b c d e f g h j k => .opt (N.client_work_reads_t N.fuel n (N.Tclient_work.mk (N.TClient.mk a b c d j k e f g h) [])) fun x_ => altT x_ (fun l => .ret (.ret [], [.bx (g8 l 1 2 4), .arr .fix (.named 1) l.Client.Files, .al .str l.Client.Names, .dead, .al (.named 2) l.asked])) (fun m => altT m (fun o => .ret (.ret [], [.bx (g8 o 1 2 5), .arr .fix (.named 1) o.Client.Files, .al .str o.Client.Names, .dead, .dead, .al (.named 2) o.asked])) (fun p => altT p (fun q => .ret (.panic (.ifc 137 (.nv 12 q.1)), [.bx (g8_2 q.2 1 2), .arr .fix (.named 1) q.2.Client.Files, .al .str q.2.Client.Names])) (fun r => .ret (.panic (.ifc 137 (.nv 12 r.1)), [.bx (g8_2 r.2 1 2), .arr .fix (.named 1) r.2.Client.Files, .al .str r.2.Client.Names, .dead]))))⟩ }
theorem y109 : InsOk Tryz.prog 109 x109.ins := goF Tryz.func109 rfl ⟨p126, p127, p72, p78, p93, trivial⟩ trivial trivial (fun _ _ _ _ _ _ _ _ _ _ _ => by show _ = _; kernel_rfl)
def x109a : GFn E := { S := [P126, P127, P72, P78, P93], keep := true, i := ⟨[.ptr 0 [], .iv], [.bx (s8_4 1 2), .al (.named 1), .al .str], fun n a b c d e f g h j k => .opt (N.client_work_reads_2_t N.fuel n (N.Tclient_work.mk (N.TClient.mk a b c d j k e f g h) [])) fun x_ => altT x_ (fun l => .ret (.ret [], [.bx (g8 l 1 2 4), .al (.named 1) l.Client.Files, .al .str l.Client.Names, .dead, .al (.named 2) l.asked])) (fun m => altT m (fun o => .ret (.ret [], [.bx (g8 o 1 2 5), .al (.named 1) o.Client.Files, .al .str o.Client.Names, .dead, .dead, .al (.named 2) o.asked])) (fun p => altT p (fun q => .ret (.panic (.ifc 137 (.nv 12 q.1)), [.bx (g8_2 q.2 1 2), .al (.named 1) q.2.Client.Files, .al .str q.2.Client.Names])) (fun r => .ret (.panic (.ifc 137 (.nv 12 r.1)), [.bx (g8_2 r.2 1 2), .al (.named 1) r.2.Client.Files, .al .str r.2.Client.Names, .dead]))))⟩ }
theorem y109a : InsOk Tryz.prog 109 x109a.ins := goF Tryz.func109 rfl ⟨p126, p127, p72, p78, p93, trivial⟩ trivial trivial (fun _ _ _ _ _ _ _ _ _ _ _ => by show _ = _; kernel_rfl)
def P109 : SP := (109, .full [.ptr, .data .i6] false (fullF [x109.ins, x109a.ins]))
theorem p109 : OK P109 := fullI_ok ok Tryz.call109 ⟨y109, y109a, trivial⟩
def x94k : GFn E := { S := [P92], keep := true, i := ⟨[.v (.named 1)], [], fun c => .tot (.ret (N.cache_twin_2 c)) fun x_ => .ret (.ret [.agg 1 [.iv c.Mode, .iv c.Until, .iv c.Ver, .sv c.Body, .own 2, .iv c.Sent, .bv c.Called, .bv c.Lost]], [.dead, .dead, .al (.named 0) c.Dirty])⟩ }
theorem y94k : InsOk Tryz.prog 94 x94k.ins := goF Tryz.func94 rfl ⟨p92, trivial⟩ trivial trivial (fun _ => by show _ = _; kernel_rfl)
def P94k : SP := (94, .full [.data (.named 1)] false (fullF [x94k.ins]))
theorem p94k : OK P94k := fullI_ok ok Tryz.call94 ⟨y94k, trivial⟩
noncomputable def B134 : DSpec E := dbodyE E (lookS [P94]) (clL E 19 [] []) 0 Tryz.f134
theorem p134 : DSpecOk Tryz.prog E 134 B134 := dfullE_ok sound mix (S := [P94]) ⟨p94, trivial⟩ (L := clL E 19 [] []) (fun _ => rfl) Tryz.call134 Tryz.func134 rfl
def x128 : GFn E := { S := [P108, P94k], D := [(134, B134)], i := stdI [(.named 1), (.named 0)] [(.named 1), .bool] N.cache_Buffer_t }
theorem y128 : InsOk Tryz.prog 128 x128.ins := go Tryz.func128 rfl ⟨p108, p94k, trivial⟩ ⟨p134, trivial⟩ trivial (fun _ _ => by show _ = _; kernel_rfl)
def P128 : SP := (128, .pure [(.named 1), (.named 0)] (pureF [x128.ins]))
theorem p128 : OK P128 := pureI_ok Tryz.call128 ⟨y128, trivial⟩
def x34 : GFn E := { S := [P71, P72, P78], keep := true, i := ⟨[.ptr 0 [], .iv], [.bx (s8_4 1 2), .arr .fix (.named 1), .al .str], fun n a b c d e f g h j k => .opt (N.client_work_gives_t n (N.Tclient_work.mk (N.TClient.mk a b c d j k e f g h) [])) fun x_ => altT x_ (fun l => .ret (.ret [], [.bx (g8 l 1 2 4), .arr .fix (.named 1) l.Client.Files, .al .str l.Client.Names, .dead, .al (.named 2) l.asked])) (fun m => .ret (.ret [], [.bx (g8 m 1 2 5), .arr .fix (.named 1) m.Client.Files, .al .str m.Client.Names, .dead, .dead, .al (.named 2) m.asked]))⟩ }
theorem y34 : InsOk Tryz.prog 34 x34.ins := goF Tryz.func34 rfl ⟨p71, p72, p78, trivial⟩ trivial trivial (fun _ _ _ _ _ _ _ _ _ _ _ => by show _ = _; kernel_rfl)
def x34a : GFn E := { S := [P71, P72, P78], keep := true, i := ⟨[.ptr 0 [], .iv], [.bx (s8_4 1 2), .al (.named 1), .al .str], fun n a b c d e f g h j k => .opt (N.client_work_gives_2_t n (N.Tclient_work.mk (N.TClient.mk a b c d j k e f g h) [])) fun x_ => altT x_ (fun l => .ret (.ret [], [.bx (g8 l 1 2 4), .al (.named 1) l.Client.Files, .al .str l.Client.Names, .dead, .al (.named 2) l.asked])) (fun m => .ret (.ret [], [.bx (g8 m 1 2 5), .al (.named 1) m.Client.Files, .al .str m.Client.Names, .dead, .dead, .al (.named 2) m.asked]))⟩ }
theorem y34a : InsOk Tryz.prog 34 x34a.ins := goF Tryz.func34 rfl ⟨p71, p72, p78, trivial⟩ trivial trivial (fun _ _ _ _ _ _ _ _ _ _ _ => by show _ = _; kernel_rfl)
def P34 : SP := (34, .full [.ptr, .data .i6] false (fullF [x34.ins, x34a.ins]))
theorem p34 : OK P34 := fullI_ok ok Tryz.call34 ⟨y34, y34a, trivial⟩
def x129 : GFn E := { S := [P72, P78], keep := true, i := ⟨[.ptr 0 [], .iv], [.bx (s8_4 1 2), .arr .fix (.named 1), .al .str], fun n a b c d e f g h j k => .opt (N.client_work_flushes_t n (N.Tclient_work.mk (N.TClient.mk a b c d j k e f g h) [])) fun x_ => altT x_ (fun l => .ret (.ret [], [.bx (g8 l 1 2 4), .arr .fix (.named 1) l.Client.Files, .al .str l.Client.Names, .dead, .al (.named 2) l.asked])) (fun m => .ret (.ret [], [.bx (g8 m 1 2 5), .arr .fix (.named 1) m.Client.Files, .al .str m.Client.Names, .dead, .dead, .al (.named 2) m.asked]))⟩ }
theorem y129 : InsOk Tryz.prog 129 x129.ins := goF Tryz.func129 rfl ⟨p72, p78, trivial⟩ trivial trivial (fun _ _ _ _ _ _ _ _ _ _ _ => by show _ = _; kernel_rfl)
def x129a : GFn E := { S := [P72, P78], keep := true, i := ⟨[.ptr 0 [], .iv], [.bx (s8_4 1 2), .al (.named 1), .al .str], fun n a b c d e f g h j k => .opt (N.client_work_flushes_2_t n (N.Tclient_work.mk (N.TClient.mk a b c d j k e f g h) [])) fun x_ => altT x_ (fun l => .ret (.ret [], [.bx (g8 l 1 2 4), .al (.named 1) l.Client.Files, .al .str l.Client.Names, .dead, .al (.named 2) l.asked])) (fun m => .ret (.ret [], [.bx (g8 m 1 2 5), .al (.named 1) m.Client.Files, .al .str m.Client.Names, .dead, .dead, .al (.named 2) m.asked]))⟩ }
theorem y129a : InsOk Tryz.prog 129 x129a.ins := goF Tryz.func129 rfl ⟨p72, p78, trivial⟩ trivial trivial (fun _ _ _ _ _ _ _ _ _ _ _ => by show _ = _; kernel_rfl)
def P129 : SP := (129, .full [.ptr, .data .i6] false (fullF [x129.ins, x129a.ins]))
theorem p129 : OK P129 := fullI_ok ok Tryz.call129 ⟨y129, y129a, trivial⟩
def x110 : GFn E := { S := [P106, P126, P128, P129, P34, P72, P78, P93], keep := true, i := ⟨[.ptr 0 [], .iv, .v (.named 0)], [.bx (s8_4 1 2), .arr .fix (.named 1), .al .str], fun n x a b c d e f g h j k => .opt (N.client_work_writes_t n x (N.Tclient_work.mk (N.TClient.mk a b c d j k e f g h) [])) fun x_ => altT x_ (fun l => .ret (.ret [], [.bx (g8 l 1 2 5), .arr .fix (.named 1) l.Client.Files, .al .str l.Client.Names, .dead, .dead, .al (.named 2) l.asked])) (fun m => altT m (fun o => .ret (.ret [], [.bx (g8 o 1 2 6), .arr .fix (.named 1) o.Client.Files, .al .str o.Client.Names, .dead, .dead, .dead, .al (.named 2) o.asked])) (fun p => altT p (fun q => .ret (.ret [], [.bx (g8 q 1 2 7), .arr .fix (.named 1) q.Client.Files, .al .str q.Client.Names, .dead, .dead, .dead, .dead, .al (.named 2) q.asked])) (fun r => altT r (fun s => .ret (.ret [], [.bx (g8 s 1 2 8), .arr .fix (.named 1) s.Client.Files, .al .str s.Client.Names, .dead, .dead, .dead, .dead, .dead, .al (.named 2) s.asked])) (fun t => altT t (fun u => .ret (.panic (.ifc 137 (.nv 12 u.1)), [.bx (g8_2 u.2 1 2), .arr .fix (.named 1) u.2.Client.Files, .al .str u.2.Client.Names, .dead])) (fun v => altT v (fun w => .ret (.panic (.ifc 137 (.nv 12 w.1)), [.bx (g8_2 w.2 1 2), .arr .fix (.named 1) w.2.Client.Files, .al .str w.2.Client.Names, .dead, .dead])) (fun y => .ret (.panic (.ifc 137 (.nv 12 y.1)), [.bx (g8_2 y.2 1 2), .arr .fix (.named 1) y.2.Client.Files, .al .str y.2.Client.Names, .dead, .dead, .dead])))))))⟩ }
theorem y110 : InsOk Tryz.prog 110 x110.ins := goF Tryz.func110 rfl ⟨p106, p126, p128, p129, p34, p72, p78, p93, trivial⟩ trivial trivial (fun _ _ _ _ _ _ _ _ _ _ _ _ => by show _ = _; kernel_rfl)
def x110a : GFn E := { S := [P106, P126, P128, P129, P34, P72, P78, P93], keep := true, i := ⟨[.ptr 0 [], .iv, .v (.named 0)], [.bx (s8_4 1 2), .al (.named 1), .al .str], fun n x a b c d e f g h j k => .opt (N.client_work_writes_2_t n x (N.Tclient_work.mk (N.TClient.mk a b c d j k e f g h) [])) fun x_ => altT x_ (fun l => .ret (.ret [], [.bx (g8 l 1 2 5), .al (.named 1) l.Client.Files, .al .str l.Client.Names, .dead, .dead, .al (.named 2) l.asked])) (fun m => altT m (fun o => .ret (.ret [], [.bx (g8 o 1 2 6), .al (.named 1) o.Client.Files, .al .str o.Client.Names, .dead, .dead, .dead, .al (.named 2) o.asked])) (fun p => altT p (fun q => .ret (.ret [], [.bx (g8 q 1 2 7), .al (.named 1) q.Client.Files, .al .str q.Client.Names, .dead, .dead, .dead, .dead, .al (.named 2) q.asked])) (fun r => altT r (fun s => .ret (.ret [], [.bx (g8 s 1 2 8), .al (.named 1) s.Client.Files, .al .str s.Client.Names, .dead, .dead, .dead, .dead, .dead, .al (.named 2) s.asked])) (fun t => altT t (fun u => .ret (.panic (.ifc 137 (.nv 12 u.1)), [.bx (g8_2 u.2 1 2), .al (.named 1) u.2.Client.Files, .al .str u.2.Client.Names, .dead])) (fun v => altT v (fun w => .ret (.panic (.ifc 137 (.nv 12 w.1)), [.bx (g8_2 w.2 1 2), .al (.named 1) w.2.Client.Files, .al .str w.2.Client.Names, .dead, .dead])) (fun y => .ret (.panic (.ifc 137 (.nv 12 y.1)), [.bx (g8_2 y.2 1 2), .al (.named 1) y.2.Client.Files, .al .str y.2.Client.Names, .dead, .dead, .dead])))))))⟩ }
theorem y110a : InsOk Tryz.prog 110 x110a.ins := goF Tryz.func110 rfl ⟨p106, p126, p128, p129, p34, p72, p78, p93, trivial⟩ trivial trivial (fun _ _ _ _ _ _ _ _ _ _ _ _ => by show _ = _; kernel_rfl)
def P110 : SP := (110, .full [.ptr, .data .i6, .data (.named 0)] false (fullF [x110.ins, x110a.ins]))
theorem p110 : OK P110 := fullI_ok ok Tryz.call110 ⟨y110, y110a, trivial⟩
def x111 : GFn E := { S := [P106, P126, P129, P72], keep := true, i := ⟨[.ptr 0 [], .iv], [.bx (s8_4 1 2), .arr .fix (.named 1), .al .str], fun n a b c d e f g h j k => .opt (N.client_work_syncs_t n (N.Tclient_work.mk (N.TClient.mk a b c d j k e f g h) [])) fun x_ => altT x_ (fun l => .ret (.ret [], [.bx (g8 l 1 2 5), .arr .fix (.named 1) l.Client.Files, .al .str l.Client.Names, .dead, .dead, .al (.named 2) l.asked])) (fun m => altT m (fun o => .ret (.ret [], [.bx (g8 o 1 2 6), .arr .fix (.named 1) o.Client.Files, .al .str o.Client.Names, .dead, .dead, .dead, .al (.named 2) o.asked])) (fun p => altT p (fun q => .ret (.panic (.ifc 137 (.nv 12 q.1)), [.bx (g8_2 q.2 1 2), .arr .fix (.named 1) q.2.Client.Files, .al .str q.2.Client.Names, .dead])) (fun r => .ret (.panic (.ifc 137 (.nv 12 r.1)), [.bx (g8_2 r.2 1 2), .arr .fix (.named 1) r.2.Client.Files, .al .str r.2.Client.Names, .dead, .dead]))))⟩ }
theorem y111 : InsOk Tryz.prog 111 x111.ins := goF Tryz.func111 rfl ⟨p106, p126, p129, p72, trivial⟩ trivial trivial (fun _ _ _ _ _ _ _ _ _ _ _ => by show _ = _; kernel_rfl)
def x111a : GFn E := { S := [P106, P126, P129, P72], keep := true, i := ⟨[.ptr 0 [], .iv], [.bx (s8_4 1 2), .al (.named 1), .al .str], fun n a b c d e f g h j k => .opt (N.client_work_syncs_2_t n (N.Tclient_work.mk (N.TClient.mk a b c d j k e f g h) [])) fun x_ => altT x_ (fun l => .ret (.ret [], [.bx (g8 l 1 2 5), .al (.named 1) l.Client.Files, .al .str l.Client.Names, .dead, .dead, .al (.named 2) l.asked])) (fun m => altT m (fun o => .ret (.ret [], [.bx (g8 o 1 2 6), .al (.named 1) o.Client.Files, .al .str o.Client.Names, .dead, .dead, .dead, .al (.named 2) o.asked])) (fun p => altT p (fun q => .ret (.panic (.ifc 137 (.nv 12 q.1)), [.bx (g8_2 q.2 1 2), .al (.named 1) q.2.Client.Files, .al .str q.2.Client.Names, .dead])) (fun r => .ret (.panic (.ifc 137 (.nv 12 r.1)), [.bx (g8_2 r.2 1 2), .al (.named 1) r.2.Client.Files, .al .str r.2.Client.Names, .dead, .dead]))))⟩ }
theorem y111a : InsOk Tryz.prog 111 x111a.ins := goF Tryz.func111 rfl ⟨p106, p126, p129, p72, trivial⟩ trivial trivial (fun _ _ _ _ _ _ _ _ _ _ _ => by show _ = _; kernel_rfl)
def P111 : SP := (111, .full [.ptr, .data .i6] false (fullF [x111.ins, x111a.ins]))
theorem p111 : OK P111 := fullI_ok ok Tryz.call111 ⟨y111, y111a, trivial⟩
def x112 : GFn E := { S := [P106, P126, P34, P72], keep := true, i := ⟨[.ptr 0 [], .iv], [.bx (s8_4 1 2), .arr .fix (.named 1), .al .str], fun n a b c d e f g h j k => .opt (N.client_work_drops_t n (N.Tclient_work.mk (N.TClient.mk a b c d j k e f g h) [])) fun x_ => altT x_ (fun l => .ret (.ret [], [.bx (g8 l 1 2 4), .arr .fix (.named 1) l.Client.Files, .al .str l.Client.Names, .dead, .al (.named 2) l.asked])) (fun m => altT m (fun o => .ret (.ret [], [.bx (g8 o 1 2 5), .arr .fix (.named 1) o.Client.Files, .al .str o.Client.Names, .dead, .dead, .al (.named 2) o.asked])) (fun p => altT p (fun q => .ret (.panic (.ifc 137 (.nv 12 q.1)), [.bx (g8_2 q.2 1 2), .arr .fix (.named 1) q.2.Client.Files, .al .str q.2.Client.Names])) (fun r => .ret (.panic (.ifc 137 (.nv 12 r.1)), [.bx (g8_2 r.2 1 2), .arr .fix (.named 1) r.2.Client.Files, .al .str r.2.Client.Names, .dead]))))⟩ }
theorem y112 : InsOk Tryz.prog 112 x112.ins := goF Tryz.func112 rfl ⟨p106, p126, p34, p72, trivial⟩ trivial trivial (fun _ _ _ _ _ _ _ _ _ _ _ => by show _ = _; kernel_rfl)
def x112a : GFn E := { S := [P106, P126, P34, P72], keep := true, i := ⟨[.ptr 0 [], .iv], [.bx (s8_4 1 2), .al (.named 1), .al .str], fun n a b c d e f g h j k => .opt (N.client_work_drops_2_t n (N.Tclient_work.mk (N.TClient.mk a b c d j k e f g h) [])) fun x_ => altT x_ (fun l => .ret (.ret [], [.bx (g8 l 1 2 4), .al (.named 1) l.Client.Files, .al .str l.Client.Names, .dead, .al (.named 2) l.asked])) (fun m => altT m (fun o => .ret (.ret [], [.bx (g8 o 1 2 5), .al (.named 1) o.Client.Files, .al .str o.Client.Names, .dead, .dead, .al (.named 2) o.asked])) (fun p => altT p (fun q => .ret (.panic (.ifc 137 (.nv 12 q.1)), [.bx (g8_2 q.2 1 2), .al (.named 1) q.2.Client.Files, .al .str q.2.Client.Names])) (fun r => .ret (.panic (.ifc 137 (.nv 12 r.1)), [.bx (g8_2 r.2 1 2), .al (.named 1) r.2.Client.Files, .al .str r.2.Client.Names, .dead]))))⟩ }
theorem y112a : InsOk Tryz.prog 112 x112a.ins := goF Tryz.func112 rfl ⟨p106, p126, p34, p72, trivial⟩ trivial trivial (fun _ _ _ _ _ _ _ _ _ _ _ => by show _ = _; kernel_rfl)
def P112 : SP := (112, .full [.ptr, .data .i6] false (fullF [x112.ins, x112a.ins]))
theorem p112 : OK P112 := fullI_ok ok Tryz.call112 ⟨y112, y112a, trivial⟩
def x113 : GFn E := { S := [P106, P126, P71, P72, P78], keep := true, i := ⟨[.ptr 0 [], .iv], [.bx (s8_4 1 2), .arr .fix (.named 1), .al .str], fun n a b c d e f g h j k => .opt (N.client_work_ends_t n (N.Tclient_work.mk (N.TClient.mk a b c d j k e f g h) [])) fun x_ => altT x_ (fun l => .ret (.ret [], [.bx (g8 l 1 2 4), .arr .fix (.named 1) l.Client.Files, .al .str l.Client.Names, .dead, .al (.named 2) l.asked])) (fun m => altT m (fun o => .ret (.ret [], [.bx (g8 o 1 2 5), .arr .fix (.named 1) o.Client.Files, .al .str o.Client.Names, .dead, .dead, .al (.named 2) o.asked])) (fun p => .ret (.panic (.ifc 137 (.nv 12 p.1)), [.bx (g8_2 p.2 1 2), .arr .fix (.named 1) p.2.Client.Files, .al .str p.2.Client.Names])))⟩ }
theorem y113 : InsOk Tryz.prog 113 x113.ins := goF Tryz.func113 rfl ⟨p106, p126, p71, p72, p78, trivial⟩ trivial trivial (fun _ _ _ _ _ _ _ _ _ _ _ => by show _ = _; kernel_rfl)
def x113a : GFn E := { S := [P106, P126, P71, P72, P78], keep := true, i := ⟨[.ptr 0 [], .iv], [.bx (s8_4 1 2), .al (.named 1), .al .str], fun n a b c d e f g h j k => .opt (N.client_work_ends_2_t n (N.Tclient_work.mk (N.TClient.mk a b c d j k e f g h) [])) fun x_ => altT x_ (fun l => .ret (.ret [], [.bx (g8 l 1 2 4), .al (.named 1) l.Client.Files, .al .str l.Client.Names, .dead, .al (.named 2) l.asked])) (fun m => altT m (fun o => .ret (.ret [], [.bx (g8 o 1 2 5), .al (.named 1) o.Client.Files, .al .str o.Client.Names, .dead, .dead, .al (.named 2) o.asked])) (fun p => .ret (.panic (.ifc 137 (.nv 12 p.1)), [.bx (g8_2 p.2 1 2), .al (.named 1) p.2.Client.Files, .al .str p.2.Client.Names])))⟩ }
theorem y113a : InsOk Tryz.prog 113 x113a.ins := goF Tryz.func113 rfl ⟨p106, p126, p71, p72, p78, trivial⟩ trivial trivial (fun _ _ _ _ _ _ _ _ _ _ _ => by show _ = _; kernel_rfl)
def P113 : SP := (113, .full [.ptr, .data .i6] false (fullF [x113.ins, x113a.ins]))
theorem p113 : OK P113 := fullI_ok ok Tryz.call113 ⟨y113, y113a, trivial⟩
def x80 : GFn E := { S := [P106, P107, P108, P109, P110, P111, P112, P113, P72], keep := true, i := ⟨[.ptr 0 [], .v (.named 5)], [.bx (s8_4 1 2), .al (.named 1), .al .str], fun s a b c d e f g h j k => .opt (N.client_work_step_t N.fuel s (N.Tclient_work.mk (N.TClient.mk a b c d j k e f g h) [])) fun x_ => altT x_ (fun l => .ret (.ret [], [.bx (g8_2 l 1 2), .al (.named 1) l.Client.Files, .al .str l.Client.Names, .dead, .dead])) (fun m => altT m (fun n => .ret (.ret [], [.bx (g8_2 n 1 2), .al (.named 1) n.Client.Files, .al .str n.Client.Names, .dead, .dead, .dead])) (fun o => altT o (fun p => .ret (.ret [], [.bx (g8 p 1 2 10), .al (.named 1) p.Client.Files, .al .str p.Client.Names, .dead, .dead, .dead, .dead, .dead, .dead, .dead, .al (.named 2) p.asked])) (fun q => altT q (fun r => .ret (.ret [], [.bx (g8 r 1 2 11), .al (.named 1) r.Client.Files, .al .str r.Client.Names, .dead, .dead, .dead, .dead, .dead, .dead, .dead, .dead, .al (.named 2) r.asked])) (fun t => altT t (fun u => .ret (.ret [], [.bx (g8 u 1 2 5), .al (.named 1) u.Client.Files, .al .str u.Client.Names, .dead, .dead, .al (.named 2) u.asked])) (fun v => altT v (fun w => .ret (.ret [], [.bx (g8 w 1 2 6), .al (.named 1) w.Client.Files, .al .str w.Client.Names, .dead, .dead, .dead, .al (.named 2) w.asked])) (fun x => altT x (fun y => .ret (.ret [], [.bx (g8 y 1 2 7), .al (.named 1) y.Client.Files, .al .str y.Client.Names, .dead, .dead, .dead, .dead, .al (.named 2) y.asked])) (fun z => altT z (fun aa => .ret (.ret [], [.bx (g8 aa 1 2 8), .al (.named 1) aa.Client.Files, .al .str aa.Client.Names, .dead, .dead, .dead, .dead, .dead, .al (.named 2) aa.asked])) (fun ab => altT ab (fun ac => .ret (.ret [], [.bx (g8 ac 1 2 9), .al (.named 1) ac.Client.Files, .al .str ac.Client.Names, .dead, .dead, .dead, .dead, .dead, .dead, .al (.named 2) ac.asked])) (fun ad => altT ad (fun ae => .ret (.panic (.ifc 137 (.nv 12 ae.1)), [.bx (g8_2 ae.2 1 2), .al (.named 1) ae.2.Client.Files, .al .str ae.2.Client.Names, .dead])) (fun af => altT af (fun ag => .ret (.panic (.ifc 137 (.nv 12 ag.1)), [.bx (g8_2 ag.2 1 2), .al (.named 1) ag.2.Client.Files, .al .str ag.2.Client.Names, .dead, .dead])) (fun ah => altT ah (fun ai => .ret (.panic (.ifc 137 (.nv 12 ai.1)), [.bx (g8_2 ai.2 1 2), .al (.named 1) ai.2.Client.Files, .al .str ai.2.Client.Names, .dead, .dead, .dead])) (fun aj => altT aj (fun ak => .ret (.panic (.ifc 137 (.nv 12 ak.1)), [.bx (g8_2 ak.2 1 2), .al (.named 1) ak.2.Client.Files, .al .str ak.2.Client.Names, .dead, .dead, .dead, .dead])) (fun al => altT al (fun am => .ret (.panic (.ifc 137 (.nv 12 am.1)), [.bx (g8_2 am.2 1 2), .al (.named 1) am.2.Client.Files, .al .str am.2.Client.Names, .dead, .dead, .dead, .dead, .dead])) (fun an => .ret (.panic (.ifc 137 (.nv 12 an.1)), [.bx (g8_2 an.2 1 2), .al (.named 1) an.2.Client.Files, .al .str an.2.Client.Names, .dead, .dead, .dead, .dead, .dead, .dead])))))))))))))))⟩ }
theorem y80 : InsOk Tryz.prog 80 x80.ins := goF Tryz.func80 rfl ⟨p106, p107, p108, p109, p110, p111, p112, p113, p72, trivial⟩ trivial trivial (fun _ _ _ _ _ _ _ _ _ _ _ => by show _ = _; kernel_rfl)
def P80 : SP := (80, .full [.ptr, .data (.named 5)] false (fullF [x80.ins]))
theorem p80 : OK P80 := fullI_ok ok Tryz.call80 ⟨y80, trivial⟩
noncomputable def B79 : DSpec E := dbodyE E (lookS []) (clL E 20 [] []) 0 Tryz.f79
theorem p79 : DSpecOk Tryz.prog E 79 B79 := dfullE_ok sound mix (S := []) trivial (L := clL E 20 [] []) (fun _ => rfl) Tryz.call79 Tryz.func79 rfl
def x35 : GFn E := { S := [P80], D := [(79, B79)], keep := true, i := ⟨[.ptr 0 [], .v (.named 5)], [.bx (s8_4 1 2), .al (.named 1), .al .str], fun s a b c d e f g h j k => .opt (N.client_work_does_t N.fuel s (N.Tclient_work.mk (N.TClient.mk a b c d j k e f g h) [])) fun x_ => altT x_ (fun l => .ret (.ret [.nv 6 l.1], [.bx (g8_2 l.2 1 2), .al (.named 1) l.2.Client.Files, .al .str l.2.Client.Names, .dead, .dead, .dead])) (fun m => altT m (fun n => .ret (.ret [.nv 6 n.1], [.bx (g8_2 n.2 1 2), .al (.named 1) n.2.Client.Files, .al .str n.2.Client.Names, .dead, .dead, .dead, .dead])) (fun o => altT o (fun p => .ret (.ret [.nv 6 p.1], [.bx (g8_2 p.2 1 2), .al (.named 1) p.2.Client.Files, .al .str p.2.Client.Names, .dead, .dead, .dead, .dead, .dead])) (fun q => altT q (fun r => .ret (.ret [.nv 6 r.1], [.bx (g8_2 r.2 1 2), .al (.named 1) r.2.Client.Files, .al .str r.2.Client.Names, .dead, .dead, .dead, .dead, .dead, .dead])) (fun t => altT t (fun u => .ret (.ret [.nv 6 u.1], [.bx (g8_2 u.2 1 2), .al (.named 1) u.2.Client.Files, .al .str u.2.Client.Names, .dead, .dead, .dead, .dead, .dead, .dead, .dead])) (fun v => altT v (fun w => .ret (.ret [.nv 6 w.1], [.bx (g8_2 w.2 1 2), .al (.named 1) w.2.Client.Files, .al .str w.2.Client.Names, .dead, .dead, .dead, .dead, .dead, .dead, .dead, .dead])) (fun x => altT x (fun y => .ret (.ret [.nv 6 (N.TAns.mk 5 0 [])], [.bx (g8 y 1 2 10), .al (.named 1) y.Client.Files, .al .str y.Client.Names, .dead, .dead, .dead, .dead, .dead, .dead, .dead, .al (.named 2) y.asked])) (fun z => altT z (fun aa => .ret (.ret [.nv 6 (N.TAns.mk 5 0 [])], [.bx (g8 aa 1 2 11), .al (.named 1) aa.Client.Files, .al .str aa.Client.Names, .dead, .dead, .dead, .dead, .dead, .dead, .dead, .dead, .al (.named 2) aa.asked])) (fun ab => altT ab (fun ac => .ret (.ret [.nv 6 (N.TAns.mk 5 0 [])], [.bx (g8 ac 1 2 12), .al (.named 1) ac.Client.Files, .al .str ac.Client.Names, .dead, .dead, .dead, .dead, .dead, .dead, .dead, .dead, .dead, .al (.named 2) ac.asked])) (fun ad => altT ad (fun ae => .ret (.ret [.nv 6 (N.TAns.mk 5 0 [])], [.bx (g8 ae 1 2 13), .al (.named 1) ae.Client.Files, .al .str ae.Client.Names, .dead, .dead, .dead, .dead, .dead, .dead, .dead, .dead, .dead, .dead, .al (.named 2) ae.asked])) (fun af => altT af (fun ag => .ret (.ret [.nv 6 (N.TAns.mk 5 0 [])], [.bx (g8 ag 1 2 7), .al (.named 1) ag.Client.Files, .al .str ag.Client.Names, .dead, .dead, .dead, .dead, .al (.named 2) ag.asked])) (fun ah => altT ah (fun ai => .ret (.ret [.nv 6 (N.TAns.mk 5 0 [])], [.bx (g8 ai 1 2 8), .al (.named 1) ai.Client.Files, .al .str ai.Client.Names, .dead, .dead, .dead, .dead, .dead, .al (.named 2) ai.asked])) (fun aj => .ret (.ret [.nv 6 (N.TAns.mk 5 0 [])], [.bx (g8 aj 1 2 9), .al (.named 1) aj.Client.Files, .al .str aj.Client.Names, .dead, .dead, .dead, .dead, .dead, .dead, .al (.named 2) aj.asked])))))))))))))⟩ }
theorem y35 : InsOk Tryz.prog 35 x35.ins := goF Tryz.func35 rfl ⟨p80, trivial⟩ ⟨p79, trivial⟩ trivial (fun _ _ _ _ _ _ _ _ _ _ _ => by show _ = _; kernel_rfl)
def P35 : SP := (35, .full [.ptr, .data (.named 5)] false (fullF [x35.ins]))
theorem p35 : OK P35 := fullI_ok ok Tryz.call35 ⟨y35, trivial⟩
def x13 : GFn E := { S := [P25, P35], i := stdI [(.named 4), (.named 5)] [(.named 4), (.named 6), (.slice (.named 2))] (N.client_Do_t N.fuel) }
theorem y13 : InsOk Tryz.prog 13 x13.ins := go Tryz.func13 rfl ⟨p25, p35, trivial⟩ trivial trivial (fun _ _ => by show _ = _; kernel_rfl)
def P13 : SP := (13, .pure [(.named 4), (.named 5)] (pureF [x13.ins]))
theorem p13 : OK P13 := pureI_ok Tryz.call13 ⟨y13, trivial⟩
def x36 : GFn E := { i := ⟨[.iv, .iv], [], fun n a => .tot (N.ref13_num_t n a) fun x_ => .ret (.ret [.bv x_], [])⟩ }
theorem y36 : InsOk Tryz.prog 36 x36.ins := go Tryz.func36 rfl trivial trivial trivial (fun _ _ => by show _ = _; kernel_rfl)
def P36 : SP := (36, .pure [.i6, .i6] (pureF [x36.ins]))
theorem p36 : OK P36 := pureI_ok Tryz.call36 ⟨y36, trivial⟩
def x54 : GFn E := { S := [P36], i := ⟨[.v (.named 7)], [], fun t => .tot (N.ref13_MayTell_t t) fun x_ => .ret (.ret [.bv x_], [])⟩ }
theorem y54 : InsOk Tryz.prog 54 x54.ins := go Tryz.func54 rfl ⟨p36, trivial⟩ trivial trivial (fun _ => by show _ = _; kernel_rfl)
def P54 : SP := (54, .pure [(.named 7)] (pureF [x54.ins]))
theorem p54 : OK P54 := pureI_ok Tryz.call54 ⟨y54, trivial⟩
def x55 : GFn E := { ls := [{ ks := [1, 7, 8], rs := [6, 7], ins := some [⟨[.iv, .own 0, .iv], [.al (.int .u8)], fun v i a => ⟨(i, a), N.ref1_Put_s0t v, fun v_ => ([.iv v, .own 0, .iv v_.1], [.al (.int .u8) v_.2]), fun x_ => .ret (.exit 0, [.undef, .own 0], [.al (.int .u8) x_])⟩⟩] }], i := stdI [(.slice (.int .u8)), .i6, .i6] [(.slice (.int .u8))] (N.ref1_Put_t N.fuel) }
theorem y55 : InsOk Tryz.prog 55 x55.ins := go Tryz.func55 rfl trivial trivial ⟨⟨fun _ _ _ => ⟨rfl, fun _ => by show _ = _; kernel_rfl⟩, trivial⟩, trivial⟩ (fun _ _ _ => by show _ = _; kernel_rfl)
def P55 : SP := (55, .pure [(.slice (.int .u8)), .i6, .i6] (pureF [x55.ins]))
theorem p55 : OK P55 := pureI_ok Tryz.call55 ⟨y55, trivial⟩
def x57 : GFn E := { i := stdI [(.slice (.int .u8)), .str] [(.slice (.int .u8))] N.ref1_Text_t }
theorem y57 : InsOk Tryz.prog 57 x57.ins := go Tryz.func57 rfl trivial trivial trivial (fun _ _ => by show _ = _; kernel_rfl)
def P57 : SP := (57, .pure [(.slice (.int .u8)), .str] (pureF [x57.ins]))
theorem p57 : OK P57 := pureI_ok Tryz.call57 ⟨y57, trivial⟩
def x90 : GFn E := { ls := [{ ks := [0, 3, 4], rs := [2, 3], ins := some [⟨[.v (.slice (.int .u8)), .iv, .iv], [], fun b c i => ⟨(c, i), N.ref1_Crc_s1t N.fuel b, fun v_ => ([.val (.slice (.int .u8)) b, .iv v_.1, .iv v_.2], []), fun x_ => .ret (.exit 0, [.undef, .iv x_], [])⟩⟩] }, { ks := [0, 3, 4, 5], rs := [0, 2, 3, 4], ins := some [⟨[.v (.slice (.int .u8)), .iv, .iv, .iv], [], fun b c i k => ⟨(c, k), N.ref1_Crc_s0t b i, fun v_ => ([.val (.slice (.int .u8)) b, .iv v_.1, .iv i, .iv v_.2], []), fun x_ => .ret (.exit 2, [.val (.slice (.int .u8)) b, .undef, .iv x_, .iv i], [])⟩⟩] }], i := stdI [(.slice (.int .u8))] [(.int .u16)] (N.ref1_Crc_t N.fuel) }
theorem y90 : InsOk Tryz.prog 90 x90.ins := go Tryz.func90 rfl trivial trivial ⟨⟨fun _ _ _ => ⟨rfl, fun _ => by show _ = _; kernel_rfl⟩, trivial⟩, ⟨⟨fun _ _ _ _ => ⟨rfl, fun _ => by show _ = _; kernel_rfl⟩, trivial⟩, trivial⟩⟩ (fun _ => by show _ = _; kernel_rfl)
def P90 : SP := (90, .pure [(.slice (.int .u8))] (pureF [x90.ins]))
theorem p90 : OK P90 := pureI_ok Tryz.call90 ⟨y90, trivial⟩
def x56 : GFn E := { S := [P55, P90], i := stdI [(.slice (.int .u8))] [(.slice (.int .u8))] (N.ref13_sealed_t N.fuel) }
theorem y56 : InsOk Tryz.prog 56 x56.ins := go Tryz.func56 rfl ⟨p55, p90, trivial⟩ trivial trivial (fun _ => by show _ = _; kernel_rfl)
def P56 : SP := (56, .pure [(.slice (.int .u8))] (pureF [x56.ins]))
theorem p56 : OK P56 := pureI_ok Tryz.call56 ⟨y56, trivial⟩
def x20 : GFn E := { S := [P54, P55, P56, P57], i := stdI [(.named 7)] [(.slice (.int .u8))] (N.ref13_PutTell_t N.fuel) }
theorem y20 : InsOk Tryz.prog 20 x20.ins := go Tryz.func20 rfl ⟨p54, p55, p56, p57, trivial⟩ trivial trivial (fun _ => by show _ = _; kernel_rfl)
def P20 : SP := (20, .pure [(.named 7)] (pureF [x20.ins]))
theorem p20 : OK P20 := pureI_ok Tryz.call20 ⟨y20, trivial⟩
def x131 : GFn E := { i := ⟨[.v (.slice (.int .u8)), .iv], [], fun b n => .opt (N.bits_front_t b n) fun x_ => altT x_ (fun a => .ret (.ret [.val (.slice (.int .u8)) a], [])) (fun c => .ret (.panic (.ifc 161 (.nv 10 N.TNil0.mk)), []))⟩ }
theorem y131 : InsOk Tryz.prog 131 x131.ins := go Tryz.func131 rfl trivial trivial trivial (fun _ _ => by show _ = _; kernel_rfl)
def P131 : SP := (131, .pure [(.slice (.int .u8)), .i6] (pureF [x131.ins]))
theorem p131 : OK P131 := pureI_ok Tryz.call131 ⟨y131, trivial⟩
noncomputable def B130 : DSpec E := dbodyE E (lookS []) (clL E 18 [] []) 0 Tryz.f130
theorem p130 : DSpecOk Tryz.prog E 130 B130 := dfullE_ok sound mix (S := []) trivial (L := clL E 18 [] []) (fun _ => rfl) Tryz.call130 Tryz.func130 rfl
def x118 : GFn E := { S := [P131], D := [(130, B130)], ls := [{ ks := [4, 5, 16, 17, 18], rs := [4, 5], d := [(130, [.ptr 0 []])], ins := some [⟨[.iv, .ptr 0 [], .v (.slice (.int .u8)), .iv, .iv], [.bx (.v .bool)], fun v a b c ok => ⟨(v, c), N.bits_Take_s0t a b ok, fun v_ => ([.iv v_.1, .ptr 0 [], .val (.slice (.int .u8)) a, .iv b, .iv v_.2], [.bx (.bv ok)]), fun x_ => .ret (.exit 0, [.iv x_, .ptr 0 []], [.bx (.bv ok)])⟩⟩] }], i := stdI [(.slice (.int .u8)), .i6] [.i6, .bool] (N.bits_Take_t N.fuel) }
theorem y118 : InsOk Tryz.prog 118 x118.ins := go Tryz.func118 rfl ⟨p131, trivial⟩ ⟨p130, trivial⟩ ⟨⟨fun _ _ _ _ _ => ⟨rfl, fun _ => by show _ = _; kernel_rfl⟩, trivial⟩, trivial⟩ (fun _ _ => by show _ = _; kernel_rfl)
def P118 : SP := (118, .pure [(.slice (.int .u8)), .i6] (pureF [x118.ins]))
theorem p118 : OK P118 := pureI_ok Tryz.call118 ⟨y118, trivial⟩
def x97 : GFn E := { S := [P118], i := ⟨[.ptr 0 [], .iv], [.bx (.v (.named 11))], fun n r => .opt (N.msg_reader_num_t N.fuel n r) fun x_ => altT x_ (fun a => .ret (.ret [.iv a.1], [.bx (.nv 11 a.2)])) (fun b => .ret (.panic (.ifc 128 (.nv 10 N.TNil0.mk)), [.bx (.nv 11 r)]))⟩ }
theorem y97 : InsOk Tryz.prog 97 x97.ins := goF Tryz.func97 rfl ⟨p118, trivial⟩ trivial trivial (fun _ _ => by show _ = _; kernel_rfl)
def P97 : SP := (97, .full [.ptr, .data .i6] false (fullF [x97.ins]))
theorem p97 : OK P97 := fullI_ok ok Tryz.call97 ⟨y97, trivial⟩
def x119 : GFn E := { S := [P131], D := [(130, B130)], i := stdI [(.slice (.int .u8))] [.str, .i6, .bool] N.bits_TakeText_t }
theorem y119 : InsOk Tryz.prog 119 x119.ins := go Tryz.func119 rfl ⟨p131, trivial⟩ ⟨p130, trivial⟩ trivial (fun _ => by show _ = _; kernel_rfl)
def P119 : SP := (119, .pure [(.slice (.int .u8))] (pureF [x119.ins]))
theorem p119 : OK P119 := pureI_ok Tryz.call119 ⟨y119, trivial⟩
def x98 : GFn E := { S := [P119], i := ⟨[.ptr 0 []], [.bx (.v (.named 11))], fun r => .opt (N.msg_reader_text_t r) fun x_ => altT x_ (fun a => .ret (.ret [.sv a.1], [.bx (.nv 11 a.2)])) (fun b => .ret (.panic (.ifc 128 (.nv 10 N.TNil0.mk)), [.bx (.nv 11 r)]))⟩ }
theorem y98 : InsOk Tryz.prog 98 x98.ins := goF Tryz.func98 rfl ⟨p119, trivial⟩ trivial trivial (fun _ => by show _ = _; kernel_rfl)
def P98 : SP := (98, .full [.ptr] false (fullF [x98.ins]))
theorem p98 : OK P98 := fullI_ok ok Tryz.call98 ⟨y98, trivial⟩
def x69 : GFn E := { S := [P97, P98], i := ⟨[.ptr 0 []], [.bx (.v (.named 11))], fun r => .opt (N.msg_reader_tell_t N.fuel r) fun x_ => altT x_ (fun a => .ret (.ret [.nv 7 a.1], [.bx (.nv 11 a.2)])) (fun b => .ret (.panic (.ifc 128 (.nv 10 N.TNil0.mk)), [.bx (.nv 11 b)]))⟩ }
theorem y69 : InsOk Tryz.prog 69 x69.ins := goF Tryz.func69 rfl ⟨p97, p98, trivial⟩ trivial trivial (fun _ => by show _ = _; kernel_rfl)
def P69 : SP := (69, .full [.ptr] false (fullF [x69.ins]))
theorem p69 : OK P69 := fullI_ok ok Tryz.call69 ⟨y69, trivial⟩
def x120 : GFn E := { i := ⟨[.iv, .iv, .iv], [], fun lo hi v => .tot (N.msg_from_t lo hi v) fun x_ => .ret (.ret [.bv x_], [])⟩ }
theorem y120 : InsOk Tryz.prog 120 x120.ins := go Tryz.func120 rfl trivial trivial trivial (fun _ _ _ => by show _ = _; kernel_rfl)
def P120 : SP := (120, .pure [.i6, .i6, .i6] (pureF [x120.ins]))
theorem p120 : OK P120 := pureI_ok Tryz.call120 ⟨y120, trivial⟩
def x99 : GFn E := { S := [P120], i := ⟨[.v (.named 7)], [], fun t => .tot (N.msg_MayTell_t t) fun x_ => .ret (.ret [.bv x_], [])⟩ }
theorem y99 : InsOk Tryz.prog 99 x99.ins := go Tryz.func99 rfl ⟨p120, trivial⟩ trivial trivial (fun _ => by show _ = _; kernel_rfl)
def P99 : SP := (99, .pure [(.named 7)] (pureF [x99.ins]))
theorem p99 : OK P99 := pureI_ok Tryz.call99 ⟨y99, trivial⟩
noncomputable def B121 : List (DVal E.T) → St E.T → Tree (Res E.T × St E.T) := cloneF E (.int .u8)
def P121 : SP := (121, .full [.data (.slice (.int .u8))] false B121)
theorem cf121 : ∃ R0 C R id o1 o2, Tryz.f121.body = some (.seq R0 (.seq (.seq (.region id #[o1, o2] false) C) R)) ∧ (o1.op = .move (.tmp 0) ∧ o1.dst = some 3 ∧ o1.guard = none) ∧ (o2.op = .binOp .eql 37 (.tmp 3) (.const (.slice none 0 0)) 37 ∧ o2.dst = some 4 ∧ o2.guard = none) ∧
  CloneFacts E Tryz.f121 (.int .u8) R0 C R (fun xs => put E (frame E Tryz.f121 [.val (.slice (.int .u8)) xs]) (some 2) .nils) (fun xs => put E (put E (put E (put E (frame E Tryz.f121 [.val (.slice (.int .u8)) xs]) (some 2) .nils) (some 3) (.val (.slice (.int .u8)) xs)) (some 4) (.val .bool true)) (some 2) .nils) (fun xs n => put E (put E (put E (put E (put E (put E (put E (frame E Tryz.f121 [.val (.slice (.int .u8)) xs]) (some 2) .nils) (some 3) (.val (.slice (.int .u8)) xs)) (some 4) (.val .bool false)) (some 5) .nils) (some 6) (.val (.slice (.int .u8)) xs)) (some 7) (.own n)) (some 2) (.own n)) :=
 ⟨_, _, _, _, _, _, rfl, ⟨rfl, rfl, rfl⟩, ⟨rfl, rfl, rfl⟩, by
  constructor
  all_goals intros
  all_goals kernel_rfl⟩
theorem p121 : OK P121 := by
 obtain ⟨R0, C, R, id, o1, o2, hb, h1, h2, hF⟩ := cf121
 exact ⟨Tryz.call121, clone_fn sound mix Tryz.func121 hb h1 h2 ⟨_, Tryz.underlying37⟩ hF⟩
def x100 : GFn E := { S := [P121], ls := [{ ks := [0, 1, 2], rs := [0, 6], ins := some [⟨[.own 0, .iv, .iv], [.al (.int .u8)], fun v n b => ⟨(n, b), N.bits_Put_s0t v, fun v_ => ([.own 0, .iv v, .iv v_.1], [.al (.int .u8) v_.2]), fun x_ => .ret (.exit 0, [.own 0, .undef], [.al (.int .u8) x_])⟩⟩] }], i := stdI [(.slice (.int .u8)), .i6, .i6] [(.slice (.int .u8))] (N.bits_Put_t N.fuel) }
theorem y100 : InsOk Tryz.prog 100 x100.ins := go Tryz.func100 rfl ⟨p121, trivial⟩ trivial ⟨⟨fun _ _ _ => ⟨rfl, fun _ => by show _ = _; kernel_rfl⟩, trivial⟩, trivial⟩ (fun _ _ _ => by show _ = _; kernel_rfl)
def P100 : SP := (100, .pure [(.slice (.int .u8)), .i6, .i6] (pureF [x100.ins]))
theorem p100 : OK P100 := pureI_ok Tryz.call100 ⟨y100, trivial⟩
def x102 : GFn E := { S := [P121], i := stdI [(.slice (.int .u8)), .str] [(.slice (.int .u8))] N.bits_Text_t }
theorem y102 : InsOk Tryz.prog 102 x102.ins := go Tryz.func102 rfl ⟨p121, trivial⟩ trivial trivial (fun _ _ => by show _ = _; kernel_rfl)
def P102 : SP := (102, .pure [(.slice (.int .u8)), .str] (pureF [x102.ins]))
theorem p102 : OK P102 := pureI_ok Tryz.call102 ⟨y102, trivial⟩
def x122 : GFn E := { ls := [{ ks := [2, 6, 7, 8], rs := [2], ins := some [⟨[.v (.int .u16), .v (.slice (.int .u8)), .iv, .iv], [], fun c t6 t7 t8 => ⟨(c, t8), N.crc_Sum_s1t N.fuel t6 t7, fun v_ => ([.val (.int .u16) v_.1, .val (.slice (.int .u8)) t6, .iv t7, .iv v_.2], []), fun x_ => .ret (.exit 0, [.val (.int .u16) x_], [])⟩⟩] }, { ks := [2, 6, 7, 8, 16], rs := [2, 6, 7, 8], ins := some [⟨[.v (.int .u16), .v (.slice (.int .u8)), .iv, .iv, .iv], [], fun c t6 t7 t8 a => ⟨(c, a), N.crc_Sum_s0t t6 t7 t8, fun v_ => ([.val (.int .u16) v_.1, .val (.slice (.int .u8)) t6, .iv t7, .iv t8, .iv v_.2], []), fun x_ => .ret (.exit 2, [.val (.int .u16) x_, .val (.slice (.int .u8)) t6, .iv t7, .iv t8], [])⟩⟩] }], i := stdI [(.slice (.int .u8))] [(.int .u16)] (N.crc_Sum_t N.fuel) }
theorem y122 : InsOk Tryz.prog 122 x122.ins := go Tryz.func122 rfl trivial trivial ⟨⟨fun _ _ _ _ => ⟨rfl, fun _ => by show _ = _; kernel_rfl⟩, trivial⟩, ⟨⟨fun _ _ _ _ _ => ⟨rfl, fun _ => by show _ = _; kernel_rfl⟩, trivial⟩, trivial⟩⟩ (fun _ => by show _ = _; kernel_rfl)
def P122 : SP := (122, .pure [(.slice (.int .u8))] (pureF [x122.ins]))
theorem p122 : OK P122 := pureI_ok Tryz.call122 ⟨y122, trivial⟩
def x101 : GFn E := { S := [P100, P122], i := stdI [(.slice (.int .u8))] [(.slice (.int .u8))] (N.msg_sealed_t N.fuel) }
theorem y101 : InsOk Tryz.prog 101 x101.ins := go Tryz.func101 rfl ⟨p100, p122, trivial⟩ trivial trivial (fun _ => by show _ = _; kernel_rfl)
def P101 : SP := (101, .pure [(.slice (.int .u8))] (pureF [x101.ins]))
theorem p101 : OK P101 := pureI_ok Tryz.call101 ⟨y101, trivial⟩
def x70 : GFn E := { S := [P100, P101, P102, P99], i := stdI [(.named 7)] [(.slice (.int .u8))] (N.msg_PutTell_t N.fuel) }
theorem y70 : InsOk Tryz.prog 70 x70.ins := go Tryz.func70 rfl ⟨p100, p101, p102, p99, trivial⟩ trivial trivial (fun _ => by show _ = _; kernel_rfl)
def P70 : SP := (70, .pure [(.named 7)] (pureF [x70.ins]))
theorem p70 : OK P70 := pureI_ok Tryz.call70 ⟨y70, trivial⟩
def x96 : GFn E := { ls := [{ ks := [0, 1, 12, 13], rs := [4], ins := some [⟨[.v (.slice (.int .u8)), .v (.slice (.int .u8)), .iv, .iv], [], fun s1 s2 a b => ⟨b, N.slices_Equal_byte_s0t s1 s2 a, fun v_ => ([.val (.slice (.int .u8)) s1, .val (.slice (.int .u8)) s2, .iv a, .iv v_], []), fun x_ => altT x_ (fun c => .ret (.ret, [.bv false], [])) (fun d => .ret (.exit 0, [.undef], []))⟩⟩] }], i := stdI [(.slice (.int .u8)), (.slice (.int .u8))] [.bool] (N.slices_Equal_byte_t N.fuel) }
theorem y96 : InsOk Tryz.prog 96 x96.ins := go Tryz.func96 rfl trivial trivial ⟨⟨fun _ _ _ _ => ⟨rfl, fun _ => by show _ = _; kernel_rfl⟩, trivial⟩, trivial⟩ (fun _ _ => by show _ = _; kernel_rfl)
def P96 : SP := (96, .pure [(.slice (.int .u8)), (.slice (.int .u8))] (pureF [x96.ins]))
theorem p96 : OK P96 := pureI_ok Tryz.call96 ⟨y96, trivial⟩
noncomputable def B95 : DSpec E := dbodyE E (lookS []) (clL E 18 [] []) 0 Tryz.f95
theorem p95 : DSpecOk Tryz.prog E 95 B95 := dfullE_ok sound mix (S := []) trivial (L := clL E 18 [] []) (fun _ => rfl) Tryz.call95 Tryz.func95 rfl
def x68 : GFn E := { S := [P69, P70, P96], D := [(95, B95)], i := ⟨[.v (.slice (.int .u8)), .fn 69 [], .fn 70 []], [], fun b => .opt (N.msg_takes_Tell_t N.fuel b) fun x_ => .ret (.ret [.nv 7 x_.1, .bv x_.2], [])⟩ }
theorem y68 : InsOk Tryz.prog 68 x68.ins := go Tryz.func68 rfl ⟨p69, p70, p96, trivial⟩ ⟨p95, trivial⟩ trivial (fun _ => by show _ = _; kernel_rfl)
def P68 : SP := (68, .full [.data (.slice (.int .u8)), .func, .func] true (fullF [x68.ins]))
theorem p68 : OK P68 := fullI_ok ok Tryz.call68 ⟨y68, trivial⟩
def x26 : GFn E := { S := [P68], i := stdI [(.slice (.int .u8))] [(.named 7), .bool] (N.msg_TakeTell_t N.fuel) }
theorem y26 : InsOk Tryz.prog 26 x26.ins := go Tryz.func26 rfl ⟨p68, trivial⟩ trivial trivial (fun _ => by show _ = _; kernel_rfl)
def P26 : SP := (26, .pure [(.slice (.int .u8))] (pureF [x26.ins]))
theorem p26 : OK P26 := pureI_ok Tryz.call26 ⟨y26, trivial⟩
def x27 : GFn E := { S := [P31, P71], ls := [{ ks := [0, 3, 24, 25, 26], rs := [0, 3], ins := some [⟨[.ptr 0 [], .ptr 3 [], .own 1, .iv, .iv], [.bx (s8_4 1 2), .al (.named 1), .al .str, .bx (.v (.named 7))], fun a b c d e f g h j k l m t => ⟨(b, (N.Tclient_work.mk (N.TClient.mk c d e f l m g h j k) [])), N.client_work_epoch_s0t a t, fun v_ => ([.ptr 0 [], .ptr 3 [], .own 1, .iv a, .iv v_.1], [.bx (g8_2 v_.2 1 2), .al (.named 1) v_.2.Client.Files, .al .str v_.2.Client.Names, .bx (.nv 7 t)]), fun x_ => .ret (.exit 0, [.ptr 0 [], .ptr 3 []], [.bx (g8_2 x_ 1 2), .al (.named 1) x_.Client.Files, .al .str x_.Client.Names, .bx (.nv 7 t)])⟩⟩] }], keep := true, i := ⟨[.ptr 0 [], .v (.named 7)], [.bx (s8_4 1 2), .al (.named 1), .al .str], fun t c d e f g h j k l m => .opt (N.client_work_epoch_t N.fuel t (N.Tclient_work.mk (N.TClient.mk c d e f l m g h j k) [])) fun x_ => altT x_ (fun n => .ret (.ret [], [.bx (g8_2 n 1 2), .al (.named 1) n.Client.Files, .al .str n.Client.Names, .dead])) (fun o => .ret (.ret [], [.bx (g8 o 1 2 4), .al (.named 1) o.Client.Files, .al .str o.Client.Names, .dead, .al (.named 2) o.asked]))⟩ }
theorem y27 : InsOk Tryz.prog 27 x27.ins := goF Tryz.func27 rfl ⟨p31, p71, trivial⟩ trivial ⟨⟨fun _ _ _ _ _ _ _ _ _ _ _ _ _ => ⟨rfl, fun _ => by show _ = _; kernel_rfl⟩, trivial⟩, trivial⟩ (fun _ _ _ _ _ _ _ _ _ _ _ => by show _ = _; kernel_rfl)
def P27 : SP := (27, .full [.ptr, .data (.named 7)] false (fullF [x27.ins]))
theorem p27 : OK P27 := fullI_ok ok Tryz.call27 ⟨y27, trivial⟩
def x28 : GFn E := { S := [P34, P72], keep := true, i := ⟨[.ptr 0 [], .v (.named 7)], [.bx (s8_4 1 2), .al (.named 1), .al .str], fun t a b c d e f g h j k => .opt (N.client_work_called_t t (N.Tclient_work.mk (N.TClient.mk a b c d j k e f g h) [])) fun x_ => altT x_ (fun l => .ret (.ret [], [.bx (g8_2 l 1 2), .al (.named 1) l.Client.Files, .al .str l.Client.Names, .dead])) (fun m => altT m (fun n => .ret (.ret [], [.bx (g8_2 n 1 2), .al (.named 1) n.Client.Files, .al .str n.Client.Names, .dead, .dead])) (fun o => altT o (fun p => .ret (.ret [], [.bx (g8 p 1 2 5), .al (.named 1) p.Client.Files, .al .str p.Client.Names, .dead, .dead, .al (.named 2) p.asked])) (fun q => .ret (.ret [], [.bx (g8 q 1 2 6), .al (.named 1) q.Client.Files, .al .str q.Client.Names, .dead, .dead, .dead, .al (.named 2) q.asked]))))⟩ }
theorem y28 : InsOk Tryz.prog 28 x28.ins := goF Tryz.func28 rfl ⟨p34, p72, trivial⟩ trivial trivial (fun _ _ _ _ _ _ _ _ _ _ _ => by show _ = _; kernel_rfl)
def P28 : SP := (28, .full [.ptr, .data (.named 7)] false (fullF [x28.ins]))
theorem p28 : OK P28 := fullI_ok ok Tryz.call28 ⟨y28, trivial⟩
def x73 : GFn E := { ls := [{ ks := [0, 1, 2, 24, 25, 26], rs := [0, 1, 2], ins := some [⟨[.ptr 0 [], .v .str, .iv, .own 2, .iv, .iv], [.bx (s8_5 1 2), .arr .fix (.named 1), .al .str], fun a n b c d e f g h j k l m o p q r s t u v w x => ⟨(c, (N.Tclient_work.mk (N.TClient.mk d e f g w x (N.TOut.mk h (N.TAsk.mk j k l m o p q []) r s) t u v) [])), N.client_work_named_s0t a n b, fun v_ => ([.ptr 0 [], .sv a, .iv n, .own 2, .iv b, .iv v_.1], [.bx (g8_3 v_.2 1 2), .arr .fix (.named 1) v_.2.Client.Files, .al .str v_.2.Client.Names]), fun x_ => .ret (.exit 0, [.ptr 0 [], .sv a, .iv n], [.bx (g8_3 x_ 1 2), .arr .fix (.named 1) x_.Client.Files, .al .str x_.Client.Names])⟩⟩] }], i := ⟨[.ptr 0 [], .v .str, .iv], [.bx (s8_5 1 2), .arr .fix (.named 1), .al .str], fun a n d e f g h j k l m o p q r s t u v w x => .opt (N.client_work_named_t N.fuel a n (N.Tclient_work.mk (N.TClient.mk d e f g w x (N.TOut.mk h (N.TAsk.mk j k l m o p q []) r s) t u v) [])) fun x_ => .ret (.ret [], [.bx (g8_3 x_ 1 2), .arr .fix (.named 1) x_.Client.Files, .al .str x_.Client.Names])⟩ }
theorem y73 : InsOk Tryz.prog 73 x73.ins := goF Tryz.func73 rfl trivial trivial ⟨⟨fun _ _ _ _ _ _ _ _ _ _ _ _ _ _ _ _ _ _ _ _ _ _ _ => ⟨rfl, fun _ => by show _ = _; kernel_rfl⟩, trivial⟩, trivial⟩ (fun _ _ _ _ _ _ _ _ _ _ _ _ _ _ _ _ _ _ _ _ _ => by show _ = _; kernel_rfl)
def x73a : GFn E := { ls := [{ ks := [0, 1, 2, 24, 25, 26], rs := [0, 1, 2], ins := some [⟨[.ptr 0 [], .v .str, .iv, .own 2, .iv, .iv], [.bx (s8_5 1 2), .al (.named 1), .al .str], fun a n b c d e f g h j k l m o p q r s t u v w x => ⟨(c, (N.Tclient_work.mk (N.TClient.mk d e f g w x (N.TOut.mk h (N.TAsk.mk j k l m o p q []) r s) t u v) [])), N.client_work_named_2_s0t a n b, fun v_ => ([.ptr 0 [], .sv a, .iv n, .own 2, .iv b, .iv v_.1], [.bx (g8_3 v_.2 1 2), .al (.named 1) v_.2.Client.Files, .al .str v_.2.Client.Names]), fun x_ => .ret (.exit 0, [.ptr 0 [], .sv a, .iv n], [.bx (g8_3 x_ 1 2), .al (.named 1) x_.Client.Files, .al .str x_.Client.Names])⟩⟩] }], i := ⟨[.ptr 0 [], .v .str, .iv], [.bx (s8_5 1 2), .al (.named 1), .al .str], fun a n d e f g h j k l m o p q r s t u v w x => .opt (N.client_work_named_2_t N.fuel a n (N.Tclient_work.mk (N.TClient.mk d e f g w x (N.TOut.mk h (N.TAsk.mk j k l m o p q []) r s) t u v) [])) fun x_ => .ret (.ret [], [.bx (g8_3 x_ 1 2), .al (.named 1) x_.Client.Files, .al .str x_.Client.Names])⟩ }
theorem y73a : InsOk Tryz.prog 73 x73a.ins := goF Tryz.func73 rfl trivial trivial ⟨⟨fun _ _ _ _ _ _ _ _ _ _ _ _ _ _ _ _ _ _ _ _ _ _ _ => ⟨rfl, fun _ => by show _ = _; kernel_rfl⟩, trivial⟩, trivial⟩ (fun _ _ _ _ _ _ _ _ _ _ _ _ _ _ _ _ _ _ _ _ _ => by show _ = _; kernel_rfl)
def P73 : SP := (73, .full [.ptr, .data .str, .data .i6] false (fullF [x73.ins, x73a.ins]))
theorem p73 : OK P73 := fullI_ok ok Tryz.call73 ⟨y73, y73a, trivial⟩
def x104 : GFn E := { i := ⟨[.iv, .iv], [], fun v a => .opt (N.clock_within_t v a) fun x_ => altT x_ (fun b => .ret (.ret [], [])) (fun c => .ret (.panic (.ifc 148 (.nv 10 N.TNil0.mk)), []))⟩ }
theorem y104 : InsOk Tryz.prog 104 x104.ins := go Tryz.func104 rfl trivial trivial trivial (fun _ _ => by show _ = _; kernel_rfl)
def P104 : SP := (104, .pure [.i6, .i6] (pureF [x104.ins]))
theorem p104 : OK P104 := pureI_ok Tryz.call104 ⟨y104, trivial⟩
noncomputable def B103 : DSpec E := dbodyE E (lookS []) (clL E 18 [] []) 0 Tryz.f103
theorem p103 : DSpecOk Tryz.prog E 103 B103 := dfullE_ok sound mix (S := []) trivial (L := clL E 18 [] []) (fun _ => rfl) Tryz.call103 Tryz.func103 rfl
def x75 : GFn E := { S := [P104], D := [(103, B103)], i := stdI [.i6, .i6] [.i6] N.clock_Short_t }
theorem y75 : InsOk Tryz.prog 75 x75.ins := go Tryz.func75 rfl ⟨p104, trivial⟩ ⟨p103, trivial⟩ trivial (fun _ _ => by show _ = _; kernel_rfl)
def P75 : SP := (75, .pure [.i6, .i6] (pureF [x75.ins]))
theorem p75 : OK P75 := pureI_ok Tryz.call75 ⟨y75, trivial⟩
def x74 : GFn E := { i := ⟨[.iv, .iv], [], fun a b => .tot (N.clock_Add_t a b) fun x_ => .ret (.ret [.iv x_], [])⟩ }
theorem y74 : InsOk Tryz.prog 74 x74.ins := go Tryz.func74 rfl trivial trivial trivial (fun _ _ => by show _ = _; kernel_rfl)
def P74 : SP := (74, .pure [.i6, .i6] (pureF [x74.ins]))
theorem p74 : OK P74 := pureI_ok Tryz.call74 ⟨y74, trivial⟩
def x76 : GFn E := { S := [P94], i := ⟨[.v (.named 1), .iv, .iv, .iv, .v .str], [], fun c a b d e => .tot (.ret (N.cache_Let c a b d e)) fun x_ => .ret (.ret [.nv 1 x_], [])⟩ }
theorem y76 : InsOk Tryz.prog 76 x76.ins := go Tryz.func76 rfl ⟨p94, trivial⟩ trivial trivial (fun _ _ _ _ _ => by show _ = _; kernel_rfl)
def P76 : SP := (76, .pure [(.named 1), .i6, .i6, .i6, .str] (pureF [x76.ins]))
theorem p76 : OK P76 := pureI_ok Tryz.call76 ⟨y76, trivial⟩
def x77 : GFn E := { S := [P105, P92, P94], i := stdI [(.named 1), .i6] [(.named 1)] (N.cache_Done_t N.fuel) }
theorem y77 : InsOk Tryz.prog 77 x77.ins := go Tryz.func77 rfl ⟨p105, p92, p94, trivial⟩ trivial trivial (fun _ _ => by show _ = _; kernel_rfl)
def P77 : SP := (77, .pure [(.named 1), .i6] (pureF [x77.ins]))
theorem p77 : OK P77 := pureI_ok Tryz.call77 ⟨y77, trivial⟩
def x29 : GFn E := { S := [P71, P72, P73, P74, P75, P76, P77], i := ⟨[.ptr 0 [], .v (.named 7)], [.bx (s8_4 1 2), .al (.named 1), .al .str], fun t a b c d e f g h j k => .opt (N.client_work_done_t N.fuel t (N.Tclient_work.mk (N.TClient.mk a b c d j k e f g h) [])) fun x_ => altT x_ (fun l => .ret (.ret [], [.bx (g8_3 l 1 2), .al (.named 1) l.Client.Files, .al .str l.Client.Names])) (fun m => .ret (.ret [], [.bx (g8_2 m 1 2), .al (.named 1) m.Client.Files, .al .str m.Client.Names]))⟩ }
theorem y29 : InsOk Tryz.prog 29 x29.ins := goF Tryz.func29 rfl ⟨p71, p72, p73, p74, p75, p76, p77, trivial⟩ trivial trivial (fun _ _ _ _ _ _ _ _ _ _ _ => by show _ = _; kernel_rfl)
def P29 : SP := (29, .full [.ptr, .data (.named 7)] false (fullF [x29.ins]))
theorem p29 : OK P29 := fullI_ok ok Tryz.call29 ⟨y29, trivial⟩
def x11 : GFn E := { S := [P25, P26, P27, P28, P29], i := stdI [(.named 4), (.slice (.int .u8))] [(.named 4), (.slice (.named 2))] (N.client_Comes_t N.fuel) }
theorem y11 : InsOk Tryz.prog 11 x11.ins := go Tryz.func11 rfl ⟨p25, p26, p27, p28, p29, trivial⟩ trivial trivial (fun _ _ => by show _ = _; kernel_rfl)
def P11 : SP := (11, .pure [(.named 4), (.slice (.int .u8))] (pureF [x11.ins]))
theorem p11 : OK P11 := pureI_ok Tryz.call11 ⟨y11, trivial⟩
def x30 : GFn E := { i := ⟨[.v (.named 3), .iv], [], fun o a => .tot (N.sess_Due_t o a) fun x_ => .ret (.ret [.bv x_], [])⟩ }
theorem y30 : InsOk Tryz.prog 30 x30.ins := go Tryz.func30 rfl trivial trivial trivial (fun _ _ => by show _ = _; kernel_rfl)
def P30 : SP := (30, .pure [(.named 3), .i6] (pureF [x30.ins]))
theorem p30 : OK P30 := pureI_ok Tryz.call30 ⟨y30, trivial⟩
def x33 : GFn E := { i := ⟨[.v (.named 1), .ptr 0 []], [.box true (.ptr 1 []), .box true (s8_4 2 3), .arr .froz (.named 1), .arr .froz .str], fun f a b c d e g h j k l => .tot (N.client_Run_c1_t f (N.Tclient_work.mk (N.TClient.mk a b c d k l e g h j) [])) fun x_ => .ret (.ret [.bv x_], [.box true (.ptr 1 []), .box true (.agg 8 [.agg 4 [.iv a, .iv b, .iv c, .iv d, .own 2, .own 3, .nv 3 e, .iv g, .iv h, .iv j], .nils]), .arr .froz (.named 1) k, .arr .froz .str l])⟩ }
theorem y33 : InsOk Tryz.prog 33 x33.ins := go Tryz.func33 rfl trivial trivial trivial (fun _ _ _ _ _ _ _ _ _ _ _ => by show _ = _; kernel_rfl)
def P33 : SP := (33, .full [.data (.named 1), .ptr] true (fullF [x33.ins]))
theorem p33 : OK P33 := fullI_ok ok Tryz.call33 ⟨y33, trivial⟩
def x32 : GFn E := { S := [P33], ls := [{ ks := [0, 1, 7, 8], rs := [4], ins := some [⟨[.v (.slice (.named 1)), .fn 33 [.ptr 0 []], .iv, .iv], [.box true (.ptr 1 []), .box true (s8_4 2 3), .arr .froz (.named 1), .arr .froz .str], fun s t7 t8 a b c d e f g h j k => ⟨(t8, (N.Tclient_work.mk (N.TClient.mk a b c d j k e f g h) [])), N.slices_IndexFunc_Cache_s0t s t7, fun v_ => ([.val (.slice (.named 1)) s, .fn 33 [.ptr 0 []], .iv t7, .iv v_.1], [.box true (.ptr 1 []), .box true (g8_2 v_.2 2 3), .arr .froz (.named 1) v_.2.Client.Files, .arr .froz .str v_.2.Client.Names]), fun x_ => altT x_ (fun l => .ret (.ret, [.iv l.1], [.box true (.ptr 1 []), .box true (g8_2 l.2 2 3), .arr .froz (.named 1) l.2.Client.Files, .arr .froz .str l.2.Client.Names])) (fun m => .ret (.exit 0, [.undef], [.box true (.ptr 1 []), .box true (g8_2 m 2 3), .arr .froz (.named 1) m.Client.Files, .arr .froz .str m.Client.Names]))⟩⟩] }], i := ⟨[.v (.slice (.named 1)), .fn 33 [.ptr 0 []]], [.box true (.ptr 1 []), .box true (s8_4 2 3), .arr .froz (.named 1), .arr .froz .str], fun s a b c d e f g h j k => .opt (N.slices_IndexFunc_Cache_t N.fuel s (N.Tclient_work.mk (N.TClient.mk a b c d j k e f g h) [])) fun x_ => .ret (.ret [.iv x_.1], [.box true (.ptr 1 []), .box true (g8_2 x_.2 2 3), .arr .froz (.named 1) x_.2.Client.Files, .arr .froz .str x_.2.Client.Names])⟩ }
theorem y32 : InsOk Tryz.prog 32 x32.ins := go Tryz.func32 rfl ⟨p33, trivial⟩ trivial ⟨⟨fun _ _ _ _ _ _ _ _ _ _ _ _ _ => ⟨rfl, fun _ => by show _ = _; kernel_rfl⟩, trivial⟩, trivial⟩ (fun _ _ _ _ _ _ _ _ _ _ _ => by show _ = _; kernel_rfl)
def P32 : SP := (32, .full [.data (.slice (.named 1)), .func] true (fullF [x32.ins]))
theorem p32 : OK P32 := fullI_ok ok Tryz.call32 ⟨y32, trivial⟩
def x12 : GFn E := { S := [P25, P30, P31, P32, P34], i := stdI [(.named 4)] [(.named 4), (.slice (.named 2))] (N.client_Run_t N.fuel) }
theorem y12 : InsOk Tryz.prog 12 x12.ins := go Tryz.func12 rfl ⟨p25, p30, p31, p32, p34, trivial⟩ trivial trivial (fun _ => by show _ = _; kernel_rfl)
def P12 : SP := (12, .pure [(.named 4)] (pureF [x12.ins]))
theorem p12 : OK P12 := pureI_ok Tryz.call12 ⟨y12, trivial⟩
def x91 : GFn E := { ls := [{ ks := [0, 1, 12, 13], rs := [4], ins := some [⟨[.v (.slice (.named 0)), .v (.slice (.named 0)), .iv, .iv], [], fun s1 s2 a b => ⟨b, N.slices_Equal_Write_s0t s1 s2 a, fun v_ => ([.val (.slice (.named 0)) s1, .val (.slice (.named 0)) s2, .iv a, .iv v_], []), fun x_ => altT x_ (fun c => .ret (.ret, [.bv false], [])) (fun d => .ret (.exit 0, [.undef], []))⟩⟩] }], i := stdI [(.slice (.named 0)), (.slice (.named 0))] [.bool] (N.slices_Equal_Write_t N.fuel) }
theorem y91 : InsOk Tryz.prog 91 x91.ins := go Tryz.func91 rfl trivial trivial ⟨⟨fun _ _ _ _ => ⟨rfl, fun _ => by show _ = _; kernel_rfl⟩, trivial⟩, trivial⟩ (fun _ _ => by show _ = _; kernel_rfl)
def P91 : SP := (91, .pure [(.slice (.named 0)), (.slice (.named 0))] (pureF [x91.ins]))
theorem p91 : OK P91 := pureI_ok Tryz.call91 ⟨y91, trivial⟩
def x60 : GFn E := { S := [P91], i := stdI [(.named 2), (.named 2)] [.bool] (N.msg_SameAsk_t N.fuel) }
theorem y60 : InsOk Tryz.prog 60 x60.ins := go Tryz.func60 rfl ⟨p91, trivial⟩ trivial trivial (fun _ _ => by show _ = _; kernel_rfl)
def P60 : SP := (60, .pure [(.named 2), (.named 2)] (pureF [x60.ins]))
theorem p60 : OK P60 := pureI_ok Tryz.call60 ⟨y60, trivial⟩
def x62 : GFn E := { S := [P91], i := stdI [(.named 1), (.named 1)] [.bool] (N.cache_Same_t N.fuel) }
theorem y62 : InsOk Tryz.prog 62 x62.ins := go Tryz.func62 rfl ⟨p91, trivial⟩ trivial trivial (fun _ _ => by show _ = _; kernel_rfl)
def P62 : SP := (62, .pure [(.named 1), (.named 1)] (pureF [x62.ins]))
theorem p62 : OK P62 := pureI_ok Tryz.call62 ⟨y62, trivial⟩
def x61 : GFn E := { S := [P62], ls := [{ ks := [1, 2, 15, 16, 17], rs := [6], ins := some [⟨[.v (.slice (.named 1)), .fn 62 [], .v (.slice (.named 1)), .iv, .iv], [], fun s2 a b c => ⟨c, N.slices_EqualFunc_Cache_s0t N.fuel s2 a b, fun v_ => ([.val (.slice (.named 1)) s2, .fn 62 [], .val (.slice (.named 1)) a, .iv b, .iv v_], []), fun x_ => altT x_ (fun d => .ret (.ret, [.bv false], [.bx (.nv 1 d.1), .bx (.nv 1 d.2)])) (fun e => .ret (.exit 0, [.undef], []))⟩⟩] }], i := ⟨[.v (.slice (.named 1)), .v (.slice (.named 1)), .fn 62 []], [], fun s1 s2 => .opt (N.slices_EqualFunc_Cache_t N.fuel s1 s2) fun x_ => .ret (.ret [.bv x_], [])⟩ }
theorem y61 : InsOk Tryz.prog 61 x61.ins := go Tryz.func61 rfl ⟨p62, trivial⟩ trivial ⟨⟨fun _ _ _ _ => ⟨rfl, fun _ => by show _ = _; kernel_rfl⟩, trivial⟩, trivial⟩ (fun _ _ => by show _ = _; kernel_rfl)
def P61 : SP := (61, .full [.data (.slice (.named 1)), .data (.slice (.named 1)), .func] true (fullF [x61.ins]))
theorem p61 : OK P61 := fullI_ok ok Tryz.call61 ⟨y61, trivial⟩
def x63 : GFn E := { ls := [{ ks := [0, 1, 12, 13], rs := [4], ins := some [⟨[.v (.slice .str), .v (.slice .str), .iv, .iv], [], fun s1 s2 a b => ⟨b, N.slices_Equal_string_s0t s1 s2 a, fun v_ => ([.val (.slice .str) s1, .val (.slice .str) s2, .iv a, .iv v_], []), fun x_ => altT x_ (fun c => .ret (.ret, [.bv false], [])) (fun d => .ret (.exit 0, [.undef], []))⟩⟩] }], i := stdI [(.slice .str), (.slice .str)] [.bool] (N.slices_Equal_string_t N.fuel) }
theorem y63 : InsOk Tryz.prog 63 x63.ins := go Tryz.func63 rfl trivial trivial ⟨⟨fun _ _ _ _ => ⟨rfl, fun _ => by show _ = _; kernel_rfl⟩, trivial⟩, trivial⟩ (fun _ _ => by show _ = _; kernel_rfl)
def P63 : SP := (63, .pure [(.slice .str), (.slice .str)] (pureF [x63.ins]))
theorem p63 : OK P63 := pureI_ok Tryz.call63 ⟨y63, trivial⟩
def x23 : GFn E := { S := [P60, P61, P63], i := stdI [(.named 4), (.named 4)] [.bool] (N.client_Same_t N.fuel) }
theorem y23 : InsOk Tryz.prog 23 x23.ins := go Tryz.func23 rfl ⟨p60, p61, p63, trivial⟩ trivial trivial (fun _ _ => by show _ = _; kernel_rfl)
def P23 : SP := (23, .pure [(.named 4), (.named 4)] (pureF [x23.ins]))
theorem p23 : OK P23 := pureI_ok Tryz.call23 ⟨y23, trivial⟩
def x24 : GFn E := { S := [P9], i := ⟨[.v (.named 4)], [], fun c => .tot (.ret (N.client_Crash c)) fun x_ => .ret (.ret [.nv 4 x_], [])⟩ }
theorem y24 : InsOk Tryz.prog 24 x24.ins := go Tryz.func24 rfl ⟨p9, trivial⟩ trivial trivial (fun _ => by show _ = _; kernel_rfl)
def P24 : SP := (24, .pure [(.named 4)] (pureF [x24.ins]))
theorem p24 : OK P24 := pureI_ok Tryz.call24 ⟨y24, trivial⟩
def x8 : GFn E := { S := [P11, P12, P13, P20, P23, P24, P9], i := stdI [] [.bool] (N.law20_begun_t N.fuel) }
theorem y8 : InsOk Tryz.prog 8 x8.ins := go Tryz.func8 rfl ⟨p11, p12, p13, p20, p23, p24, p9, trivial⟩ trivial trivial (by show _ = _; kernel_rfl)
def P8 : SP := (8, .pure [] (pureF [x8.ins]))
theorem p8 : OK P8 := pureI_ok Tryz.call8 ⟨y8, trivial⟩
def x10 : GFn E := { S := [P20], i := stdI [(.named 4), (.arr 4 (.int .u8))] [(.named 5), (.slice (.int .u8)), .i6] (N.law20_deed_t N.fuel) }
theorem y10 : InsOk Tryz.prog 10 x10.ins := go Tryz.func10 rfl ⟨p20, trivial⟩ trivial trivial (fun _ _ => by show _ = _; kernel_rfl)
def P10 : SP := (10, .pure [(.named 4), (.arr 4 (.int .u8))] (pureF [x10.ins]))
theorem p10 : OK P10 := pureI_ok Tryz.call10 ⟨y10, trivial⟩
def x37 : GFn E := { ls := [{ ks := [0, 3], rs := [0, 2], ins := some [⟨[.v .str, .iv], [], fun s i => ⟨i, N.ref7_MayName_s0t s, fun v_ => ([.sv s, .iv v_], []), fun x_ => altT x_ (fun a => .ret (.ret, [.sv s, .bv false], [])) (fun b => .ret (.exit 0, [.sv s, .undef], []))⟩⟩] }], i := stdI [.str] [.bool] (N.ref7_MayName_t N.fuel) }
theorem y37 : InsOk Tryz.prog 37 x37.ins := go Tryz.func37 rfl trivial trivial ⟨⟨fun _ _ => ⟨rfl, fun _ => by show _ = _; kernel_rfl⟩, trivial⟩, trivial⟩ (fun _ => by show _ = _; kernel_rfl)
def P37 : SP := (37, .pure [.str] (pureF [x37.ins]))
theorem p37 : OK P37 := pureI_ok Tryz.call37 ⟨y37, trivial⟩
def x39 : GFn E := { ls := [{ ks := [0, 1, 5], rs := [4], ins := some [⟨[.v (.slice (.named 0)), .v (.slice (.named 0)), .iv], [], fun a b i => ⟨i, N.ref7_SameWrites_s0t a b, fun v_ => ([.val (.slice (.named 0)) a, .val (.slice (.named 0)) b, .iv v_], []), fun x_ => altT x_ (fun c => .ret (.ret, [.bv false], [])) (fun d => .ret (.exit 0, [.undef], []))⟩⟩] }], i := stdI [(.slice (.named 0)), (.slice (.named 0))] [.bool] (N.ref7_SameWrites_t N.fuel) }
theorem y39 : InsOk Tryz.prog 39 x39.ins := go Tryz.func39 rfl trivial trivial ⟨⟨fun _ _ _ => ⟨rfl, fun _ => by show _ = _; kernel_rfl⟩, trivial⟩, trivial⟩ (fun _ _ => by show _ = _; kernel_rfl)
def P39 : SP := (39, .pure [(.slice (.named 0)), (.slice (.named 0))] (pureF [x39.ins]))
theorem p39 : OK P39 := pureI_ok Tryz.call39 ⟨y39, trivial⟩
def x15 : GFn E := { S := [P39], i := stdI [(.named 2), (.named 2)] [.bool] (N.ref13_SameAsk_t N.fuel) }
theorem y15 : InsOk Tryz.prog 15 x15.ins := go Tryz.func15 rfl ⟨p39, trivial⟩ trivial trivial (fun _ _ => by show _ = _; kernel_rfl)
def P15 : SP := (15, .pure [(.named 2), (.named 2)] (pureF [x15.ins]))
theorem p15 : OK P15 := pureI_ok Tryz.call15 ⟨y15, trivial⟩
def x38 : GFn E := { i := ⟨[.v (.named 0)], [], fun w => .tot (N.ref7_MayWrite_t w) fun x_ => .ret (.ret [.bv x_], [])⟩ }
theorem y38 : InsOk Tryz.prog 38 x38.ins := go Tryz.func38 rfl trivial trivial trivial (fun _ => by show _ = _; kernel_rfl)
def P38 : SP := (38, .pure [(.named 0)] (pureF [x38.ins]))
theorem p38 : OK P38 := pureI_ok Tryz.call38 ⟨y38, trivial⟩
def x14 : GFn E := { S := [P15, P36, P37, P38], ls := [{ ks := [1, 3, 4, 5], rs := [1, 2, 3, 4], ins := some [⟨[.ptr 0 [], .ptr 1 [], .v .bool, .iv], [.bx (.v (.named 2)), .bx (.v (.named 2))], fun ok i a x => ⟨(ok, i), N.ref13_MayAsk_s0t a x, fun v_ => ([.ptr 0 [], .ptr 1 [], .bv v_.1, .iv v_.2], [.bx (.nv 2 a), .bx (.nv 2 x)]), fun x_ => .ret (.exit 1, [.ptr 0 [], .undef, .ptr 1 [], .bv x_], [.bx (.nv 2 a), .bx (.nv 2 x)])⟩⟩] }], i := stdI [(.named 2)] [.bool] (N.ref13_MayAsk_t N.fuel) }
theorem y14 : InsOk Tryz.prog 14 x14.ins := go Tryz.func14 rfl ⟨p15, p36, p37, p38, trivial⟩ trivial ⟨⟨fun _ _ _ _ => ⟨rfl, fun _ => by show _ = _; kernel_rfl⟩, trivial⟩, trivial⟩ (fun _ => by show _ = _; kernel_rfl)
def P14 : SP := (14, .pure [(.named 2)] (pureF [x14.ins]))
theorem p14 : OK P14 := pureI_ok Tryz.call14 ⟨y14, trivial⟩
def pr3 (l : List (List UInt8)) (i : Int) (c : N.TClient) : LPre E := ⟨(i, c), N.law20_ClientOne_s0t N.fuel l, fun v_ => ([.val (.slice (.arr 4 (.int .u8))) l, .ptr 0 [], .iv v_.1], [.bx (.nv 4 v_.2)]), fun x_ => altT x_ (fun a => .ret (.ret, [.bv false], [.bx (.agg 4 [.iv a.1.ID, .iv a.1.Now, .iv a.1.Epoch, .iv a.1.Seq, .val (.slice (.named 1)) a.1.Files, .val (.slice .str) a.1.Names, .nv 3 a.1.Out, .iv a.1.Bad, .iv a.1.Hits, .iv a.1.Asks]), .bx (.nv 5 a.2.1), .bx (.nv 4 a.2.2)])) (fun b => altT b (fun d => .ret (.ret, [.bv false], [.bx (.nv 4 d.1), .bx (.nv 5 d.2.1), .bx (.nv 4 d.2.2)])) (fun e => .ret (.exit 0, [.undef], [.bx (.nv 4 e)])))⟩
def l3 : GLp E := { ks := [0, 5, 6], rs := [4], ins := some [⟨[.v (.slice (.arr 4 (.int .u8))), .ptr 0 [], .iv], [.bx (.v (.named 4))], fun l i c => pr3 l i c⟩] }
def x3 : GFn E := { S := [P10, P11, P12, P13, P14, P15, P8, P9], ls := [l3], i := stdI [(.slice (.arr 4 (.int .u8))), (.int .u8)] [.bool] (N.law20_ClientOne_t N.fuel) }
section
variable (l : List (List UInt8)) (i : Int) (c : N.TClient) (v : Int × N.TClient)
@[irreducible] def A3 := x3.rA Tryz.f3 0 l3 1 (pr3 l i c) v
@[irreducible] def R3 := GFn.rR Tryz.f3 l3 (pr3 l i c) v
theorem q3_0 : (A3 l i c v).ic = (R3 l i c v).ic := by kernel_rfl
theorem q3_1 : (A3 l i c v).eb.get = (R3 l i c v).eb.got := by kernel_rfl
theorem q3_2 : (A3 l i c v).tb.ic = (R3 l i c v).tb.ic := by kernel_rfl
theorem q3_3 : (A3 l i c v).tb.eb.get = (R3 l i c v).tb.eb.got := by kernel_rfl
theorem t3a : (A3 l i c v).tb.tb.oT = (R3 l i c v).tb.tb.oT := by kernel_rfl
theorem o3a : cast (congrArg Option (t3a l i c v)) (A3 l i c v).tb.tb.oO = (R3 l i c v).tb.tb.oO := by kernel_rfl
variable (y : (A3 l i c v).tb.tb.oT)
theorem t3b : ((A3 l i c v).tb.tb.oF y).oT = ((R3 l i c v).tb.tb.oF (cast (t3a l i c v) y)).oT := by kernel_rfl
theorem o3b : cast (congrArg Option (t3b l i c v y)) ((A3 l i c v).tb.tb.oF y).oO = ((R3 l i c v).tb.tb.oF (cast (t3a l i c v) y)).oO := by kernel_rfl
variable (z : ((A3 l i c v).tb.tb.oF y).oT)
theorem q3_4 : (((A3 l i c v).tb.tb.oF y).oF z).ic = (((R3 l i c v).tb.tb.oF (cast (t3a l i c v) y)).oF (cast (t3b l i c v y) z)).ic := by kernel_rfl
theorem q3_5 : (((A3 l i c v).tb.tb.oF y).oF z).tb.get = (((R3 l i c v).tb.tb.oF (cast (t3a l i c v) y)).oF (cast (t3b l i c v y) z)).tb.got := by kernel_rfl
theorem q3_6 : (((A3 l i c v).tb.tb.oF y).oF z).eb.ic = (((R3 l i c v).tb.tb.oF (cast (t3a l i c v) y)).oF (cast (t3b l i c v y) z)).eb.ic := by kernel_rfl
theorem q3_7 : (((A3 l i c v).tb.tb.oF y).oF z).eb.tb.get = (((R3 l i c v).tb.tb.oF (cast (t3a l i c v) y)).oF (cast (t3b l i c v y) z)).eb.tb.got := by kernel_rfl
theorem q3_8 : (((A3 l i c v).tb.tb.oF y).oF z).eb.eb.ic = (((R3 l i c v).tb.tb.oF (cast (t3a l i c v) y)).oF (cast (t3b l i c v y) z)).eb.eb.ic := by kernel_rfl
theorem q3_9 : (((A3 l i c v).tb.tb.oF y).oF z).eb.eb.tb.get = (((R3 l i c v).tb.tb.oF (cast (t3a l i c v) y)).oF (cast (t3b l i c v y) z)).eb.eb.tb.got := by kernel_rfl
theorem q3_10 : (((A3 l i c v).tb.tb.oF y).oF z).eb.eb.eb.get = (((R3 l i c v).tb.tb.oF (cast (t3a l i c v) y)).oF (cast (t3b l i c v y) z)).eb.eb.eb.got := by kernel_rfl
end
theorem r3 (l : List (List UInt8)) (i : Int) (c : N.TClient) (v : Int × N.TClient) : (A3 l i c v).get = (R3 l i c v).got :=
 Tree.split_ite (q3_0 l i c v) (Tree.split_ite (q3_2 l i c v) (Tree.split_opt (t3a l i c v) (o3a l i c v) fun y =>
  Tree.split_opt (t3b l i c v y) (o3b l i c v y) fun z =>
  Tree.split_ite (q3_4 l i c v y z) (q3_5 l i c v y z) (Tree.split_ite (q3_6 l i c v y z) (q3_7 l i c v y z) (Tree.split_ite (q3_8 l i c v y z) (q3_9 l i c v y z) (q3_10 l i c v y z)))) (q3_3 l i c v)) (q3_1 l i c v)
theorem s3 (l : List (List UInt8)) (i : Int) (c : N.TClient) (v : Int × N.TClient) : (x3.rA Tryz.f3 0 l3 1 (pr3 l i c) v).get = (GFn.rR Tryz.f3 l3 (pr3 l i c) v).got := by
 have h := r3 l i c v
 unfold A3 R3 at h
 exact h
theorem z3 : FnOk Tryz.prog E 3 (x3.B Tryz.f3) := GFn.body_ok (x := x3) sound mix Tryz.func3 rfl ⟨p10, p11, p12, p13, p14, p15, p8, p9, trivial⟩ trivial ⟨⟨fun l i c => ⟨rfl, fun v => s3 l i c v⟩, trivial⟩, trivial⟩
theorem F3 : GFact (x3.B Tryz.f3) x3.i := fun _ _ => by show _ = _; kernel_rfl
theorem y3 : InsOk Tryz.prog 3 x3.ins := gIns_ok z3 F3
def P3 : SP := (3, .pure [(.slice (.arr 4 (.int .u8))), (.int .u8)] (pureF [x3.ins]))
theorem p3 : OK P3 := pureI_ok Tryz.call3 ⟨y3, trivial⟩
end
end Go.Proofs.YthabbcjjecpbmaaGreat.Z

set_option linter.unusedSimpArgs false
namespace Go.Proofs.YthabbcjjecpbmaaGreat.N
open Go
theorem wi64_of {n : Int} (h1 : -9223372036854775808 ≤ n) (h2 : n ≤ 9223372036854775807) : wi64 n = n := by
 unfold wi64; rw [IntKind.wrap_i64]; omega
theorem some_bind {α β : Type} (a : α) (f : α → Option β) : (some a).bind f = f a := rfl
theorem i8_lo (x : UInt8) : 0 ≤ i8 x := Int.natCast_nonneg _
theorem i8_hi (x : UInt8) : i8 x < 256 := by have := x.toNat_lt; unfold i8; omega
theorem i8_inj {x y : UInt8} (h : i8 x = i8 y) : x = y := UInt8.toNat_inj.1 (by unfold i8 at h; omega)
theorem i8_b8 {n : Int} (h : 0 ≤ n) (h2 : n < 256) : i8 (b8 n) = n := by
 unfold i8 b8
 rw [UInt8.toNat_ofNat_of_lt' (by show n.toNat < 256; omega)]
 omega
theorem inR_of {i : Int} {n : Nat} (h : 0 ≤ i) (h2 : i < n) : inR i n = true := by
 unfold inR; simp [h, h2]
theorem at_of {α : Type} {xs : List α} {i : Nat} {a : α} (h : xs[i]? = some a) : i < xs.length := (List.getElem?_eq_some_iff.1 h).1
def runL {A S X : Type} (g : A → S → Option (S ⊕ X)) (fin : S → X) : List A → S → Option X
 | [], s => some (fin s)
 | a :: r, s => (g a s).bind fun o => alt o (fun s' => runL g fin r s') (fun x => some x)
theorem iter_list {A S V X : Type} {step : V → Option (V ⊕ X)} {xs : List A} {mk : Nat → S → V} {g : A → S → Option (S ⊕ X)} {fin : S → X}
  (hc : ∀ i s a, xs[i]? = some a → step (mk i s) = (g a s).map (Sum.map (mk (i + 1)) id)) (he : ∀ s, step (mk xs.length s) = some (.inr (fin s))) :
  ∀ (r : List A) (i : Nat) (s : S) (n : Nat), xs.drop i = r → i ≤ xs.length → r.length < n → iter step n (mk i s) = runL g fin r s
 | _, _, _, 0, _, _, h => absurd h (Nat.not_lt_zero _)
 | [], i, s, n + 1, hd, hi, _ => by
  have : xs.length ≤ i := List.drop_eq_nil_iff.1 hd
  have : i = xs.length := Nat.le_antisymm hi this
  subst this
  rw [iter_succ, he]
  rfl
 | a :: r, i, s, n + 1, hd, hi, hn => by
  have hlt : i < xs.length := by
   rcases Nat.lt_or_ge i xs.length with h | h
   ·exact h
   ·rw [List.drop_eq_nil_iff.2 h] at hd; cases hd
  have ha : xs[i]? = some a := by
   have := List.getElem?_drop (xs := xs) (i := i) (j := 0)
   rw [hd] at this
   simpa using this.symm
  have hr : xs.drop (i + 1) = r := by
   have := List.drop_drop (l := xs) (i := 1) (j := i)
   rw [hd] at this
   simpa using this.symm
  rw [iter_succ, hc i s a ha, runL]
  cases hg : g a s with
  | none => rfl
  | some o =>
   simp only [Option.map_some, Option.bind_some]
   cases o with
   | inl s' => exact iter_list hc he r (i + 1) s' n hr hlt (by simp at hn; omega)
   | inr x => rfl
theorem iter_list0 {A S V X : Type} {step : V → Option (V ⊕ X)} {xs : List A} (mk : Nat → S → V) (g : A → S → Option (S ⊕ X)) (fin : S → X)
  (hc : ∀ i s a, xs[i]? = some a → step (mk i s) = (g a s).map (Sum.map (mk (i + 1)) id)) (he : ∀ s, step (mk xs.length s) = some (.inr (fin s))) (s : S) (hn : xs.length < fuel) :
  iter step fuel (mk 0 s) = runL g fin xs s := iter_list hc he xs 0 s fuel rfl (Nat.zero_le _) hn
theorem fuel_gt {n : Nat} (h : n < 4294967296) : n < fuel := by rw [fuel_eq]; exact h
theorem runL_all {A X : Type} (p : A → Bool) (x y : X) : ∀ l : List A, runL (S := Unit) (fun a _ => bif p a then some (.inl ()) else some (.inr x)) (fun _ => y) l () = some (bif l.all p then y else x)
 | [] => rfl
 | a :: r => by
  rw [runL, List.all_cons]
  cases p a with
  | true => exact runL_all p x y r
  | false => rfl
open Go
theorem lt_dec {i n : Nat} (h : i < n) : decide ((i : Int) < (n : Int)) = true := decide_eq_true (by omega)
theorem ge_dec (n : Nat) : decide ((n : Int) < (n : Int)) = false := decide_eq_false (by omega)
theorem inR_nat {i n : Nat} (h : i < n) : inR (i : Int) n = true := inR_of (by omega) (by omega)
theorem wi64_succ {i : Nat} (h : i < 4294967296) : wi64 ((i : Int) + 1) = ((i + 1 : Nat) : Int) := by rw [wi64_of (by omega) (by omega)]; omega
def okc (a : UInt8) : Bool := !(decide (i8 a < 33)) && !(decide (i8 a > 126))
def mayName (s : List UInt8) : Bool := s.all okc && (decide ((s.length : Int) ≥ 1) && decide ((s.length : Int) ≤ 8))
theorem dir_May_ok (s : List UInt8) (h : s.length < 4294967296) : dir_May fuel s = some (mayName s) := by
 have hl : dir_May_l0 fuel s (s.length : Int) s 0 = some (bif s.all okc then .inr () else .inl ()) := by
  unfold dir_May_l0
  rw [← runL_all okc (Sum.inl ()) (Sum.inr ()) s]
  refine iter_list0 (xs := s) (fun i (_ : Unit) => (i : Int)) _ _ (fun i _ a ha => ?_) (fun _ => ?_) () (fuel_gt h)
  ·have hi := at_of ha
   simp only [dir_May_s0, dir_May_s0t, get_ite, get_opt, get_ret, get_fail, get_altT, val_ite, val_ret, lt_dec hi, inR_nat hi, Int.toNat_natCast, ha, cond_true, some_bind, wi64_succ (Nat.lt_trans hi h), okc]
   cases decide (i8 a < 33) <;> cases decide (i8 a > 126) <;> rfl
  ·simp only [dir_May_s0, dir_May_s0t, get_ite, get_opt, get_ret, get_fail, get_altT, val_ite, val_ret, ge_dec, cond_false]
 unfold dir_May dir_May_t
 try simp only [get_ite, get_opt, get_ret, get_fail, get_altT, val_ite, val_ret]
 rw [hl, some_bind]
 unfold mayName
 cases s.all okc <;> cases decide ((s.length : Int) ≥ 1) <;> rfl
theorem ref7_MayName_ok (s : List UInt8) (h : s.length < 4294967296) : ref7_MayName fuel s = some (mayName s) := by
 have hl : ref7_MayName_l0 fuel s 0 = some (bif s.all okc then .inr () else .inl ()) := by
  unfold ref7_MayName_l0
  rw [← runL_all okc (Sum.inl ()) (Sum.inr ()) s]
  refine iter_list0 (xs := s) (fun i (_ : Unit) => (i : Int)) _ _ (fun i _ a ha => ?_) (fun _ => ?_) () (fuel_gt h)
  ·have hi := at_of ha
   simp only [ref7_MayName_s0, ref7_MayName_s0t, get_ite, get_opt, get_ret, get_fail, get_altT, val_ite, val_ret, lt_dec hi, inR_nat hi, Int.toNat_natCast, ha, cond_true, some_bind, wi64_succ (Nat.lt_trans hi h), okc]
   cases decide (i8 a < 33) <;> cases decide (i8 a > 126) <;> rfl
  ·simp only [ref7_MayName_s0, ref7_MayName_s0t, get_ite, get_opt, get_ret, get_fail, get_altT, val_ite, val_ret, ge_dec, cond_false]
 unfold ref7_MayName ref7_MayName_t
 try simp only [get_ite, get_opt, get_ret, get_fail, get_altT, val_ite, val_ret]
 rw [hl, some_bind]
 unfold mayName
 cases s.all okc <;> cases decide ((s.length : Int) ≥ 1) <;> rfl
theorem ref7_MayWrite_eq (w : TWrite) : ref7_MayWrite w = file_May w := by
 unfold ref7_MayWrite ref7_MayWrite_t file_May file_May_t
 try simp only [get_ite, get_opt, get_ret, get_fail, get_altT, val_ite, val_ret]
 by_cases h1 : w.Off ≥ 0 <;> by_cases h2 : w.Off < 24 <;> by_cases h3 : (w.B.length : Int) ≥ 1 <;> by_cases h4 : (w.B.length : Int) ≤ 24 <;>
  simp only [h1, h2, h3, h4, decide_true, decide_false, cond_true, cond_false, id]
 ·rw [wi64_of (by omega) (by omega), wi64_of (by omega) (by omega)]
  exact decide_eq_decide.2 (by omega)
 ·rw [wi64_of (by omega) (by omega)]
  exact decide_eq_false (by omega)
 ·rw [wi64_of (by omega) (by omega)]
  exact (decide_eq_false (by omega)).symm
 all_goals try rfl
theorem write_eqb (x y : TWrite) : TWrite.eqb x y = true ↔ x = y := by
 cases x; cases y
 simp [TWrite.eqb]
def sameW : List TWrite → List TWrite → Bool
 | [], [] => true
 | x :: a, y :: b => TWrite.eqb x y && sameW a b
 | _, _ => false
theorem sameW_iff : ∀ a b : List TWrite, sameW a b = true ↔ a = b
 | [], [] => by simp [sameW]
 | [], _ :: _ => by simp [sameW]
 | _ :: _, [] => by simp [sameW]
 | x :: a, y :: b => by simp [sameW, write_eqb, sameW_iff a b]
theorem sameW_zip : ∀ a b : List TWrite, a.length = b.length → sameW a b = (a.zip b).all fun p => TWrite.eqb p.1 p.2
 | [], [], _ => rfl
 | [], _ :: _, h => by simp at h
 | _ :: _, [], h => by simp at h
 | x :: a, y :: b, h => by
  simp only [sameW, List.zip_cons_cons, List.all_cons]
  rw [sameW_zip a b (by simpa using h)]
theorem sameW_len {a b : List TWrite} (h : a.length ≠ b.length) : sameW a b = false := by
 cases hs : sameW a b with
 | false => rfl
 | true => exact absurd (by rw [(sameW_iff a b).1 hs]) h
theorem zip_at {α β : Type} {a : List α} {b : List β} {i : Nat} {p : α × β} (h : (a.zip b)[i]? = some p) : a[i]? = some p.1 ∧ b[i]? = some p.2 := by
 rw [List.getElem?_zip_eq_some] at h
 exact h
theorem ref7_SameWrites_ok (a b : List TWrite) (h : a.length < 4294967296) : ref7_SameWrites fuel a b = some (sameW a b) := by
 unfold ref7_SameWrites ref7_SameWrites_t
 try simp only [get_ite, get_opt, get_ret, get_fail, get_altT, val_ite, val_ret]
 by_cases hl : a.length = b.length
 ·have hz : (a.zip b).length = a.length := by rw [List.length_zip]; omega
  have hl0 : ref7_SameWrites_l0 fuel a b 0 = some (bif (a.zip b).all (fun p => TWrite.eqb p.1 p.2) then .inr () else .inl ()) := by
   unfold ref7_SameWrites_l0
   rw [← runL_all (fun p : TWrite × TWrite => TWrite.eqb p.1 p.2) (Sum.inl ()) (Sum.inr ()) (a.zip b)]
   refine iter_list0 (xs := a.zip b) (fun i (_ : Unit) => (i : Int)) _ _ (fun i _ p hp => ?_) (fun _ => ?_) () (fuel_gt (by omega))
   ·have hi := at_of hp
    obtain ⟨h1, h2⟩ := zip_at hp
    rw [hz] at hi
    simp only [ref7_SameWrites_s0, ref7_SameWrites_s0t, get_ite, get_opt, get_ret, get_fail, get_altT, val_ite, val_ret, lt_dec hi, inR_nat hi, inR_nat (at_of h2), Int.toNat_natCast, h1, h2, cond_true, some_bind, wi64_succ (Nat.lt_trans hi h)]
    cases TWrite.eqb p.1 p.2 <;> rfl
   ·simp only [ref7_SameWrites_s0, ref7_SameWrites_s0t, get_ite, get_opt, get_ret, get_fail, get_altT, val_ite, val_ret, hz, ge_dec, cond_false]
  have : ((a.length : Int) != (b.length : Int)) = false := by simp [hl]
  rw [this, hl0, sameW_zip a b hl]
  cases (a.zip b).all (fun p => TWrite.eqb p.1 p.2) <;> rfl
 ·have : ((a.length : Int) != (b.length : Int)) = true := by simp; omega
  rw [this, sameW_len hl]
  rfl
def sameAsk (a b : TAsk) : Bool := a.Kind == b.Kind && (a.From == b.From && (a.Epoch == b.Epoch && (a.Seq == b.Seq && (a.Name == b.Name && (a.File == b.File && (a.Mode == b.Mode && sameW a.Writes b.Writes))))))
theorem sameAsk_iff (a b : TAsk) : sameAsk a b = true ↔ a = b := by
 cases a; cases b
 simp [sameAsk, sameW_iff]
theorem sameAsk_refl (a : TAsk) : sameAsk a a = true := (sameAsk_iff a a).2 rfl
theorem and_cond (a b : Bool) : (a && b) = bif a then b else false := by cases a <;> rfl
theorem ref13_SameAsk_ok (a b : TAsk) (h : a.Writes.length < 4294967296) : ref13_SameAsk fuel a b = some (sameAsk a b) := by
 unfold ref13_SameAsk ref13_SameAsk_t sameAsk
 try simp only [get_ite, get_opt, get_ret, get_fail, get_altT, val_ite, val_ret]
 rw [ref7_SameWrites_ok _ _ h]
 simp only [and_cond, some_bind]
 cases a.Kind == b.Kind <;> cases a.From == b.From <;> cases a.Epoch == b.Epoch <;> cases a.Seq == b.Seq <;> cases a.Name == b.Name <;> cases a.File == b.File <;> cases a.Mode == b.Mode <;> rfl
end Go.Proofs.YthabbcjjecpbmaaGreat.N

/- The seat's functions, and the nice ones (2). Loops and whole numbers of the nice functions. Plain words for this seat (1). Plain words for this seat (2). Plain words for this seat (3). Plain words for this seat (4). Plain words for this seat (5). Plain words for this seat (6). Plain words for this seat (7). Plain words for this seat (8). Plain words for this seat (9). -/
import Derived.Test.YthabbcjjecpbmaaGreatSeat3
import Derived.Test.YthabbcjjecpbmaaGreatBase5
import Derived.Laws.BitsLemmas
import Derived.Test.YthabbcjjecpbmaaGreatSeat2
set_option linter.unusedVariables false
set_option maxRecDepth 100000
namespace Go.Proofs.YthabbcjjecpbmaaGreat.Z
open Go Go.Proofs.YthabbcjjecpbmaaGreat.D
noncomputable section
def x88 : GFn E := { S := [P117], ls := [{ ks := [0, 1, 5], rs := [0, 4], ins := some [⟨[.v .str, .v (.slice (.named 0)), .iv], [], fun a l i => ⟨(a, i), N.ref7_All_s0t N.fuel l, fun v_ => ([.sv v_.1, .val (.slice (.named 0)) l, .iv v_.2], []), fun x_ => .ret (.exit 0, [.sv x_, .undef], [])⟩⟩] }], i := stdI [.str, (.slice (.named 0))] [.str] (N.ref7_All_t N.fuel) }
theorem y88 : InsOk Tryz.prog 88 x88.ins := go Tryz.func88 rfl ⟨p117, trivial⟩ trivial ⟨⟨fun _ _ _ => ⟨rfl, fun _ => by show _ = _; kernel_rfl⟩, trivial⟩, trivial⟩ (fun _ _ => by show _ = _; kernel_rfl)
def P88 : SP := (88, .pure [.str, (.slice (.named 0))] (pureF [x88.ins]))
theorem p88 : OK P88 := pureI_ok Tryz.call88 ⟨y88, trivial⟩
def x87 : GFn E := { S := [P88], i := stdI [(.named 1), .i6] [(.named 1)] (N.ref19_Done_t N.fuel) }
theorem y87 : InsOk Tryz.prog 87 x87.ins := go Tryz.func87 rfl ⟨p88, trivial⟩ trivial trivial (fun _ _ => by show _ = _; kernel_rfl)
def P87 : SP := (87, .pure [(.named 1), .i6] (pureF [x87.ins]))
theorem p87 : OK P87 := pureI_ok Tryz.call87 ⟨y87, trivial⟩
def x46 : GFn E := { S := [P43, P44, P84, P85, P86, P87], ls := [{ ks := [2, 3, 4, 5, 6], rs := [2, 3, 4, 5], ins := some [⟨[.ptr 0 [], .ptr 1 [], .ptr 2 [], .ptr 3 [], .iv], [.bx (.agg 4 [.iv, .iv, .iv, .iv, .v (.slice (.named 1)), .own 4, .agg 3 [.v .bool, .agg 2 [.iv, .iv, .iv, .iv, .v .str, .iv, .iv, .nils], .iv, .iv], .iv, .iv, .iv]), .bx (.v (.named 7)), .bx (s4_2), .bx (.v (.named 3)), .al .str], fun i a b c d e f g h j k l m n p q r s u t v w x y z aa ab ac ad ae af ag ah ai aj ak al o am => ⟨(i, (N.TClient.mk a b c d e am (N.TOut.mk f (N.TAsk.mk g h j k l m n []) p q) r s u), (N.TClient.mk v w x y [] [] (N.TOut.mk z (N.TAsk.mk aa ab ac ad ae af ag []) ah ai) aj ak al)), N.ref19_told_s0t t o, fun v_ => ([.ptr 0 [], .ptr 1 [], .ptr 2 [], .ptr 3 [], .iv v_.1], [.bx (g4_3 v_.2.1 4), .bx (.nv 7 t), .bx (g4 v_.2.2), .bx (.nv 3 o), .al .str v_.2.1.Names]), fun x_ => .ret (.exit 1, [.ptr 0 [], .ptr 1 [], .ptr 2 [], .ptr 3 []], [.bx (g4_3 x_.1 4), .bx (.nv 7 t), .bx (g4 x_.2), .bx (.nv 3 o), .al .str x_.1.Names])⟩⟩] }], i := stdI [(.named 4), (.named 7)] [(.named 4)] (N.ref19_told_t N.fuel) }
theorem y46 : InsOk Tryz.prog 46 x46.ins := go Tryz.func46 rfl ⟨p43, p44, p84, p85, p86, p87, trivial⟩ trivial ⟨⟨fun _ _ _ _ _ _ _ _ _ _ _ _ _ _ _ _ _ _ _ _ _ _ _ _ _ _ _ _ _ _ _ _ _ _ _ _ _ _ _ => ⟨rfl, fun _ => by show _ = _; kernel_rfl⟩, trivial⟩, trivial⟩ (fun _ _ => by show _ = _; kernel_rfl)
def P46 : SP := (46, .pure [(.named 4), (.named 7)] (pureF [x46.ins]))
theorem p46 : OK P46 := pureI_ok Tryz.call46 ⟨y46, trivial⟩
def x17 : GFn E := { S := [P40, P41, P42, P43, P44, P45, P46], ls := [{ ks := [2, 4, 8], rs := [2, 4, 5], ins := some [⟨[.ptr 0 [], .ptr 1 [], .iv], [.bx (.v (.named 4)), .bx (s4_2), .bx (.v (.named 7))], fun f c a b d e g h j k l m n o p q r s t o2 => ⟨(f, c, (N.TClient.mk a b d e [] [] (N.TOut.mk g (N.TAsk.mk h j k l m n o []) p q) r s t)), N.ref19_Comes_s0t o2, fun v_ => ([.ptr 0 [], .ptr 1 [], .iv v_.1], [.bx (.nv 4 v_.2.1), .bx (g4 v_.2.2), .bx (.nv 7 o2)]), fun x_ => .ret (.exit 0, [.ptr 0 [], .ptr 1 [], .undef], [.bx (.nv 4 x_.1), .bx (g4 x_.2), .bx (.nv 7 o2)])⟩⟩] }], i := stdI [(.named 4), (.slice (.int .u8))] [(.named 4), (.slice (.named 2))] (N.ref19_Comes_t N.fuel) }
theorem y17 : InsOk Tryz.prog 17 x17.ins := go Tryz.func17 rfl ⟨p40, p41, p42, p43, p44, p45, p46, trivial⟩ trivial ⟨⟨fun _ _ _ _ _ _ _ _ _ _ _ _ _ _ _ _ _ _ _ _ => ⟨rfl, fun _ => by show _ = _; kernel_rfl⟩, trivial⟩, trivial⟩ (fun _ _ => by show _ = _; kernel_rfl)
def P17 : SP := (17, .pure [(.named 4), (.slice (.int .u8))] (pureF [x17.ins]))
theorem p17 : OK P17 := pureI_ok Tryz.call17 ⟨y17, trivial⟩
def x47 : GFn E := { i := ⟨[.v (.named 3), .iv], [], fun o a => .tot (N.ref13_Due_t o a) fun x_ => .ret (.ret [.bv x_], [])⟩ }
theorem y47 : InsOk Tryz.prog 47 x47.ins := go Tryz.func47 rfl trivial trivial trivial (fun _ _ => by show _ = _; kernel_rfl)
def P47 : SP := (47, .pure [(.named 3), .i6] (pureF [x47.ins]))
theorem p47 : OK P47 := pureI_ok Tryz.call47 ⟨y47, trivial⟩
def x18 : GFn E := { S := [P40, P41, P45, P47], ls := [{ ks := [1, 2, 4], rs := [1, 2, 3], ins := some [⟨[.ptr 0 [], .ptr 1 [], .iv], [.bx (.v (.named 4)), .bx (s4_2)], fun f c a b d e g h j k l m n o p q r s t => ⟨(f, (N.TClient.mk a b d e [] [] (N.TOut.mk g (N.TAsk.mk h j k l m n o []) p q) r s t)), N.ref19_Run_s0t c, fun v_ => ([.ptr 0 [], .ptr 1 [], .iv v_.1], [.bx (.nv 4 c), .bx (g4 v_.2)]), fun x_ => altT x_ (fun u => .ret (.ret, [.ptr 0 [], .ptr 1 [], .val (.slice (.named 2)) u.1], [.bx (.nv 4 c), .bx (.nv 4 u.2.1), .bx (.nv 1 u.2.2.1), .bx (.nv 4 u.2.2.2), .bx (.nv 6 (N.TAns.mk 5 0 []))])) (fun v => .ret (.exit 0, [.ptr 0 [], .ptr 1 [], .undef], [.bx (.nv 4 c), .bx (g4 v)]))⟩⟩] }], i := stdI [(.named 4)] [(.named 4), (.slice (.named 2))] (N.ref19_Run_t N.fuel) }
theorem y18 : InsOk Tryz.prog 18 x18.ins := go Tryz.func18 rfl ⟨p40, p41, p45, p47, trivial⟩ trivial ⟨⟨fun _ _ _ _ _ _ _ _ _ _ _ _ _ _ _ _ _ _ _ => ⟨rfl, fun _ => by show _ = _; kernel_rfl⟩, trivial⟩, trivial⟩ (fun _ => by show _ = _; kernel_rfl)
def P18 : SP := (18, .pure [(.named 4)] (pureF [x18.ins]))
theorem p18 : OK P18 := pureI_ok Tryz.call18 ⟨y18, trivial⟩
def x48 : GFn E := { i := ⟨[.v (.named 4), .iv], [], fun c e => .tot (.ret (N.ref19_tells c e)) fun x_ => .ret (.ret [.nv 4 c, .nv 6 x_, .val (.slice (.named 2)) ([])], [])⟩ }
theorem y48 : InsOk Tryz.prog 48 x48.ins := go Tryz.func48 rfl trivial trivial trivial (fun _ _ => by show _ = _; kernel_rfl)
def P48 : SP := (48, .pure [(.named 4), .i6] (pureF [x48.ins]))
theorem p48 : OK P48 := pureI_ok Tryz.call48 ⟨y48, trivial⟩
def x37 : GFn E := { ls := [{ ks := [0, 3], rs := [0, 2], ins := some [⟨[.v .str, .iv], [], fun s i => ⟨i, N.ref7_MayName_s0t s, fun v_ => ([.sv s, .iv v_], []), fun x_ => altT x_ (fun a => .ret (.ret, [.sv s, .bv false], [])) (fun b => .ret (.exit 0, [.sv s, .undef], []))⟩⟩] }], i := stdI [.str] [.bool] (N.ref7_MayName_t N.fuel) }
theorem y37 : InsOk Tryz.prog 37 x37.ins := go Tryz.func37 rfl trivial trivial ⟨⟨fun _ _ => ⟨rfl, fun _ => by show _ = _; kernel_rfl⟩, trivial⟩, trivial⟩ (fun _ => by show _ = _; kernel_rfl)
def P37 : SP := (37, .pure [.str] (pureF [x37.ins]))
theorem p37 : OK P37 := pureI_ok Tryz.call37 ⟨y37, trivial⟩
def x49 : GFn E := { S := [P37, P48, P50], ls := [{ ks := [1, 2, 4, 5, 7], rs := [1, 2, 4, 5, 6], ins := some [⟨[.v .str, .ptr 0 [], .ptr 1 [], .ptr 2 [], .iv], [.bx (.v (.named 4)), .bx (s4_2), .bx (.v (.named 6))], fun a i c b d e f g h j k l m n o p q r s t o2 => ⟨(i, (N.TClient.mk b d e f [] [] (N.TOut.mk g (N.TAsk.mk h j k l m n o []) p q) r s t)), N.ref19_opens_s0t a c o2, fun v_ => ([.sv a, .ptr 0 [], .ptr 1 [], .ptr 2 [], .iv v_.1], [.bx (.nv 4 c), .bx (g4 v_.2), .bx (.nv 6 o2)]), fun x_ => altT x_ (fun u => .ret (.ret, [.sv a, .ptr 0 [], .ptr 1 [], .ptr 2 [], .nils], [.bx (.nv 4 c), .bx (.nv 4 c), .bx (.agg 6 [.iv u.Err, .iv u.File, .sv u.Body])])) (fun v => .ret (.exit 0, [.sv a, .ptr 0 [], .ptr 1 [], .ptr 2 [], .undef], [.bx (.nv 4 c), .bx (g4 v), .bx (.nv 6 o2)]))⟩⟩] }], i := stdI [(.named 4), .str] [(.named 4), (.named 6), (.slice (.named 2))] (N.ref19_opens_t N.fuel) }
theorem y49 : InsOk Tryz.prog 49 x49.ins := go Tryz.func49 rfl ⟨p37, p48, p50, trivial⟩ trivial ⟨⟨fun _ _ _ _ _ _ _ _ _ _ _ _ _ _ _ _ _ _ _ _ _ => ⟨rfl, fun _ => by show _ = _; kernel_rfl⟩, trivial⟩, trivial⟩ (fun _ _ => by show _ = _; kernel_rfl)
def P49 : SP := (49, .pure [(.named 4), .str] (pureF [x49.ins]))
theorem p49 : OK P49 := pureI_ok Tryz.call49 ⟨y49, trivial⟩
def x51 : GFn E := { S := [P88], i := stdI [(.named 1)] [.str] (N.ref19_View_t N.fuel) }
theorem y51 : InsOk Tryz.prog 51 x51.ins := go Tryz.func51 rfl ⟨p88, trivial⟩ trivial trivial (fun _ => by show _ = _; kernel_rfl)
def P51 : SP := (51, .pure [(.named 1)] (pureF [x51.ins]))
theorem p51 : OK P51 := pureI_ok Tryz.call51 ⟨y51, trivial⟩
def x89 : GFn E := { S := [P38], i := stdI [(.named 1), (.named 0)] [(.named 1), .bool] N.ref19_Buffer_t }
theorem y89 : InsOk Tryz.prog 89 x89.ins := go Tryz.func89 rfl ⟨p38, trivial⟩ trivial trivial (fun _ _ => by show _ = _; kernel_rfl)
def P89 : SP := (89, .pure [(.named 1), (.named 0)] (pureF [x89.ins]))
theorem p89 : OK P89 := pureI_ok Tryz.call89 ⟨y89, trivial⟩
def x53 : GFn E := { S := [P43, P50], i := ⟨[.v (.named 4), .iv], [], fun c a => .opt (N.ref19_flushes_t c a) fun x_ => .ret (.ret [.nv 4 x_.1, .nv 6 (N.TAns.mk 5 0 []), .val (.slice (.named 2)) x_.2], [])⟩ }
theorem y53 : InsOk Tryz.prog 53 x53.ins := go Tryz.func53 rfl ⟨p43, p50, trivial⟩ trivial trivial (fun _ _ => by show _ = _; kernel_rfl)
def P53 : SP := (53, .pure [(.named 4), .i6] (pureF [x53.ins]))
theorem p53 : OK P53 := pureI_ok Tryz.call53 ⟨y53, trivial⟩
def x52 : GFn E := { S := [P22, P43, P45, P48, P50, P53, P89], i := stdI [(.named 4), .i6, (.named 0)] [(.named 4), (.named 6), (.slice (.named 2))] N.ref19_writes_t }
theorem y52 : InsOk Tryz.prog 52 x52.ins := go Tryz.func52 rfl ⟨p22, p43, p45, p48, p50, p53, p89, trivial⟩ trivial trivial (fun _ _ _ => by show _ = _; kernel_rfl)
def P52 : SP := (52, .pure [(.named 4), .i6, (.named 0)] (pureF [x52.ins]))
theorem p52 : OK P52 := pureI_ok Tryz.call52 ⟨y52, trivial⟩
def x19 : GFn E := { S := [P22, P38, P40, P41, P43, P44, P45, P48, P49, P50, P51, P52, P53], i := stdI [(.named 4), (.named 5)] [(.named 4), (.named 6), (.slice (.named 2))] (N.ref19_Do_t N.fuel) }
theorem y19 : InsOk Tryz.prog 19 x19.ins := go Tryz.func19 rfl ⟨p22, p38, p40, p41, p43, p44, p45, p48, p49, p50, p51, p52, p53, trivial⟩ trivial trivial (fun _ _ => by show _ = _; kernel_rfl)
def P19 : SP := (19, .pure [(.named 4), (.named 5)] (pureF [x19.ins]))
theorem p19 : OK P19 := pureI_ok Tryz.call19 ⟨y19, trivial⟩
def x58 : GFn E := { ls := [{ ks := [0, 1, 5], rs := [4], ins := some [⟨[.v (.slice .str), .v (.slice .str), .iv], [], fun a b i => ⟨i, N.ref5_SameTexts_s0t a b, fun v_ => ([.val (.slice .str) a, .val (.slice .str) b, .iv v_], []), fun x_ => altT x_ (fun c => .ret (.ret, [.bv false], [])) (fun d => .ret (.exit 0, [.undef], []))⟩⟩] }], i := stdI [(.slice .str), (.slice .str)] [.bool] (N.ref5_SameTexts_t N.fuel) }
theorem y58 : InsOk Tryz.prog 58 x58.ins := go Tryz.func58 rfl trivial trivial ⟨⟨fun _ _ _ => ⟨rfl, fun _ => by show _ = _; kernel_rfl⟩, trivial⟩, trivial⟩ (fun _ _ => by show _ = _; kernel_rfl)
def P58 : SP := (58, .pure [(.slice .str), (.slice .str)] (pureF [x58.ins]))
theorem p58 : OK P58 := pureI_ok Tryz.call58 ⟨y58, trivial⟩
def x39 : GFn E := { ls := [{ ks := [0, 1, 5], rs := [4], ins := some [⟨[.v (.slice (.named 0)), .v (.slice (.named 0)), .iv], [], fun a b i => ⟨i, N.ref7_SameWrites_s0t a b, fun v_ => ([.val (.slice (.named 0)) a, .val (.slice (.named 0)) b, .iv v_], []), fun x_ => altT x_ (fun c => .ret (.ret, [.bv false], [])) (fun d => .ret (.exit 0, [.undef], []))⟩⟩] }], i := stdI [(.slice (.named 0)), (.slice (.named 0))] [.bool] (N.ref7_SameWrites_t N.fuel) }
theorem y39 : InsOk Tryz.prog 39 x39.ins := go Tryz.func39 rfl trivial trivial ⟨⟨fun _ _ _ => ⟨rfl, fun _ => by show _ = _; kernel_rfl⟩, trivial⟩, trivial⟩ (fun _ _ => by show _ = _; kernel_rfl)
def P39 : SP := (39, .pure [(.slice (.named 0)), (.slice (.named 0))] (pureF [x39.ins]))
theorem p39 : OK P39 := pureI_ok Tryz.call39 ⟨y39, trivial⟩
def x59 : GFn E := { S := [P39], i := stdI [(.named 1), (.named 1)] [.bool] (N.ref19_SameCache_t N.fuel) }
theorem y59 : InsOk Tryz.prog 59 x59.ins := go Tryz.func59 rfl ⟨p39, trivial⟩ trivial trivial (fun _ _ => by show _ = _; kernel_rfl)
def P59 : SP := (59, .pure [(.named 1), (.named 1)] (pureF [x59.ins]))
theorem p59 : OK P59 := pureI_ok Tryz.call59 ⟨y59, trivial⟩
def x15 : GFn E := { S := [P39], i := stdI [(.named 2), (.named 2)] [.bool] (N.ref13_SameAsk_t N.fuel) }
theorem y15 : InsOk Tryz.prog 15 x15.ins := go Tryz.func15 rfl ⟨p39, trivial⟩ trivial trivial (fun _ _ => by show _ = _; kernel_rfl)
def P15 : SP := (15, .pure [(.named 2), (.named 2)] (pureF [x15.ins]))
theorem p15 : OK P15 := pureI_ok Tryz.call15 ⟨y15, trivial⟩
def x21 : GFn E := { S := [P15, P58, P59], ls := [{ ks := [2, 3, 5], rs := [2, 3, 4], ins := some [⟨[.ptr 0 [], .ptr 1 [], .iv], [.bx (.v (.named 4)), .bx (.v (.named 4))], fun i a b => ⟨i, N.ref19_SameClient_s0t N.fuel a b, fun v_ => ([.ptr 0 [], .ptr 1 [], .iv v_], [.bx (.nv 4 a), .bx (.nv 4 b)]), fun x_ => altT x_ (fun c => .ret (.ret, [.ptr 0 [], .ptr 1 [], .bv false], [.bx (.nv 4 a), .bx (.nv 4 b)])) (fun d => .ret (.exit 0, [.ptr 0 [], .ptr 1 [], .undef], [.bx (.nv 4 a), .bx (.nv 4 b)]))⟩⟩] }], i := stdI [(.named 4), (.named 4)] [.bool] (N.ref19_SameClient_t N.fuel) }
theorem y21 : InsOk Tryz.prog 21 x21.ins := go Tryz.func21 rfl ⟨p15, p58, p59, trivial⟩ trivial ⟨⟨fun _ _ _ => ⟨rfl, fun _ => by show _ = _; kernel_rfl⟩, trivial⟩, trivial⟩ (fun _ _ => by show _ = _; kernel_rfl)
def P21 : SP := (21, .pure [(.named 4), (.named 4)] (pureF [x21.ins]))
theorem p21 : OK P21 := pureI_ok Tryz.call21 ⟨y21, trivial⟩
def x6 : GFn E := { S := [P10, P11, P15, P16, P17, P18, P19, P20, P21, P22, P8], ls := [{ ks := [0, 1, 5, 6], rs := [1, 4, 5], ins := some [⟨[.v (.slice (.arr 4 (.int .u8))), .v (.int .u8), .ptr 0 [], .iv], [.bx (.v (.named 4))], fun l n i c => ⟨(i, c), N.law20_ClientEpoch_s0t N.fuel l n, fun v_ => ([.val (.slice (.arr 4 (.int .u8))) l, .val (.int .u8) n, .ptr 0 [], .iv v_.1], [.bx (.nv 4 v_.2)]), fun x_ => .ret (.exit 0, [.val (.int .u8) n, .undef, .ptr 0 []], [.bx (.nv 4 x_)])⟩⟩] }, { ks := [5, 10, 11, 12, 15], rs := [4, 5, 10, 11, 12], ins := some [⟨[.ptr 0 [], .iv, .ptr 1 [], .v (.slice (.named 2)), .iv], [.bx (.v (.named 4)), .bx (.v (.named 4)), .bx (.v (.named 4))], fun e p f c x o2 => ⟨f, N.law20_ClientEpoch_s1t e p c x o2, fun v_ => ([.ptr 0 [], .iv e, .ptr 1 [], .val (.slice (.named 2)) p, .iv v_], [.bx (.nv 4 c), .bx (.nv 4 x), .bx (.nv 4 o2)]), fun x_ => altT x_ (fun a => .ret (.ret, [.bv false, .ptr 0 [], .iv e, .ptr 1 [], .val (.slice (.named 2)) p], [.bx (.nv 4 c), .bx (.nv 4 x), .bx (.nv 4 o2)])) (fun b => .ret (.exit 3, [.undef, .ptr 0 [], .iv e, .ptr 1 [], .val (.slice (.named 2)) p], [.bx (.nv 4 c), .bx (.nv 4 x), .bx (.nv 4 o2)]))⟩⟩] }], i := stdI [(.slice (.arr 4 (.int .u8))), (.int .u8)] [.bool] (N.law20_ClientEpoch_t N.fuel) }
theorem z6 : FnOk Tryz.prog E 6 (x6.B Tryz.f6) := GFn.body_ok (x := x6) sound mix Tryz.func6 rfl ⟨p10, p11, p15, p16, p17, p18, p19, p20, p21, p22, p8, trivial⟩ trivial ⟨⟨fun _ _ _ _ => ⟨rfl, fun _ => by show _ = _; kernel_rfl⟩, trivial⟩, ⟨⟨fun _ _ _ _ _ _ => ⟨rfl, fun _ => by show _ = _; kernel_rfl⟩, trivial⟩, trivial⟩⟩
theorem F6 : GFact (x6.B Tryz.f6) x6.i := fun _ _ => by show _ = _; kernel_rfl
theorem y6 : InsOk Tryz.prog 6 x6.ins := gIns_ok z6 F6
def P6 : SP := (6, .pure [(.slice (.arr 4 (.int .u8))), (.int .u8)] (pureF [x6.ins]))
theorem p6 : OK P6 := pureI_ok Tryz.call6 ⟨y6, trivial⟩
end
end Go.Proofs.YthabbcjjecpbmaaGreat.Z

set_option linter.unusedSimpArgs false
namespace Go.Proofs.YthabbcjjecpbmaaGreat.N
open Go
theorem wi64_of {n : Int} (h1 : -9223372036854775808 ≤ n) (h2 : n ≤ 9223372036854775807) : wi64 n = n := by
 unfold wi64; rw [IntKind.wrap_i64]; omega
theorem some_bind {α β : Type} (a : α) (f : α → Option β) : (some a).bind f = f a := rfl
theorem i8_lo (x : UInt8) : 0 ≤ i8 x := Int.natCast_nonneg _
theorem i8_hi (x : UInt8) : i8 x < 256 := by have := x.toNat_lt; unfold i8; omega
theorem i8_inj {x y : UInt8} (h : i8 x = i8 y) : x = y := UInt8.toNat_inj.1 (by unfold i8 at h; omega)
theorem i8_b8 {n : Int} (h : 0 ≤ n) (h2 : n < 256) : i8 (b8 n) = n := by
 unfold i8 b8
 rw [UInt8.toNat_ofNat_of_lt' (by show n.toNat < 256; omega)]
 omega
theorem inR_of {i : Int} {n : Nat} (h : 0 ≤ i) (h2 : i < n) : inR i n = true := by
 unfold inR; simp [h, h2]
theorem at_of {α : Type} {xs : List α} {i : Nat} {a : α} (h : xs[i]? = some a) : i < xs.length := (List.getElem?_eq_some_iff.1 h).1
def runL {A S X : Type} (g : A → S → Option (S ⊕ X)) (fin : S → X) : List A → S → Option X
 | [], s => some (fin s)
 | a :: r, s => (g a s).bind fun o => alt o (fun s' => runL g fin r s') (fun x => some x)
theorem iter_list {A S V X : Type} {step : V → Option (V ⊕ X)} {xs : List A} {mk : Nat → S → V} {g : A → S → Option (S ⊕ X)} {fin : S → X}
  (hc : ∀ i s a, xs[i]? = some a → step (mk i s) = (g a s).map (Sum.map (mk (i + 1)) id)) (he : ∀ s, step (mk xs.length s) = some (.inr (fin s))) :
  ∀ (r : List A) (i : Nat) (s : S) (n : Nat), xs.drop i = r → i ≤ xs.length → r.length < n → iter step n (mk i s) = runL g fin r s
 | _, _, _, 0, _, _, h => absurd h (Nat.not_lt_zero _)
 | [], i, s, n + 1, hd, hi, _ => by
  have : xs.length ≤ i := List.drop_eq_nil_iff.1 hd
  have : i = xs.length := Nat.le_antisymm hi this
  subst this
  rw [iter_succ, he]
  rfl
 | a :: r, i, s, n + 1, hd, hi, hn => by
  have hlt : i < xs.length := by
   rcases Nat.lt_or_ge i xs.length with h | h
   ·exact h
   ·rw [List.drop_eq_nil_iff.2 h] at hd; cases hd
  have ha : xs[i]? = some a := by
   have := List.getElem?_drop (xs := xs) (i := i) (j := 0)
   rw [hd] at this
   simpa using this.symm
  have hr : xs.drop (i + 1) = r := by
   have := List.drop_drop (l := xs) (i := 1) (j := i)
   rw [hd] at this
   simpa using this.symm
  rw [iter_succ, hc i s a ha, runL]
  cases hg : g a s with
  | none => rfl
  | some o =>
   simp only [Option.map_some, Option.bind_some]
   cases o with
   | inl s' => exact iter_list hc he r (i + 1) s' n hr hlt (by simp at hn; omega)
   | inr x => rfl
theorem iter_list0 {A S V X : Type} {step : V → Option (V ⊕ X)} {xs : List A} (mk : Nat → S → V) (g : A → S → Option (S ⊕ X)) (fin : S → X)
  (hc : ∀ i s a, xs[i]? = some a → step (mk i s) = (g a s).map (Sum.map (mk (i + 1)) id)) (he : ∀ s, step (mk xs.length s) = some (.inr (fin s))) (s : S) (hn : xs.length < fuel) :
  iter step fuel (mk 0 s) = runL g fin xs s := iter_list hc he xs 0 s fuel rfl (Nat.zero_le _) hn
theorem fuel_gt {n : Nat} (h : n < 4294967296) : n < fuel := by rw [fuel_eq]; exact h
theorem runL_all {A X : Type} (p : A → Bool) (x y : X) : ∀ l : List A, runL (S := Unit) (fun a _ => bif p a then some (.inl ()) else some (.inr x)) (fun _ => y) l () = some (bif l.all p then y else x)
 | [] => rfl
 | a :: r => by
  rw [runL, List.all_cons]
  cases p a with
  | true => exact runL_all p x y r
  | false => rfl
open Go
theorem lt_dec {i n : Nat} (h : i < n) : decide ((i : Int) < (n : Int)) = true := decide_eq_true (by omega)
theorem ge_dec (n : Nat) : decide ((n : Int) < (n : Int)) = false := decide_eq_false (by omega)
theorem inR_nat {i n : Nat} (h : i < n) : inR (i : Int) n = true := inR_of (by omega) (by omega)
theorem wi64_succ {i : Nat} (h : i < 4294967296) : wi64 ((i : Int) + 1) = ((i + 1 : Nat) : Int) := by rw [wi64_of (by omega) (by omega)]; omega
def okc (a : UInt8) : Bool := !(decide (i8 a < 33)) && !(decide (i8 a > 126))
def mayName (s : List UInt8) : Bool := s.all okc && (decide ((s.length : Int) ≥ 1) && decide ((s.length : Int) ≤ 8))
theorem dir_May_ok (s : List UInt8) (h : s.length < 4294967296) : dir_May fuel s = some (mayName s) := by
 have hl : dir_May_l0 fuel s (s.length : Int) s 0 = some (bif s.all okc then .inr () else .inl ()) := by
  unfold dir_May_l0
  rw [← runL_all okc (Sum.inl ()) (Sum.inr ()) s]
  refine iter_list0 (xs := s) (fun i (_ : Unit) => (i : Int)) _ _ (fun i _ a ha => ?_) (fun _ => ?_) () (fuel_gt h)
  ·have hi := at_of ha
   simp only [dir_May_s0, dir_May_s0t, get_ite, get_opt, get_ret, get_fail, get_altT, val_ite, val_ret, lt_dec hi, inR_nat hi, Int.toNat_natCast, ha, cond_true, some_bind, wi64_succ (Nat.lt_trans hi h), okc]
   cases decide (i8 a < 33) <;> cases decide (i8 a > 126) <;> rfl
  ·simp only [dir_May_s0, dir_May_s0t, get_ite, get_opt, get_ret, get_fail, get_altT, val_ite, val_ret, ge_dec, cond_false]
 unfold dir_May dir_May_t
 try simp only [get_ite, get_opt, get_ret, get_fail, get_altT, val_ite, val_ret]
 rw [hl, some_bind]
 unfold mayName
 cases s.all okc <;> cases decide ((s.length : Int) ≥ 1) <;> rfl
theorem ref7_MayName_ok (s : List UInt8) (h : s.length < 4294967296) : ref7_MayName fuel s = some (mayName s) := by
 have hl : ref7_MayName_l0 fuel s 0 = some (bif s.all okc then .inr () else .inl ()) := by
  unfold ref7_MayName_l0
  rw [← runL_all okc (Sum.inl ()) (Sum.inr ()) s]
  refine iter_list0 (xs := s) (fun i (_ : Unit) => (i : Int)) _ _ (fun i _ a ha => ?_) (fun _ => ?_) () (fuel_gt h)
  ·have hi := at_of ha
   simp only [ref7_MayName_s0, ref7_MayName_s0t, get_ite, get_opt, get_ret, get_fail, get_altT, val_ite, val_ret, lt_dec hi, inR_nat hi, Int.toNat_natCast, ha, cond_true, some_bind, wi64_succ (Nat.lt_trans hi h), okc]
   cases decide (i8 a < 33) <;> cases decide (i8 a > 126) <;> rfl
  ·simp only [ref7_MayName_s0, ref7_MayName_s0t, get_ite, get_opt, get_ret, get_fail, get_altT, val_ite, val_ret, ge_dec, cond_false]
 unfold ref7_MayName ref7_MayName_t
 try simp only [get_ite, get_opt, get_ret, get_fail, get_altT, val_ite, val_ret]
 rw [hl, some_bind]
 unfold mayName
 cases s.all okc <;> cases decide ((s.length : Int) ≥ 1) <;> rfl
theorem ref7_MayWrite_eq (w : TWrite) : ref7_MayWrite w = file_May w := by
 unfold ref7_MayWrite ref7_MayWrite_t file_May file_May_t
 try simp only [get_ite, get_opt, get_ret, get_fail, get_altT, val_ite, val_ret]
 by_cases h1 : w.Off ≥ 0 <;> by_cases h2 : w.Off < 24 <;> by_cases h3 : (w.B.length : Int) ≥ 1 <;> by_cases h4 : (w.B.length : Int) ≤ 24 <;>
  simp only [h1, h2, h3, h4, decide_true, decide_false, cond_true, cond_false, id]
 ·rw [wi64_of (by omega) (by omega), wi64_of (by omega) (by omega)]
  exact decide_eq_decide.2 (by omega)
 ·rw [wi64_of (by omega) (by omega)]
  exact decide_eq_false (by omega)
 ·rw [wi64_of (by omega) (by omega)]
  exact (decide_eq_false (by omega)).symm
 all_goals try rfl
theorem write_eqb (x y : TWrite) : TWrite.eqb x y = true ↔ x = y := by
 cases x; cases y
 simp [TWrite.eqb]
def sameW : List TWrite → List TWrite → Bool
 | [], [] => true
 | x :: a, y :: b => TWrite.eqb x y && sameW a b
 | _, _ => false
theorem sameW_iff : ∀ a b : List TWrite, sameW a b = true ↔ a = b
 | [], [] => by simp [sameW]
 | [], _ :: _ => by simp [sameW]
 | _ :: _, [] => by simp [sameW]
 | x :: a, y :: b => by simp [sameW, write_eqb, sameW_iff a b]
theorem sameW_zip : ∀ a b : List TWrite, a.length = b.length → sameW a b = (a.zip b).all fun p => TWrite.eqb p.1 p.2
 | [], [], _ => rfl
 | [], _ :: _, h => by simp at h
 | _ :: _, [], h => by simp at h
 | x :: a, y :: b, h => by
  simp only [sameW, List.zip_cons_cons, List.all_cons]
  rw [sameW_zip a b (by simpa using h)]
theorem sameW_len {a b : List TWrite} (h : a.length ≠ b.length) : sameW a b = false := by
 cases hs : sameW a b with
 | false => rfl
 | true => exact absurd (by rw [(sameW_iff a b).1 hs]) h
theorem zip_at {α β : Type} {a : List α} {b : List β} {i : Nat} {p : α × β} (h : (a.zip b)[i]? = some p) : a[i]? = some p.1 ∧ b[i]? = some p.2 := by
 rw [List.getElem?_zip_eq_some] at h
 exact h
theorem ref7_SameWrites_ok (a b : List TWrite) (h : a.length < 4294967296) : ref7_SameWrites fuel a b = some (sameW a b) := by
 unfold ref7_SameWrites ref7_SameWrites_t
 try simp only [get_ite, get_opt, get_ret, get_fail, get_altT, val_ite, val_ret]
 by_cases hl : a.length = b.length
 ·have hz : (a.zip b).length = a.length := by rw [List.length_zip]; omega
  have hl0 : ref7_SameWrites_l0 fuel a b 0 = some (bif (a.zip b).all (fun p => TWrite.eqb p.1 p.2) then .inr () else .inl ()) := by
   unfold ref7_SameWrites_l0
   rw [← runL_all (fun p : TWrite × TWrite => TWrite.eqb p.1 p.2) (Sum.inl ()) (Sum.inr ()) (a.zip b)]
   refine iter_list0 (xs := a.zip b) (fun i (_ : Unit) => (i : Int)) _ _ (fun i _ p hp => ?_) (fun _ => ?_) () (fuel_gt (by omega))
   ·have hi := at_of hp
    obtain ⟨h1, h2⟩ := zip_at hp
    rw [hz] at hi
    simp only [ref7_SameWrites_s0, ref7_SameWrites_s0t, get_ite, get_opt, get_ret, get_fail, get_altT, val_ite, val_ret, lt_dec hi, inR_nat hi, inR_nat (at_of h2), Int.toNat_natCast, h1, h2, cond_true, some_bind, wi64_succ (Nat.lt_trans hi h)]
    cases TWrite.eqb p.1 p.2 <;> rfl
   ·simp only [ref7_SameWrites_s0, ref7_SameWrites_s0t, get_ite, get_opt, get_ret, get_fail, get_altT, val_ite, val_ret, hz, ge_dec, cond_false]
  have : ((a.length : Int) != (b.length : Int)) = false := by simp [hl]
  rw [this, hl0, sameW_zip a b hl]
  cases (a.zip b).all (fun p => TWrite.eqb p.1 p.2) <;> rfl
 ·have : ((a.length : Int) != (b.length : Int)) = true := by simp; omega
  rw [this, sameW_len hl]
  rfl
def sameAsk (a b : TAsk) : Bool := a.Kind == b.Kind && (a.From == b.From && (a.Epoch == b.Epoch && (a.Seq == b.Seq && (a.Name == b.Name && (a.File == b.File && (a.Mode == b.Mode && sameW a.Writes b.Writes))))))
theorem sameAsk_iff (a b : TAsk) : sameAsk a b = true ↔ a = b := by
 cases a; cases b
 simp [sameAsk, sameW_iff]
theorem sameAsk_refl (a : TAsk) : sameAsk a a = true := (sameAsk_iff a a).2 rfl
theorem and_cond (a b : Bool) : (a && b) = bif a then b else false := by cases a <;> rfl
theorem ref13_SameAsk_ok (a b : TAsk) (h : a.Writes.length < 4294967296) : ref13_SameAsk fuel a b = some (sameAsk a b) := by
 unfold ref13_SameAsk ref13_SameAsk_t sameAsk
 try simp only [get_ite, get_opt, get_ret, get_fail, get_altT, val_ite, val_ret]
 rw [ref7_SameWrites_ok _ _ h]
 simp only [and_cond, some_bind]
 cases a.Kind == b.Kind <;> cases a.From == b.From <;> cases a.Epoch == b.Epoch <;> cases a.Seq == b.Seq <;> cases a.Name == b.Name <;> cases a.File == b.File <;> cases a.Mode == b.Mode <;> rfl
open Go
def rng (lo hi v : Int) : Bool := decide (lo ≤ v) && decide (v ≤ hi)
theorem rng_iff {lo hi v : Int} : rng lo hi v = true ↔ lo ≤ v ∧ v ≤ hi := by simp [rng]
theorem msg_from_eq (lo hi v : Int) : msg_from lo hi v = rng lo hi v := by
 unfold msg_from msg_from_t rng
 try simp only [get_ite, get_opt, get_ret, get_fail, get_altT, val_ite, val_ret]
 cases decide (lo ≤ v) <;> rfl
theorem ref13_num_eq (n least : Int) : ref13_num n least = rng least 1073741824 n := by
 unfold ref13_num ref13_num_t rng
 try simp only [get_ite, get_opt, get_ret, get_fail, get_altT, val_ite, val_ret]
 simp only [ge_iff_le]
 cases decide (least ≤ n) <;> rfl
def wantW (a : TAsk) : Bool := a.Kind == 3 || a.Kind == 4
def want (a : TAsk) : TAsk :=
 bif a.Kind == 1 then ⟨a.Kind, a.From, a.Epoch, a.Seq, a.Name, 0, 0, []⟩ else
 bif a.Kind == 2 then ⟨a.Kind, a.From, a.Epoch, a.Seq, [], a.File, a.Mode, []⟩ else
 bif wantW a then ⟨a.Kind, a.From, a.Epoch, a.Seq, [], a.File, 0, a.Writes⟩ else ⟨a.Kind, a.From, a.Epoch, a.Seq, [], a.File, 0, []⟩
def wantOk (a : TAsk) : Bool :=
 bif a.Kind == 1 then mayName a.Name else
 bif a.Kind == 2 then rng 1 6 a.File && rng 1 2 a.Mode else
 bif wantW a then decide ((a.Writes.length : Int) ≤ 5) && ((decide ((a.Writes.length : Int) > 0) || a.Kind == 4) && (rng 1 6 a.File && a.Writes.all file_May)) else rng 1 6 a.File
def mayAsk (a : TAsk) : Bool := rng 1 5 a.Kind && (rng 1 3 a.From && (rng 0 1073741824 a.Epoch && (rng 1 1073741824 a.Seq && (wantOk a && sameAsk a (want a)))))
theorem tell_eqb (x y : TTell) : TTell.eqb x y = true ↔ x = y := by
 cases x; cases y
 simp [TTell.eqb]
theorem MayTell_eq (t : TTell) : msg_MayTell t = ref13_MayTell t := by
 unfold msg_MayTell msg_MayTell_t ref13_MayTell ref13_MayTell_t
 try simp only [get_ite, get_opt, get_ret, get_fail, get_altT, val_ite, val_ret]
 simp only [msg_from_eq, ref13_num_eq, id]
 by_cases k0 : 1 ≤ t.Kind ∧ t.Kind ≤ 3
 ·obtain ⟨k1, k2⟩ := k0
  rw [decide_eq_false (show ¬ t.Kind < 1 by omega), decide_eq_false (show ¬ t.Kind > 3 by omega), rng_iff.2 ⟨k1, k2⟩]
  by_cases f0 : 1 ≤ t.To ∧ t.To ≤ 3
  ·obtain ⟨f1, f2⟩ := f0
   rw [decide_eq_false (show ¬ t.To < 1 by omega), decide_eq_false (show ¬ t.To > 3 by omega), rng_iff.2 ⟨f1, f2⟩]
   have h1 : rng 1 6 t.File = (decide (t.File ≥ 1) && decide (t.File ≤ 6)) := rfl
   have h2 : rng 0 6 t.File = (decide (t.File ≥ 0) && decide (t.File ≤ 6)) := rfl
   have h3 : rng 0 2 t.Mode = (decide (t.Mode ≥ 0) && decide (t.Mode ≤ 2)) := rfl
   rw [h1, h2, h3]
   have hk : t.Kind = 1 ∨ t.Kind = 2 ∨ t.Kind = 3 := by omega
   rcases hk with hk | hk | hk <;> rw [hk] <;> simp only [Int.reduceBEq, cond_true, cond_false, Bool.not_true]
   ·cases rng 0 1073741824 t.Epoch <;> cases rng 1 1073741824 t.Seq <;> cases decide (t.Err ≥ 0) <;> cases decide (t.Err ≤ 7) <;> cases decide (t.File ≥ 0) <;> cases decide (t.File ≤ 6) <;> cases decide (t.Mode ≥ 0) <;> cases decide (t.Mode ≤ 2) <;> rfl
   ·cases rng 0 1073741824 t.Epoch <;> cases decide (t.File ≥ 1) <;> cases decide (t.File ≤ 6) <;> cases TTell.eqb t (TTell.mk 2 t.To t.Epoch 0 0 t.File 0 0 []) <;> rfl
  ·have hf : rng 1 3 t.To = false := by
    cases h : rng 1 3 t.To with
    | false => rfl
    | true => exact absurd (rng_iff.1 h) f0
   rw [hf]
   by_cases f1 : t.To < 1
   ·rw [decide_eq_true f1]; rfl
   ·rw [decide_eq_false f1, decide_eq_true (show t.To > 3 by omega)]; rfl
 ·have hk : rng 1 3 t.Kind = false := by
   cases h : rng 1 3 t.Kind with
   | false => rfl
   | true => exact absurd (rng_iff.1 h) k0
  rw [hk]
  by_cases k1 : t.Kind < 1
  ·rw [decide_eq_true k1]; rfl
  ·rw [decide_eq_false k1, decide_eq_true (show t.Kind > 3 by omega)]; rfl
open Go
def byteAt (v : Int) (k : Nat) : UInt8 := b8 (wu8 (shrI .i64 v (wi64 (8 * (k : Int)))))
def be : Nat → Int → List UInt8
 | 0, _ => []
 | k + 1, v => byteAt v k :: be k v
theorem be_len : ∀ (k : Nat) (v : Int), (be k v).length = k
 | 0, _ => rfl
 | k + 1, v => by rw [be, List.length_cons, be_len k v]
theorem put_loop (v : Int) : ∀ (i : Nat) (b : List UInt8) (n : Nat), i < n → i ≤ 8 → b.length + i ≤ lim → iter (bits_Put_s0 v) n ((i : Int) - 1, b) = some (b ++ be i v)
 | _, _, 0, h, _, _ => absurd h (Nat.not_lt_zero _)
 | 0, b, n + 1, _, _, _ => by
  rw [iter_succ]
  simp only [bits_Put_s0, bits_Put_s0t, get_ite, get_opt, get_ret, get_fail, get_altT, val_ite, val_ret]
  rw [decide_eq_false (by omega)]
  show some b = some (b ++ [])
  rw [List.append_nil]
 | i + 1, b, n + 1, h, h8, hl => by
  rw [iter_succ]
  simp only [bits_Put_s0, bits_Put_s0t, get_ite, get_opt, get_ret, get_fail, get_altT, val_ite, val_ret]
  have e : ((i + 1 : Nat) : Int) - 1 = (i : Int) := by omega
  rw [e, decide_eq_true (show (i : Int) ≥ 0 by omega), wi64_of (show -9223372036854775808 ≤ 8 * (i : Int) by omega) (by omega), decide_eq_false (show ¬ 8 * (i : Int) < 0 by omega), decide_eq_true (show b.length + 1 ≤ lim by omega)]
  simp only [cond_true, cond_false, some_bind, alt_inl]
  rw [wi64_of (by omega) (by omega), put_loop v i _ n (by omega) (by omega) (by rw [List.length_append]; simp only [List.length_cons, List.length_nil]; omega), List.append_assoc]
  rw [show be (i + 1) v = byteAt v i :: be i v from rfl]
  unfold byteAt
  rw [wi64_of (show -9223372036854775808 ≤ 8 * (i : Int) by omega) (by omega)]
  rfl
theorem bits_Put_ok (b : List UInt8) (v : Int) (k : Nat) (h1 : 1 ≤ k) (h8 : k ≤ 8) (hb : b.length + k ≤ lim) : bits_Put fuel b v (k : Int) = some (b ++ be k v) := by
 unfold bits_Put bits_Put_t bits_Put_l0
 try simp only [get_ite, get_opt, get_ret, get_fail, get_altT, val_ite, val_ret]
 rw [decide_eq_false (show ¬ (k : Int) < 1 by omega), decide_eq_false (show ¬ (k : Int) > 8 by omega), wi64_of (by omega) (by omega)]
 simp only [cond_false]
 rw [put_loop v k b fuel (fuel_gt (by omega)) h8 hb]
 rfl
theorem ref1_Put_ok (b : List UInt8) (v : Int) (k : Nat) (h1 : 1 ≤ k) (h8 : k ≤ 8) (hb : b.length + k ≤ lim) : ref1_Put fuel b v (k : Int) = some (b ++ be k v) := by
 rw [← bits_Put_ok b v k h1 h8 hb]
 unfold ref1_Put ref1_Put_t bits_Put bits_Put_t
 try simp only [get_ite, get_opt, get_ret, get_fail, get_altT, val_ite, val_ret]
 rw [decide_eq_true (show b.length ≤ lim by omega)]
 rfl
theorem put1 (b : List UInt8) (v : Int) (h : b.length + 1 ≤ lim) : bits_Put fuel b v 1 = some (b ++ be 1 v) := bits_Put_ok b v 1 (by omega) (by omega) h
theorem put2 (b : List UInt8) (v : Int) (h : b.length + 2 ≤ lim) : bits_Put fuel b v 2 = some (b ++ be 2 v) := bits_Put_ok b v 2 (by omega) (by omega) h
theorem put4 (b : List UInt8) (v : Int) (h : b.length + 4 ≤ lim) : bits_Put fuel b v 4 = some (b ++ be 4 v) := bits_Put_ok b v 4 (by omega) (by omega) h
theorem rput1 (b : List UInt8) (v : Int) (h : b.length + 1 ≤ lim) : ref1_Put fuel b v 1 = some (b ++ be 1 v) := ref1_Put_ok b v 1 (by omega) (by omega) h
theorem rput2 (b : List UInt8) (v : Int) (h : b.length + 2 ≤ lim) : ref1_Put fuel b v 2 = some (b ++ be 2 v) := ref1_Put_ok b v 2 (by omega) (by omega) h
theorem rput4 (b : List UInt8) (v : Int) (h : b.length + 4 ≤ lim) : ref1_Put fuel b v 4 = some (b ++ be 4 v) := ref1_Put_ok b v 4 (by omega) (by omega) h
def txt (s : List UInt8) : List UInt8 := b8 (s.length : Int) :: s
theorem txt_len (s : List UInt8) : (txt s).length = s.length + 1 := rfl
theorem wu8_of {n : Int} (h : 0 ≤ n) (h2 : n < 256) : wu8 n = n := by unfold wu8; rw [IntKind.wrap_u8]; omega
theorem bits_Text_ok (b s : List UInt8) (hs : s.length ≤ 255) (hb : b.length + 256 ≤ lim) : bits_Text b s = some (b ++ txt s) := by
 unfold bits_Text bits_Text_t
 try simp only [get_ite, get_opt, get_ret, get_fail, get_altT, val_ite, val_ret]
 rw [decide_eq_false (show ¬ (s.length : Int) > 255 by omega), decide_eq_true (show b.length + 1 ≤ lim by omega), wu8_of (by omega) (by omega), decide_eq_true (by rw [List.length_append]; simp only [List.length_cons, List.length_nil]; omega)]
 simp only [cond_true, cond_false, List.append_assoc]
 rfl
theorem ref1_Text_ok (b s : List UInt8) (hs : s.length ≤ 255) (hb : b.length + 256 ≤ lim) : ref1_Text b s = some (b ++ txt s) := by
 unfold ref1_Text ref1_Text_t
 try simp only [get_ite, get_opt, get_ret, get_fail, get_altT, val_ite, val_ret]
 rw [decide_eq_true (show b.length ≤ lim by omega), decide_eq_false (show ¬ (s.length : Int) > 255 by omega), decide_eq_true (show b.length + 1 ≤ lim by omega), wu8_of (by omega) (by omega), decide_eq_true (by rw [List.length_append]; simp only [List.length_cons, List.length_nil]; omega)]
 simp only [cond_true, cond_false, List.append_assoc]
 rfl
def tn (m : Nat) : Nat := if m % 2 = 1 then (m / 2) ^^^ 40961 else m / 2
theorem tn_lt {m : Nat} (h : m < 65536) : tn m < 65536 := by
 unfold tn
 split
 ·exact Nat.xor_lt_two_pow (n := 16) (by omega) (by omega)
 ·omega
theorem wrap_u16 (n : Int) : IntKind.u16.wrap n = n % 65536 := by simp [IntKind.wrap, IntKind.bits, IntKind.signed]
theorem bxor_u16 {x y : Nat} (hx : x < 65536) (hy : y < 65536) : bxor .u16 (x : Int) (y : Int) = ((x ^^^ y : Nat) : Int) := by
 unfold bxor
 have h16 : IntKind.u16.bits = 16 := rfl
 rw [h16, BitVec.ofInt_natCast, BitVec.ofInt_natCast, BitVec.toNat_xor, BitVec.toNat_ofNat, BitVec.toNat_ofNat, Nat.mod_eq_of_lt (show x < 2 ^ 16 by omega), Nat.mod_eq_of_lt (show y < 2 ^ 16 by omega), wrap_u16]
 have := Nat.xor_lt_two_pow (n := 16) (show x < 2 ^ 16 by omega) (show y < 2 ^ 16 by omega)
 omega
theorem bxor_i64 {x y : Nat} (hx : x < 65536) (hy : y < 65536) : bxor .i64 (x : Int) (y : Int) = ((x ^^^ y : Nat) : Int) := by
 unfold bxor
 have h64 : IntKind.i64.bits = 64 := rfl
 rw [h64, BitVec.ofInt_natCast, BitVec.ofInt_natCast, BitVec.toNat_xor, BitVec.toNat_ofNat, BitVec.toNat_ofNat, Nat.mod_eq_of_lt (show x < 2 ^ 64 by omega), Nat.mod_eq_of_lt (show y < 2 ^ 64 by omega)]
 have := Nat.xor_lt_two_pow (n := 16) (show x < 2 ^ 16 by omega) (show y < 2 ^ 16 by omega)
 exact wi64_of (by omega) (by omega)
theorem band_u16 {x : Nat} (hx : x < 65536) : band .u16 (x : Int) 1 = ((x % 2 : Nat) : Int) := by
 unfold band
 have h16 : IntKind.u16.bits = 16 := rfl
 rw [h16, show (1 : Int) = ((1 : Nat) : Int) from rfl, BitVec.ofInt_natCast, BitVec.ofInt_natCast, BitVec.toNat_and, BitVec.toNat_ofNat, BitVec.toNat_ofNat, Nat.mod_eq_of_lt (show x < 2 ^ 16 by omega), Nat.mod_eq_of_lt (show 1 < 2 ^ 16 by omega), wrap_u16, Nat.and_one_is_mod]
 omega
theorem shr_u16 (x : Nat) : shrI .u16 (x : Int) 1 = ((x / 2 : Nat) : Int) := by
 unfold shrI
 have : min (1 : Int).toNat IntKind.u16.bits = 1 := rfl
 rw [this]
 show (x : Int).fdiv 2 = _
 rw [Int.fdiv_eq_ediv_of_nonneg _ (by omega)]
 omega
def crcByte (m : Nat) (u : UInt8) : Nat := tn (tn (tn (tn (tn (tn (tn (tn (m ^^^ u.toNat))))))))
def crcN (b : List UInt8) : Nat := b.foldl crcByte 0
theorem xor_lt {m : Nat} (h : m < 65536) (u : UInt8) : m ^^^ u.toNat < 65536 := Nat.xor_lt_two_pow (n := 16) (by omega) (by have := u.toNat_lt; omega)
theorem crcByte_lt {m : Nat} (h : m < 65536) (u : UInt8) : crcByte m u < 65536 := tn_lt (tn_lt (tn_lt (tn_lt (tn_lt (tn_lt (tn_lt (tn_lt (xor_lt h u))))))))
theorem crc_fold_lt : ∀ (b : List UInt8) {m : Nat}, m < 65536 → b.foldl crcByte m < 65536
 | [], m, h => h
 | u :: r, m, h => crc_fold_lt r (crcByte_lt h u)
theorem crcN_lt (b : List UInt8) : crcN b < 65536 := crc_fold_lt b (by omega)
theorem crc_l0 (t6 : List UInt8) (t7 t8 : Int) {m : Nat} (h : m < 65536) : crc_Sum_l0 fuel t6 t7 t8 (m : Int) 0 = some ((tn (tn (tn (tn (tn (tn (tn (tn m))))))) : Nat) : Int) := by
 have key : ∀ (i : Nat) (m : Nat), m < 65536 → i < 8 → crc_Sum_s0 t6 t7 t8 ((m : Int), (i : Int)) = some (.inl (((tn m : Nat) : Int), ((i + 1 : Nat) : Int))) := by
  intro i m hm hi
  simp only [crc_Sum_s0, crc_Sum_s0t, get_ite, get_opt, get_ret, get_fail, get_altT, val_ite, val_ret]
  rw [decide_eq_true (show (i : Int) < 8 by omega), band_u16 hm, shr_u16, wi64_succ (by omega)]
  unfold tn
  split
  ·rename_i ho
   rw [ho]
   have := bxor_u16 (x := m / 2) (y := 40961) (by omega) (by omega)
   rw [show ((40961 : Nat) : Int) = 40961 from rfl] at this
   rw [this]
   rfl
  ·rename_i ho
   have : m % 2 = 0 := by omega
   rw [this]
   rfl
 have last : ∀ m : Nat, crc_Sum_s0 t6 t7 t8 ((m : Int), ((8 : Nat) : Int)) = some (.inr (m : Int)) := fun m => rfl
 unfold crc_Sum_l0
 obtain ⟨n, hn⟩ : ∃ n, fuel = n + 9 := ⟨4294967287, by rw [fuel_eq]⟩
 rw [hn]
 have h0 := h
 have h1 := tn_lt h0
 have h2 := tn_lt h1
 have h3 := tn_lt h2
 have h4 := tn_lt h3
 have h5 := tn_lt h4
 have h6 := tn_lt h5
 have h7 := tn_lt h6
 rw [show (0 : Int) = ((0 : Nat) : Int) from rfl, iter_succ, key 0 _ h0 (by omega), some_bind, alt_inl, iter_succ, key 1 _ h1 (by omega), some_bind, alt_inl, iter_succ, key 2 _ h2 (by omega), some_bind, alt_inl, iter_succ, key 3 _ h3 (by omega), some_bind, alt_inl,
  iter_succ, key 4 _ h4 (by omega), some_bind, alt_inl, iter_succ, key 5 _ h5 (by omega), some_bind, alt_inl, iter_succ, key 6 _ h6 (by omega), some_bind, alt_inl, iter_succ, key 7 _ h7 (by omega), some_bind, alt_inl, iter_succ, last]
 rfl
theorem crc_r0 (b : List UInt8) (i : Int) {m : Nat} (h : m < 65536) : ref1_Crc_l0 fuel b i (m : Int) 0 = some ((tn (tn (tn (tn (tn (tn (tn (tn m))))))) : Nat) : Int) := by
 have key : ∀ (k : Nat) (m : Nat), m < 65536 → k < 8 → ref1_Crc_s0 b i ((m : Int), (k : Int)) = some (.inl (((tn m : Nat) : Int), ((k + 1 : Nat) : Int))) := by
  intro k m hm hi
  simp only [ref1_Crc_s0, ref1_Crc_s0t, get_ite, get_opt, get_ret, get_fail, get_altT, val_ite, val_ret]
  have e1 : (m : Int).tmod 2 = ((m % 2 : Nat) : Int) := by rw [Int.tmod_eq_emod_of_nonneg (by omega)]; omega
  have e2 : wi64 ((m : Int).tdiv 2) = ((m / 2 : Nat) : Int) := by rw [Int.tdiv_eq_ediv_of_nonneg (by omega), wi64_of (by omega) (by omega)]; omega
  rw [decide_eq_true (show (k : Int) < 8 by omega), e1, e2, wi64_succ (by omega)]
  unfold tn
  split
  ·rename_i ho
   rw [ho]
   have := bxor_i64 (x := m / 2) (y := 40961) (by omega) (by omega)
   rw [show ((40961 : Nat) : Int) = 40961 from rfl] at this
   rw [this]
   rfl
  ·rename_i ho
   have : m % 2 = 0 := by omega
   rw [this]
   rfl
 have last : ∀ m : Nat, ref1_Crc_s0 b i ((m : Int), ((8 : Nat) : Int)) = some (.inr (m : Int)) := fun m => rfl
 unfold ref1_Crc_l0
 obtain ⟨n, hn⟩ : ∃ n, fuel = n + 9 := ⟨4294967287, by rw [fuel_eq]⟩
 rw [hn]
 have h0 := h
 have h1 := tn_lt h0
 have h2 := tn_lt h1
 have h3 := tn_lt h2
 have h4 := tn_lt h3
 have h5 := tn_lt h4
 have h6 := tn_lt h5
 have h7 := tn_lt h6
 rw [show (0 : Int) = ((0 : Nat) : Int) from rfl, iter_succ, key 0 _ h0 (by omega), some_bind, alt_inl, iter_succ, key 1 _ h1 (by omega), some_bind, alt_inl, iter_succ, key 2 _ h2 (by omega), some_bind, alt_inl, iter_succ, key 3 _ h3 (by omega), some_bind, alt_inl,
  iter_succ, key 4 _ h4 (by omega), some_bind, alt_inl, iter_succ, key 5 _ h5 (by omega), some_bind, alt_inl, iter_succ, key 6 _ h6 (by omega), some_bind, alt_inl, iter_succ, key 7 _ h7 (by omega), some_bind, alt_inl, iter_succ, last]
 rfl
theorem crc_Sum_ok (b : List UInt8) (hb : b.length < 4294967296) : crc_Sum fuel b = some ((crcN b : Nat) : Int) := by
 have hl : crc_Sum_l1 fuel b (b.length : Int) 0 0 = some ((crcN b : Nat) : Int) := by
  unfold crc_Sum_l1
  have := iter_list0 (xs := b) (step := crc_Sum_s1 fuel b (b.length : Int)) (fun i (m : {m : Nat // m < 65536}) => ((m.1 : Int), (i : Int))) (fun u m => some (.inl ⟨crcByte m.1 u, crcByte_lt m.2 u⟩)) (fun m => (m.1 : Int)) (fun i m u hu => ?_) (fun m => ?_) ⟨0, by omega⟩ (fuel_gt hb)
  ·rw [show ((0 : Int), (0 : Int)) = ((((⟨0, by omega⟩ : {m : Nat // m < 65536}).1 : Nat) : Int), ((0 : Nat) : Int)) from rfl, this]
   have gen : ∀ (l : List UInt8) (m : {m : Nat // m < 65536}), runL (X := Int) (fun u m => some (.inl ⟨crcByte m.1 u, crcByte_lt m.2 u⟩)) (fun m => (m.1 : Int)) l m = some ((l.foldl crcByte m.1 : Nat) : Int) := by
    intro l
    induction l with
    | nil => intro m; rfl
    | cons u r ih => intro m; rw [runL, some_bind, alt_inl, ih]; rfl
   exact gen b _
  ·have hi := at_of hu
   simp only [crc_Sum_s1, crc_Sum_s1t, get_ite, get_opt, get_ret, get_fail, get_altT, val_ite, val_ret, lt_dec hi, inR_nat hi, Int.toNat_natCast, hu, cond_true, some_bind, wi64_succ (Nat.lt_trans hi hb)]
   have e : bxor .u16 (m.1 : Int) (wu16 (i8 u)) = ((m.1 ^^^ u.toNat : Nat) : Int) := by
    have hw : wu16 (i8 u) = ((u.toNat : Nat) : Int) := by
     unfold wu16; rw [wrap_u16]
     have h1 := i8_lo u; have h2 := i8_hi u
     show i8 u % 65536 = i8 u
     omega
    rw [hw]
    exact bxor_u16 m.2 (by have := u.toNat_lt; omega)
   rw [e, crc_l0 _ _ _ (xor_lt m.2 u)]
   rfl
  ·simp only [crc_Sum_s1, crc_Sum_s1t, get_ite, get_opt, get_ret, get_fail, get_altT, val_ite, val_ret, ge_dec, cond_false]
 unfold crc_Sum crc_Sum_t
 try simp only [get_ite, get_opt, get_ret, get_fail, get_altT, val_ite, val_ret]
 rw [hl]
 rfl
theorem ref1_Crc_ok (b : List UInt8) (hb : b.length < 4294967296) : ref1_Crc fuel b = some ((crcN b : Nat) : Int) := by
 have hl : ref1_Crc_l1 fuel b 0 0 = some ((crcN b : Nat) : Int) := by
  unfold ref1_Crc_l1
  have := iter_list0 (xs := b) (step := ref1_Crc_s1 fuel b) (fun i (m : {m : Nat // m < 65536}) => ((m.1 : Int), (i : Int))) (fun u m => some (.inl ⟨crcByte m.1 u, crcByte_lt m.2 u⟩)) (fun m => (m.1 : Int)) (fun i m u hu => ?_) (fun m => ?_) ⟨0, by omega⟩ (fuel_gt hb)
  ·rw [show ((0 : Int), (0 : Int)) = ((((⟨0, by omega⟩ : {m : Nat // m < 65536}).1 : Nat) : Int), ((0 : Nat) : Int)) from rfl, this]
   have gen : ∀ (l : List UInt8) (m : {m : Nat // m < 65536}), runL (X := Int) (fun u m => some (.inl ⟨crcByte m.1 u, crcByte_lt m.2 u⟩)) (fun m => (m.1 : Int)) l m = some ((l.foldl crcByte m.1 : Nat) : Int) := by
    intro l
    induction l with
    | nil => intro m; rfl
    | cons u r ih => intro m; rw [runL, some_bind, alt_inl, ih]; rfl
   exact gen b _
  ·have hi := at_of hu
   simp only [ref1_Crc_s1, ref1_Crc_s1t, get_ite, get_opt, get_ret, get_fail, get_altT, val_ite, val_ret, lt_dec hi, inR_nat hi, Int.toNat_natCast, hu, cond_true, some_bind, wi64_succ (Nat.lt_trans hi hb)]
   have e : bxor .i64 (m.1 : Int) (wi64 (i8 u)) = ((m.1 ^^^ u.toNat : Nat) : Int) := by
    have hw : wi64 (i8 u) = ((u.toNat : Nat) : Int) := by
     have h1 := i8_lo u; have h2 := i8_hi u
     rw [wi64_of (by omega) (by omega)]
    rw [hw]
    exact bxor_i64 m.2 (by have := u.toNat_lt; omega)
   rw [e, crc_r0 _ _ (xor_lt m.2 u)]
   rfl
  ·simp only [ref1_Crc_s1, ref1_Crc_s1t, get_ite, get_opt, get_ret, get_fail, get_altT, val_ite, val_ret, ge_dec, cond_false]
 unfold ref1_Crc ref1_Crc_t
 try simp only [get_ite, get_opt, get_ret, get_fail, get_altT, val_ite, val_ret]
 rw [hl, some_bind]
 have := crcN_lt b
 unfold wu16
 rw [wrap_u16]
 congr 1
 omega
def sealB (b : List UInt8) : List UInt8 := b ++ be 2 (crcN b : Int)
theorem msg_sealed_ok (b : List UInt8) (hb : b.length + 2 ≤ lim) : msg_sealed fuel b = some (sealB b) := by
 unfold msg_sealed msg_sealed_t
 try simp only [get_ite, get_opt, get_ret, get_fail, get_altT, val_ite, val_ret]
 have h := crcN_lt b
 rw [crc_Sum_ok b (by have : lim = 2147483648 := rfl; omega), some_bind, wi64_of (by omega) (by omega), put2 _ _ hb]
 rfl
theorem ref13_sealed_ok (b : List UInt8) (hb : b.length + 2 ≤ lim) : ref13_sealed fuel b = some (sealB b) := by
 unfold ref13_sealed ref13_sealed_t
 try simp only [get_ite, get_opt, get_ret, get_fail, get_altT, val_ite, val_ret]
 have h := crcN_lt b
 rw [ref1_Crc_ok b (by have : lim = 2147483648 := rfl; omega), some_bind, wi64_of (by omega) (by omega), rput2 _ _ hb]
 rfl
open Go
theorem lim_eq : lim = 2147483648 := rfl
theorem file_May_iff {w : TWrite} : file_May w = true ↔ 0 ≤ w.Off ∧ 1 ≤ (w.B.length : Int) ∧ (w.B.length : Int) ≤ 24 ∧ w.Off ≤ 24 - (w.B.length : Int) := by
 unfold file_May file_May_t
 try simp only [get_ite, get_opt, get_ret, get_fail, get_altT, val_ite, val_ret]
 by_cases h1 : w.Off ≥ 0 <;> by_cases h2 : (w.B.length : Int) ≥ 1 <;> by_cases h3 : (w.B.length : Int) ≤ 24 <;> simp only [h1, h2, h3, decide_true, decide_false, cond_true, cond_false, id]
 ·rw [wi64_of (by omega) (by omega)]
  simp
 all_goals (simp <;> omega)
theorem mayName_iff {s : List UInt8} : mayName s = true → 1 ≤ s.length ∧ s.length ≤ 8 := by
 intro h
 simp [mayName] at h
 omega
theorem mayAsk_of {a : TAsk} (h : mayAsk a = true) : (1 ≤ a.Kind ∧ a.Kind ≤ 5) ∧ (1 ≤ a.From ∧ a.From ≤ 3) ∧ (0 ≤ a.Epoch ∧ a.Epoch ≤ 1073741824) ∧ (1 ≤ a.Seq ∧ a.Seq ≤ 1073741824) ∧ a.Name.length ≤ 8 ∧ (0 ≤ a.File ∧ a.File ≤ 6) ∧ (0 ≤ a.Mode ∧ a.Mode ≤ 2) ∧ a.Writes.length ≤ 5 ∧ ∀ w ∈ a.Writes, file_May w = true := by
 unfold mayAsk at h
 simp only [Bool.and_eq_true] at h
 obtain ⟨h1, h2, h3, h4, h5, h6⟩ := h
 rw [rng_iff] at h1 h2 h3 h4
 refine ⟨h1, h2, h3, h4, ?_⟩
 have h6 := (sameAsk_iff _ _).1 h6
 unfold want at h6
 unfold wantOk at h5
 cases k1 : a.Kind == 1 with
 | true =>
  rw [k1] at h6 h5
  simp only [cond_true] at h6 h5
  have := mayName_iff h5
  rw [h6]
  simp
  omega
 | false =>
  rw [k1] at h6 h5
  simp only [cond_false] at h6 h5
  cases k2 : a.Kind == 2 with
  | true =>
   rw [k2] at h6 h5
   simp only [cond_true, Bool.and_eq_true, rng_iff] at h6 h5
   rw [h6]
   simp
   omega
  | false =>
   rw [k2] at h6 h5
   simp only [cond_false] at h6 h5
   cases k3 : wantW a with
   | true =>
    rw [k3] at h6 h5
    simp only [cond_true, Bool.and_eq_true, rng_iff, decide_eq_true_eq] at h6 h5
    obtain ⟨g1, g2, g3, g4⟩ := h5
    have e1 : a.Name = [] := by rw [h6]
    have e2 : a.Mode = 0 := by rw [h6]
    refine ⟨by rw [e1]; simp, by omega, by omega, by omega, fun w hw => ?_⟩
    rw [List.all_eq_true] at g4
    exact g4 w hw
   | false =>
    rw [k3] at h6 h5
    simp only [cond_false, rng_iff] at h6 h5
    have e1 : a.Name = [] := by rw [h6]
    have e2 : a.Mode = 0 := by rw [h6]
    have e3 : a.Writes = [] := by rw [h6]
    refine ⟨by rw [e1]; simp, by omega, by omega, by rw [e3]; simp, fun w hw => ?_⟩
    rw [e3] at hw; cases hw
def bodyTell (t : TTell) : List UInt8 := be 1 t.Kind ++ (be 1 t.To ++ (be 4 t.Epoch ++ (be 4 t.Seq ++ (be 1 t.Err ++ (be 1 t.File ++ (be 1 t.Mode ++ (be 4 t.Ver ++ txt t.Body)))))))
def putTell (t : TTell) : List UInt8 := bif msg_MayTell t then sealB (bodyTell t) else []
theorem bodyTell_len (t : TTell) : (bodyTell t).length = 18 + t.Body.length := by
 unfold bodyTell
 simp only [List.length_append, be_len, txt_len]
 omega
theorem mayTell_of {t : TTell} (h : msg_MayTell t = true) : (1 ≤ t.Kind ∧ t.Kind ≤ 3) ∧ (1 ≤ t.To ∧ t.To ≤ 3) ∧ (0 ≤ t.Epoch ∧ t.Epoch ≤ 1073741824) ∧ (0 ≤ t.Seq ∧ t.Seq ≤ 1073741824) ∧ (0 ≤ t.Err ∧ t.Err ≤ 7) ∧ (0 ≤ t.File ∧ t.File ≤ 6) ∧ (0 ≤ t.Mode ∧ t.Mode ≤ 2) ∧ (0 ≤ t.Ver ∧ t.Ver ≤ 1073741824) ∧ t.Body.length ≤ 24 := by
 unfold msg_MayTell msg_MayTell_t at h
 try simp only [get_ite, get_opt, get_ret, get_fail, get_altT, val_ite, val_ret] at h
 simp only [msg_from_eq, id] at h
 cases h1 : rng 1 3 t.Kind with
 | false => rw [h1] at h; cases h
 | true =>
  cases h2 : rng 1 3 t.To with
  | false => rw [h1, h2] at h; cases h
  | true =>
   cases h3 : rng 0 1073741824 t.Epoch with
   | false => rw [h1, h2, h3] at h; cases h
   | true =>
    rw [h1, h2, h3] at h
    rw [rng_iff] at h1 h2 h3
    refine ⟨h1, h2, h3, ?_⟩
    simp only [Bool.not_true, cond_false] at h
    cases k2 : t.Kind == 2 with
    | true =>
     rw [k2] at h
     cases he : TTell.eqb t (TTell.mk t.Kind t.To t.Epoch 0 0 t.File 0 0 []) with
     | false => rw [he] at h; cases h
     | true =>
      rw [he] at h
      have e := (tell_eqb _ _).1 he
      have hf := rng_iff.1 h
      rw [e]
      simp
      omega
    | false =>
     rw [k2] at h
     cases k3 : t.Kind == 3 with
     | true =>
      rw [k3] at h
      have e := (tell_eqb _ _).1 h
      rw [e]
      simp
     | false =>
      rw [k3] at h
      simp only [cond_false] at h
      cases g1 : rng 1 1073741824 t.Seq with
      | false => rw [g1] at h; cases h
      | true =>
       by_cases g2 : t.Err ≥ 0
       ·by_cases g3 : t.Err ≤ 7
        ·cases g4 : rng 0 6 t.File with
         | false => rw [g1, decide_eq_true g2, decide_eq_true g3, g4] at h; cases h
         | true =>
          cases g5 : rng 0 2 t.Mode with
          | false => rw [g1, decide_eq_true g2, decide_eq_true g3, g4, g5] at h; cases h
          | true =>
           cases g6 : rng 0 1073741824 t.Ver with
           | false => rw [g1, decide_eq_true g2, decide_eq_true g3, g4, g5, g6] at h; cases h
           | true =>
            rw [g1, decide_eq_true g2, decide_eq_true g3, g4, g5, g6] at h
            simp only [cond_true, decide_eq_true_eq] at h
            rw [rng_iff] at g1 g4 g5 g6
            exact ⟨by omega, by omega, by omega, by omega, by omega, by omega⟩
        ·rw [g1, decide_eq_true g2, decide_eq_false g3] at h; cases h
       ·rw [g1, decide_eq_false g2] at h; cases h
theorem msg_PutTell_ok (t : TTell) : msg_PutTell fuel t = some (putTell t) := by
 unfold msg_PutTell msg_PutTell_t putTell
 try simp only [get_ite, get_opt, get_ret, get_fail, get_altT, val_ite, val_ret]
 cases h : msg_MayTell t with
 | false => rfl
 | true =>
  obtain ⟨_, _, _, _, _, _, _, _, h9⟩ := mayTell_of h
  simp only [Bool.not_true, cond_false, cond_true]
  rw [put1 _ _ (by rw [lim_eq]; simp), some_bind, put1 _ _ (by rw [lim_eq]; simp only [List.length_append, List.length_nil, be_len]; omega), some_bind, put4 _ _ (by rw [lim_eq]; simp only [List.length_append, List.length_nil, be_len]; omega), some_bind, put4 _ _ (by rw [lim_eq]; simp only [List.length_append, List.length_nil, be_len]; omega), some_bind,
   put1 _ _ (by rw [lim_eq]; simp only [List.length_append, List.length_nil, be_len]; omega), some_bind, put1 _ _ (by rw [lim_eq]; simp only [List.length_append, List.length_nil, be_len]; omega), some_bind, put1 _ _ (by rw [lim_eq]; simp only [List.length_append, List.length_nil, be_len]; omega), some_bind, put4 _ _ (by rw [lim_eq]; simp only [List.length_append, List.length_nil, be_len]; omega), some_bind,
   bits_Text_ok _ _ (by omega) (by rw [lim_eq]; simp only [List.length_append, List.length_nil, be_len]; omega), some_bind]
  have e : (((((((([] ++ be 1 t.Kind) ++ be 1 t.To) ++ be 4 t.Epoch) ++ be 4 t.Seq) ++ be 1 t.Err) ++ be 1 t.File) ++ be 1 t.Mode) ++ be 4 t.Ver) ++ txt t.Body = bodyTell t := by
   simp only [bodyTell, List.nil_append, List.append_assoc]
  rw [e, msg_sealed_ok _ (by have := bodyTell_len t; rw [lim_eq]; omega), some_bind]
theorem ref13_PutTell_ok (t : TTell) : ref13_PutTell fuel t = some (putTell t) := by
 unfold ref13_PutTell ref13_PutTell_t putTell
 try simp only [get_ite, get_opt, get_ret, get_fail, get_altT, val_ite, val_ret]
 rw [← MayTell_eq]
 cases h : msg_MayTell t with
 | false => rfl
 | true =>
  obtain ⟨_, _, _, _, _, _, _, _, h9⟩ := mayTell_of h
  simp only [Bool.not_true, cond_false, cond_true]
  rw [rput1 _ _ (by rw [lim_eq]; simp), some_bind, rput1 _ _ (by rw [lim_eq]; simp only [List.length_append, List.length_nil, be_len]; omega), some_bind, rput4 _ _ (by rw [lim_eq]; simp only [List.length_append, List.length_nil, be_len]; omega), some_bind, rput4 _ _ (by rw [lim_eq]; simp only [List.length_append, List.length_nil, be_len]; omega), some_bind,
   rput1 _ _ (by rw [lim_eq]; simp only [List.length_append, List.length_nil, be_len]; omega), some_bind, rput1 _ _ (by rw [lim_eq]; simp only [List.length_append, List.length_nil, be_len]; omega), some_bind, rput1 _ _ (by rw [lim_eq]; simp only [List.length_append, List.length_nil, be_len]; omega), some_bind, rput4 _ _ (by rw [lim_eq]; simp only [List.length_append, List.length_nil, be_len]; omega), some_bind,
   ref1_Text_ok _ _ (by omega) (by rw [lim_eq]; simp only [List.length_append, List.length_nil, be_len]; omega), some_bind]
  have e : (((((((([] ++ be 1 t.Kind) ++ be 1 t.To) ++ be 4 t.Epoch) ++ be 4 t.Seq) ++ be 1 t.Err) ++ be 1 t.File) ++ be 1 t.Mode) ++ be 4 t.Ver) ++ txt t.Body = bodyTell t := by
   simp only [bodyTell, List.nil_append, List.append_assoc]
  rw [e, ref13_sealed_ok _ (by have := bodyTell_len t; rw [lim_eq]; omega), some_bind]
open Go
def val (l : List UInt8) : Int := l.foldl (fun v x => v * 256 + i8 x) 0
def num (k : Nat) (b : List UInt8) : Option (Int × List UInt8) := if b.length < k then none else some (val (b.take k), b.drop k)
theorem bor_add {v x : Nat} (hv : v < 36028797018963968) (hx : x < 256) : bor .i64 (shlI .i64 (v : Int) 8) (x : Int) = (v : Int) * 256 + (x : Int) := by
 have h1 : shlI .i64 (v : Int) 8 = ((v <<< 8 : Nat) : Int) := by
  unfold shlI
  have : min (8 : Int).toNat IntKind.i64.bits = 8 := rfl
  rw [this, Nat.shiftLeft_eq]
  show wi64 ((v : Int) * 2 ^ 8) = _
  rw [wi64_of (by omega) (by omega)]
  omega
 rw [h1]
 unfold bor
 have h64 : IntKind.i64.bits = 64 := rfl
 have hs : v <<< 8 < 2 ^ 64 := by rw [Nat.shiftLeft_eq]; omega
 rw [h64, BitVec.ofInt_natCast, BitVec.ofInt_natCast, BitVec.toNat_or, BitVec.toNat_ofNat, BitVec.toNat_ofNat, Nat.mod_eq_of_lt hs, Nat.mod_eq_of_lt (show x < 2 ^ 64 by omega), ← Nat.shiftLeft_add_eq_or_of_lt (show x < 2 ^ 8 by omega), Nat.shiftLeft_eq]
 show wi64 _ = _
 rw [wi64_of (by omega) (by omega)]
 omega
theorem val_step (v : Int) (x : UInt8) (h0 : 0 ≤ v) (h1 : v < 36028797018963968) : bor .i64 (shlI .i64 v 8) (wi64 (i8 x)) = v * 256 + i8 x := by
 have e := bor_add (v := v.toNat) (x := x.toNat) (by omega) x.toNat_lt
 have hx0 := i8_lo x
 have hx1 := i8_hi x
 rw [wi64_of (by omega) (by omega)]
 have e1 : ((v.toNat : Nat) : Int) = v := by omega
 rw [e1] at e
 exact e
theorem fold_bound : ∀ (l : List UInt8) (v : Int), 0 ≤ v → 0 ≤ l.foldl (fun v x => v * 256 + i8 x) v ∧ l.foldl (fun v x => v * 256 + i8 x) v < (v + 1) * 256 ^ l.length
 | [], v, h => by simp; omega
 | x :: r, v, h => by
  have h1 := i8_lo x
  have h2 := i8_hi x
  obtain ⟨g1, g2⟩ := fold_bound r (v * 256 + i8 x) (by omega)
  refine ⟨g1, ?_⟩
  have h3 : (v * 256 + i8 x + 1) ≤ (v + 1) * 256 := by omega
  have h4 : (0 : Int) ≤ 256 ^ r.length := by have : (0 : Int) < 256 ^ r.length := Int.pow_pos (by omega); omega
  have h5 := Int.mul_le_mul_of_nonneg_right h3 h4
  have h6 : (v + 1) * 256 ^ (x :: r).length = (v + 1) * 256 * 256 ^ r.length := by rw [List.length_cons, Int.pow_succ, Int.mul_assoc, Int.mul_comm (256 ^ r.length) 256]
  rw [h6]
  exact Int.lt_of_lt_of_le g2 h5
theorem val_lo (l : List UInt8) : 0 ≤ val l := (fold_bound l 0 (Int.le_refl _)).1
theorem val_hi (l : List UInt8) : val l < 256 ^ l.length := by have := (fold_bound l 0 (Int.le_refl _)).2; rw [Int.zero_add, Int.one_mul] at this; exact this
theorem pow_le7 {k : Nat} (h : k ≤ 6) : (256 : Int) ^ k ≤ 281474976710656 := by
 have : k = 0 ∨ k = 1 ∨ k = 2 ∨ k = 3 ∨ k = 4 ∨ k = 5 ∨ k = 6 := by omega
 rcases this with rfl | rfl | rfl | rfl | rfl | rfl | rfl <;> decide
theorem take_loop (l : List UInt8) (ok : Bool) (h7 : l.length ≤ 7) : bits_Take_l0 fuel l (l.length : Int) ok 0 0 = some (val l) := by
 have key : ∀ (r p : List UInt8) (n : Nat), l = p ++ r → r.length < n → iter (bits_Take_s0 l (l.length : Int) ok) n (val p, (p.length : Int)) = some (val l) := by
  intro r
  induction r with
  | nil =>
   intro p n hp hn
   rw [List.append_nil] at hp
   subst hp
   cases n with
   | zero => exact absurd hn (Nat.not_lt_zero _)
   | succ n =>
    rw [iter_succ]
    simp only [bits_Take_s0, bits_Take_s0t, get_ite, get_opt, get_ret, get_fail, get_altT, val_ite, val_ret, ge_dec, cond_false, some_bind, alt_inr]
  | cons x r ih =>
   intro p n hp hn
   have hlt : p.length < l.length := by rw [hp]; simp
   have hx : l[p.length]? = some x := by rw [hp]; simp
   cases n with
   | zero => exact absurd hn (Nat.not_lt_zero _)
   | succ n =>
    rw [iter_succ]
    simp only [bits_Take_s0, bits_Take_s0t, get_ite, get_opt, get_ret, get_fail, get_altT, val_ite, val_ret, lt_dec hlt, inR_nat hlt, Int.toNat_natCast, hx, cond_true, some_bind, alt_inl]
    have hb := val_hi p
    have hp6 := pow_le7 (k := p.length) (by omega)
    rw [val_step _ _ (val_lo p) (by omega), wi64_succ (by omega)]
    have e : val p * 256 + i8 x = val (p ++ [x]) := by unfold val; rw [List.foldl_append]; rfl
    have e2 : ((p.length + 1 : Nat) : Int) = ((p ++ [x]).length : Int) := by simp
    rw [e, e2]
    exact ih (p ++ [x]) n (by rw [hp]; simp) (by simp at hn; omega)
 exact key l [] fuel rfl (fuel_gt (by omega))
theorem rtake_loop (b : List UInt8) (k : Nat) (h7 : k ≤ 7) (hk : k ≤ b.length) : ref1_Take_l0 fuel b (k : Int) 0 0 = some (val (b.take k)) := by
 have key : ∀ (r p : List UInt8) (n : Nat), b.take k = p ++ r → r.length < n → iter (ref1_Take_s0 b (k : Int)) n (val p, (p.length : Int)) = some (val (b.take k)) := by
  have hlen : (b.take k).length = k := by rw [List.length_take]; omega
  intro r
  induction r with
  | nil =>
   intro p n hp hn
   rw [List.append_nil] at hp
   have hpk : p.length = k := by rw [← hp]; exact hlen
   cases n with
   | zero => exact absurd hn (Nat.not_lt_zero _)
   | succ n =>
    rw [iter_succ]
    simp only [ref1_Take_s0, ref1_Take_s0t, get_ite, get_opt, get_ret, get_fail, get_altT, val_ite, val_ret, hpk, ge_dec, cond_false, some_bind, alt_inr, hp]
  | cons x r ih =>
   intro p n hp hn
   have hlt : p.length < k := by rw [← hlen, hp]; simp
   have hx : b[p.length]? = some x := by
    have : (b.take k)[p.length]? = some x := by rw [hp]; simp
    rw [List.getElem?_take, if_pos hlt] at this
    exact this
   cases n with
   | zero => exact absurd hn (Nat.not_lt_zero _)
   | succ n =>
    rw [iter_succ]
    simp only [ref1_Take_s0, ref1_Take_s0t, get_ite, get_opt, get_ret, get_fail, get_altT, val_ite, val_ret, lt_dec hlt, inR_nat (at_of hx), Int.toNat_natCast, hx, cond_true, some_bind, alt_inl]
    have hb := val_hi p
    have hb0 := val_lo p
    have hp6 := pow_le7 (k := p.length) (by omega)
    have hx0 := i8_lo x
    have hx1 := i8_hi x
    rw [wi64_of (show -9223372036854775808 ≤ val p * 256 by omega) (by omega), wi64_of (show -9223372036854775808 ≤ i8 x by omega) (by omega), wi64_of (show -9223372036854775808 ≤ val p * 256 + i8 x by omega) (by omega), wi64_succ (by omega)]
    have e : val p * 256 + i8 x = val (p ++ [x]) := by unfold val; rw [List.foldl_append]; rfl
    have e2 : ((p.length + 1 : Nat) : Int) = ((p ++ [x]).length : Int) := by simp
    rw [e, e2]
    exact ih (p ++ [x]) n (by rw [hp]; simp) (by simp at hn; omega)
 exact key (b.take k) [] fuel rfl (fuel_gt (by rw [List.length_take]; omega))
theorem cutOk_of {lo hi : Int} {n : Nat} (h1 : 0 ≤ lo) (h2 : lo ≤ hi) (h3 : hi ≤ n) : cutOk lo hi n = true := by
 unfold cutOk; simp [h1, h2, h3]
theorem cut_front {α : Type} (b : List α) (k : Nat) : cutL b 0 (k : Int) = b.take k := by
 unfold cutL; simp
theorem cut_back {α : Type} (b : List α) (k : Nat) : cutL b (k : Int) (b.length : Int) = b.drop k := by
 unfold cutL; simp
theorem bits_front_ok (b : List UInt8) (k : Nat) : bits_front b (k : Int) = some (if b.length < k then .inr () else .inl (b.take k)) := by
 unfold bits_front bits_front_t
 try simp only [get_ite, get_opt, get_ret, get_fail, get_altT, val_ite, val_ret]
 by_cases h : b.length < k
 ·rw [decide_eq_true (show (b.length : Int) < k by omega), if_pos h]; rfl
 ·rw [decide_eq_false (show ¬ (b.length : Int) < k by omega), if_neg h, cutOk_of (by omega) (by omega) (by omega), cut_front]; rfl
theorem bits_Take_ok (b : List UInt8) (k : Nat) (h1 : 1 ≤ k) (h7 : k ≤ 7) : bits_Take fuel b (k : Int) = some (match num k b with | some (v, _) => (v, true) | none => (0, false)) := by
 unfold bits_Take bits_Take_t
 try simp only [get_ite, get_opt, get_ret, get_fail, get_altT, val_ite, val_ret]
 rw [decide_eq_false (show ¬ (k : Int) < 1 by omega), decide_eq_false (show ¬ (k : Int) > 7 by omega), bits_front_ok]
 unfold num
 by_cases h : b.length < k
 ·rw [if_pos h, if_pos h]; rfl
 ·have hl : (b.take k).length = k := by rw [List.length_take]; omega
  rw [if_neg h, if_neg h]
  simp only [cond_false, some_bind, alt_inl]
  rw [take_loop _ _ (by omega)]
  rfl
theorem ref1_Take_ok (b : List UInt8) (k : Nat) (h1 : 1 ≤ k) (h7 : k ≤ 7) : ref1_Take fuel b (k : Int) = some (match num k b with | some (v, _) => (v, true) | none => (0, false)) := by
 unfold ref1_Take ref1_Take_t
 try simp only [get_ite, get_opt, get_ret, get_fail, get_altT, val_ite, val_ret]
 rw [decide_eq_false (show ¬ (k : Int) < 1 by omega), decide_eq_false (show ¬ (k : Int) > 7 by omega)]
 unfold num
 by_cases h : b.length < k
 ·rw [if_pos h, decide_eq_true (show (b.length : Int) < k by omega)]; rfl
 ·rw [if_neg h, decide_eq_false (show ¬ (b.length : Int) < k by omega)]
  simp only [cond_false]
  rw [rtake_loop _ _ h7 (by omega)]
  rfl
theorem reader_num_ok (b : List UInt8) (k : Nat) (h1 : 1 ≤ k) (h7 : k ≤ 7) : msg_reader_num fuel (k : Int) ⟨b⟩ = some (match num k b with | some (v, r) => .inl (v, ⟨r⟩) | none => .inr ()) := by
 unfold msg_reader_num msg_reader_num_t
 try simp only [get_ite, get_opt, get_ret, get_fail, get_altT, val_ite, val_ret]
 rw [bits_Take_ok b k h1 h7]
 unfold num
 by_cases h : b.length < k
 ·rw [if_pos h]; rfl
 ·rw [if_neg h]
  simp only [some_bind, Bool.not_true, cond_false]
  rw [cutOk_of (by omega) (by omega) (by omega), cut_back]
  rfl
def rnum (k : Nat) (r : Ttenancyref13_Reader) : Int × Ttenancyref13_Reader := if r.Bad then (0, ⟨r.B, true⟩) else match num k r.B with | some (v, s) => (v, ⟨s, false⟩) | none => (0, ⟨r.B, true⟩)
theorem ref13_num_ok (r : Ttenancyref13_Reader) (k : Nat) (h1 : 1 ≤ k) (h7 : k ≤ 7) : ref13_Reader_Num fuel (k : Int) r = some (rnum k r) := by
 obtain ⟨b, bad⟩ := r
 unfold ref13_Reader_Num ref13_Reader_Num_t rnum
 try simp only [get_ite, get_opt, get_ret, get_fail, get_altT, val_ite, val_ret]
 rw [ref1_Take_ok _ k h1 h7]
 unfold num
 by_cases h : b.length < k
 ·rw [if_pos h]; cases bad <;> rfl
 ·rw [if_neg h]
  cases bad with
  | true => rfl
  | false =>
   simp only [some_bind, Bool.not_true, cond_false]
   rw [cutOk_of (by omega) (by omega) (by omega), cut_back]
   rfl
def text : List UInt8 → Option (List UInt8 × List UInt8)
 | [] => none
 | x :: r => if r.length < x.toNat then none else some (r.take x.toNat, r.drop x.toNat)
theorem text_cons (x : UInt8) (r : List UInt8) : text (x :: r) = if r.length < x.toNat then none else some (r.take x.toNat, r.drop x.toNat) := rfl
theorem take_text_ok (b : List UInt8) (hb : b.length ≤ lim) : bits_TakeText b = some (match text b with | some (s, _) => (s, (s.length : Int) + 1, true) | none => ([], 0, false)) := by
 unfold bits_TakeText bits_TakeText_t
 try simp only [get_ite, get_opt, get_ret, get_fail, get_altT, val_ite, val_ret]
 have h1 := bits_front_ok b 1
 rw [show ((1 : Nat) : Int) = 1 from rfl] at h1
 rw [h1]
 cases b with
 | nil => rfl
 | cons x r =>
  have hx0 := i8_lo x
  have hx1 := i8_hi x
  rw [if_neg (by simp)]
  simp only [some_bind, alt_inl]
  have h2 : inR 0 ((x :: r).take 1).length = true := inR_of (by omega) (by simp)
  have h3 : ((x :: r).take 1)[0]? = some x := rfl
  rw [h2, h3]
  simp only [cond_true, some_bind]
  rw [wi64_of (show -9223372036854775808 ≤ i8 x by omega) (by omega), wi64_of (show -9223372036854775808 ≤ i8 x + 1 by omega) (by omega)]
  rw [text_cons]
  by_cases h : r.length < x.toNat
  ·rw [if_pos h, decide_eq_true (by rw [List.length_cons]; show ((r.length + 1 : Nat) : Int) < ((x.toNat : Nat) : Int) + 1; omega)]; rfl
  ·have e : cutL (x :: r) 1 (i8 x + 1) = r.take x.toNat := by
    unfold cutL
    have : (i8 x + 1).toNat = x.toNat + 1 := by unfold i8; omega
    rw [this]
    simp
   rw [if_neg h, decide_eq_false (by rw [List.length_cons]; show ¬ ((r.length + 1 : Nat) : Int) < ((x.toNat : Nat) : Int) + 1; omega), cutOk_of (by omega) (by omega) (by rw [List.length_cons]; show ((x.toNat : Nat) : Int) + 1 ≤ ((r.length + 1 : Nat) : Int); omega), e]
   have e2 : ((r.take x.toNat).length : Int) = i8 x := by rw [List.length_take]; unfold i8; omega
   simp only [cond_false, cond_true, e2]
theorem rtake_text_ok (b : List UInt8) (hb : b.length ≤ lim) : ref1_TakeText b = some (match text b with | some (s, _) => (s, (s.length : Int) + 1, true) | none => ([], 0, false)) := by
 unfold ref1_TakeText ref1_TakeText_t
 try simp only [get_ite, get_opt, get_ret, get_fail, get_altT, val_ite, val_ret]
 rw [lim_eq] at hb
 cases b with
 | nil => rfl
 | cons x r =>
  have hx0 := i8_lo x
  have hx1 := i8_hi x
  rw [List.length_cons] at hb
  rw [decide_eq_false (show ¬ (((x :: r).length : Nat) : Int) < 1 by rw [List.length_cons]; omega), inR_of (by omega) (by rw [List.length_cons]; omega)]
  have h3 : (x :: r)[0]? = some x := rfl
  rw [h3]
  simp only [cond_true, cond_false, some_bind]
  rw [wi64_of (show -9223372036854775808 ≤ i8 x by omega) (by omega), wi64_of (show -9223372036854775808 ≤ i8 x + 1 by omega) (by omega), wi64_of (show -9223372036854775808 ≤ (((x :: r).length : Nat) : Int) - 1 by rw [List.length_cons]; omega) (by rw [List.length_cons]; omega)]
  rw [text_cons]
  by_cases h : r.length < x.toNat
  ·rw [if_pos h, decide_eq_true (by rw [List.length_cons]; show ((r.length + 1 : Nat) : Int) - 1 < ((x.toNat : Nat) : Int); omega)]; rfl
  ·have e : cutL (x :: r) 1 (i8 x + 1) = r.take x.toNat := by
    unfold cutL
    have : (i8 x + 1).toNat = x.toNat + 1 := by unfold i8; omega
    rw [this]
    simp
   rw [if_neg h, decide_eq_false (by rw [List.length_cons]; show ¬ ((r.length + 1 : Nat) : Int) - 1 < ((x.toNat : Nat) : Int); omega), cutOk_of (by omega) (by omega) (by rw [List.length_cons]; show ((x.toNat : Nat) : Int) + 1 ≤ ((r.length + 1 : Nat) : Int); omega), e]
   have e2 : ((r.take x.toNat).length : Int) = i8 x := by rw [List.length_take]; unfold i8; omega
   simp only [cond_false, cond_true, e2]
theorem text_parts {b s r : List UInt8} (h : text b = some (s, r)) : s.length ≤ 255 ∧ s.length + 1 ≤ b.length ∧ r = b.drop (s.length + 1) := by
 cases b with
 | nil => cases h
 | cons x t =>
  rw [text_cons] at h
  have hx := x.toNat_lt
  by_cases hl : t.length < x.toNat
  ·rw [if_pos hl] at h; cases h
  ·rw [if_neg hl] at h
   cases h
   have e : (t.take x.toNat).length = x.toNat := by rw [List.length_take]; omega
   refine ⟨by omega, by rw [List.length_cons]; omega, by rw [e]; rfl⟩
theorem reader_text_ok (b : List UInt8) (hb : b.length ≤ lim) : msg_reader_text ⟨b⟩ = some (match text b with | some (s, r) => .inl (s, ⟨r⟩) | none => .inr ()) := by
 unfold msg_reader_text msg_reader_text_t
 try simp only [get_ite, get_opt, get_ret, get_fail, get_altT, val_ite, val_ret]
 rw [take_text_ok b hb]
 cases h : text b with
 | none => rfl
 | some p =>
  obtain ⟨s, r⟩ := p
  obtain ⟨h1, h2, h3⟩ := text_parts h
  simp only [some_bind, Bool.not_true, cond_false]
  rw [cutOk_of (by omega) (by omega) (by omega)]
  have := cut_back b (s.length + 1)
  rw [show ((s.length + 1 : Nat) : Int) = (s.length : Int) + 1 by omega] at this
  rw [this, h3]
  rfl
def rtext (r : Ttenancyref13_Reader) : List UInt8 × Ttenancyref13_Reader := if r.Bad then ([], ⟨r.B, true⟩) else match text r.B with | some (v, s) => (v, ⟨s, false⟩) | none => ([], ⟨r.B, true⟩)
theorem ref13_text_ok (r : Ttenancyref13_Reader) (hb : r.B.length ≤ lim) : ref13_Reader_Text r = some (rtext r) := by
 obtain ⟨b, bad⟩ := r
 unfold ref13_Reader_Text ref13_Reader_Text_t rtext
 try simp only [get_ite, get_opt, get_ret, get_fail, get_altT, val_ite, val_ret]
 rw [rtake_text_ok b hb]
 cases h : text b with
 | none => cases bad <;> rfl
 | some p =>
  obtain ⟨s, r⟩ := p
  obtain ⟨h1, h2, h3⟩ := text_parts h
  cases bad with
  | true => rfl
  | false =>
   simp only [some_bind, Bool.not_true, cond_false]
   rw [cutOk_of (by omega) (by omega) (by omega)]
   have := cut_back b (s.length + 1)
   rw [show ((s.length + 1 : Nat) : Int) = (s.length : Int) + 1 by omega] at this
   rw [this, h3]
   rfl
open Go
theorem num_parts {k : Nat} {b : List UInt8} {v : Int} {r : List UInt8} (h : num k b = some (v, r)) : r.length + k = b.length ∧ 0 ≤ v ∧ v < 256 ^ k ∧ v = val (b.take k) ∧ r = b.drop k := by
 unfold num at h
 by_cases hl : b.length < k
 ·rw [if_pos hl] at h; cases h
 ·rw [if_neg hl] at h
  cases h
  have e : (b.take k).length = k := by rw [List.length_take]; omega
  have := val_hi (b.take k)
  rw [e] at this
  exact ⟨by rw [List.length_drop]; omega, val_lo _, this, rfl, rfl⟩
theorem rd1 (b : List UInt8) : msg_reader_num fuel 1 ⟨b⟩ = some (match num 1 b with | some (v, r) => .inl (v, ⟨r⟩) | none => .inr ()) := reader_num_ok b 1 (by omega) (by omega)
theorem rd4 (b : List UInt8) : msg_reader_num fuel 4 ⟨b⟩ = some (match num 4 b with | some (v, r) => .inl (v, ⟨r⟩) | none => .inr ()) := reader_num_ok b 4 (by omega) (by omega)
def rOut {α : Type} (o : Option (α × List UInt8)) (s : (α × Tmsg_reader) ⊕ Tmsg_reader) : Prop :=
 match o with
 | some (a, r) => s = .inl (a, ⟨r⟩)
 | none => ∃ q, s = .inr q
theorem equal_bytes (a b : List UInt8) (h : a.length < 4294967296) : slices_Equal_byte fuel a b = some (a == b) := by
 have zipeq : ∀ a b : List UInt8, a.length = b.length → ((a.zip b).all fun p => !(i8 p.1 != i8 p.2)) = (a == b) := by
  intro a
  induction a with
  | nil => intro b hb; cases b with | nil => rfl | cons => simp at hb
  | cons x r ih =>
   intro b hb
   cases b with
   | nil => simp at hb
   | cons y s =>
    have e := ih s (by simpa using hb)
    simp only [List.zip_cons_cons, List.all_cons, e, List.cons_beq_cons]
    congr 1
    by_cases hxy : x = y
    ·subst hxy; simp
    ·have : i8 x ≠ i8 y := fun h => hxy (i8_inj h)
     rw [show (i8 x != i8 y) = true from by rw [bne_iff_ne]; exact this]
     rw [show (x == y) = false from by rw [beq_eq_false_iff_ne]; exact hxy]
     rfl
 unfold slices_Equal_byte slices_Equal_byte_t
 try simp only [get_ite, get_opt, get_ret, get_fail, get_altT, val_ite, val_ret]
 by_cases hl : a.length = b.length
 ·have hz : (a.zip b).length = a.length := by rw [List.length_zip]; omega
  have hl0 : slices_Equal_byte_l0 fuel a b (a.length : Int) 0 = some (bif (a.zip b).all (fun p => !(i8 p.1 != i8 p.2)) then .inr () else .inl ()) := by
   unfold slices_Equal_byte_l0
   rw [← runL_all (fun p : UInt8 × UInt8 => !(i8 p.1 != i8 p.2)) (Sum.inl ()) (Sum.inr ()) (a.zip b)]
   refine iter_list0 (xs := a.zip b) (fun i (_ : Unit) => (i : Int)) _ _ (fun i _ p hp => ?_) (fun _ => ?_) () (fuel_gt (by omega))
   ·have hi := at_of hp
    obtain ⟨h1, h2⟩ := zip_at hp
    rw [hz] at hi
    simp only [slices_Equal_byte_s0, slices_Equal_byte_s0t, get_ite, get_opt, get_ret, get_fail, get_altT, val_ite, val_ret, lt_dec hi, inR_nat hi, inR_nat (at_of h2), Int.toNat_natCast, h1, h2, cond_true, some_bind, wi64_succ (Nat.lt_trans hi h)]
    cases (i8 p.1 != i8 p.2) <;> rfl
   ·simp only [slices_Equal_byte_s0, slices_Equal_byte_s0t, get_ite, get_opt, get_ret, get_fail, get_altT, val_ite, val_ret, hz, ge_dec, cond_false]
  have : ((a.length : Int) != (b.length : Int)) = false := by simp [hl]
  rw [this, hl0, ← zipeq a b hl]
  cases (a.zip b).all (fun p => !(i8 p.1 != i8 p.2)) <;> rfl
 ·have : ((a.length : Int) != (b.length : Int)) = true := by simp; omega
  have h2 : (a == b) = false := by
   cases he : a == b with
   | false => rfl
   | true => exact absurd (by rw [eq_of_beq he]) hl
  rw [this, h2]
  rfl
theorem sealB_len (b : List UInt8) : (sealB b).length = b.length + 2 := by unfold sealB; rw [List.length_append, be_len]
open Go
theorem rr1 (r : Ttenancyref13_Reader) : ref13_Reader_Num fuel 1 r = some (rnum 1 r) := ref13_num_ok r 1 (by omega) (by omega)
theorem rr4 (r : Ttenancyref13_Reader) : ref13_Reader_Num fuel 4 r = some (rnum 4 r) := ref13_num_ok r 4 (by omega) (by omega)
theorem rnum_some {k : Nat} {b r : List UInt8} {v : Int} (h : num k b = some (v, r)) : rnum k ⟨b, false⟩ = (v, ⟨r, false⟩) := by unfold rnum; simp [h]
theorem rnum_none {k : Nat} {b : List UInt8} (h : num k b = none) : rnum k ⟨b, false⟩ = (0, ⟨b, true⟩) := by unfold rnum; simp [h]
theorem rnum_bad {k : Nat} {b : List UInt8} : rnum k ⟨b, true⟩ = (0, ⟨b, true⟩) := rfl
theorem rtext_some {b r s : List UInt8} (h : text b = some (s, r)) : rtext ⟨b, false⟩ = (s, ⟨r, false⟩) := by unfold rtext; simp [h]
theorem rtext_none {b : List UInt8} (h : text b = none) : rtext ⟨b, false⟩ = ([], ⟨b, true⟩) := by unfold rtext; simp [h]
theorem rtext_bad {b : List UInt8} : rtext ⟨b, true⟩ = ([], ⟨b, true⟩) := rfl
def pTell (b : List UInt8) : Option (TTell × List UInt8) :=
 (num 1 b).bind fun k => (num 1 k.2).bind fun f => (num 4 f.2).bind fun e => (num 4 e.2).bind fun s => (num 1 s.2).bind fun er => (num 1 er.2).bind fun fl => (num 1 fl.2).bind fun m => (num 4 m.2).bind fun ve =>
  (text ve.2).bind fun w => some (⟨k.1, f.1, e.1, s.1, er.1, fl.1, m.1, ve.1, w.1⟩, w.2)
theorem pTell_parts {b : List UInt8} {t : TTell} {r : List UInt8} (h : pTell b = some (t, r)) : b ≠ [] := by
 rintro rfl
 cases h
theorem reader_tell_ok (b : List UInt8) (hb : b.length ≤ lim) : ∃ s, msg_reader_tell fuel ⟨b⟩ = some s ∧ rOut (pTell b) s := by
 unfold msg_reader_tell msg_reader_tell_t pTell
 try simp only [get_ite, get_opt, get_ret, get_fail, get_altT, val_ite, val_ret]
 rw [rd1]
 cases h1 : num 1 b with
 | none => exact ⟨_, rfl, _, rfl⟩
 | some p1 =>
  obtain ⟨k, b1⟩ := p1
  have g1 := num_parts h1
  simp only [some_bind, alt_inl]
  rw [rd1]
  cases h2 : num 1 b1 with
  | none => exact ⟨_, rfl, _, rfl⟩
  | some p2 =>
   obtain ⟨f, b2⟩ := p2
   have g2 := num_parts h2
   simp only [some_bind, alt_inl]
   rw [rd4]
   cases h3 : num 4 b2 with
   | none => exact ⟨_, rfl, _, rfl⟩
   | some p3 =>
    obtain ⟨e, b3⟩ := p3
    have g3 := num_parts h3
    simp only [some_bind, alt_inl]
    rw [rd4]
    cases h4 : num 4 b3 with
    | none => exact ⟨_, rfl, _, rfl⟩
    | some p4 =>
     obtain ⟨s, b4⟩ := p4
     have g4 := num_parts h4
     simp only [some_bind, alt_inl]
     rw [rd1]
     cases h5 : num 1 b4 with
     | none => exact ⟨_, rfl, _, rfl⟩
     | some p5 =>
      obtain ⟨er, b5⟩ := p5
      have g5 := num_parts h5
      simp only [some_bind, alt_inl]
      rw [rd1]
      cases h6 : num 1 b5 with
      | none => exact ⟨_, rfl, _, rfl⟩
      | some p6 =>
       obtain ⟨fl, b6⟩ := p6
       have g6 := num_parts h6
       simp only [some_bind, alt_inl]
       rw [rd1]
       cases h7 : num 1 b6 with
       | none => exact ⟨_, rfl, _, rfl⟩
       | some p7 =>
        obtain ⟨m, b7⟩ := p7
        have g7 := num_parts h7
        simp only [some_bind, alt_inl]
        rw [rd4]
        cases h8 : num 4 b7 with
        | none => exact ⟨_, rfl, _, rfl⟩
        | some p8 =>
         obtain ⟨n, b8⟩ := p8
         have g8 := num_parts h8
         simp only [some_bind, alt_inl]
         rw [reader_text_ok _ (by omega)]
         cases h9 : text b8 with
         | none => exact ⟨_, rfl, _, rfl⟩
         | some p9 => exact ⟨_, rfl, rfl⟩
def noTell : TTell := ⟨0, 0, 0, 0, 0, 0, 0, 0, []⟩
def takeTell (b : List UInt8) : TTell × Bool :=
 match pTell b with
 | some (a, _) => bif putTell a == b then (a, true) else (noTell, false)
 | none => (noTell, false)
theorem putTell_len (t : TTell) : (putTell t).length ≤ 44 := by
 unfold putTell
 cases h : msg_MayTell t with
 | false => simp
 | true =>
  obtain ⟨_, _, _, _, _, _, _, _, h9⟩ := mayTell_of h
  have := bodyTell_len t
  simp only [cond_true, sealB_len]; omega
theorem msg_TakeTell_ok (b : List UInt8) (hb : b.length ≤ lim) : msg_TakeTell fuel b = some (takeTell b) := by
 obtain ⟨s, h1, h2⟩ := reader_tell_ok b hb
 unfold msg_TakeTell msg_TakeTell_t msg_takes_Tell msg_takes_Tell_t
 try simp only [get_ite, get_opt, get_ret, get_fail, get_altT, val_ite, val_ret]
 rw [h1]
 unfold takeTell
 cases hp : pTell b with
 | none =>
  rw [hp] at h2
  obtain ⟨q, rfl⟩ := h2
  rfl
 | some p =>
  obtain ⟨a, r⟩ := p
  rw [hp] at h2
  simp only [rOut] at h2
  subst h2
  have hb0 : ((b.length : Int) == 0) = false := by
   cases b with
   | nil => exact absurd rfl (pTell_parts hp)
   | cons x t => simp; omega
  simp only [some_bind, alt_inl]
  rw [hb0, msg_PutTell_ok a]
  simp only [some_bind, cond_false]
  rw [equal_bytes _ _ (by have := putTell_len a; omega)]
  cases putTell a == b <;> rfl
theorem putTell_no {a : TTell} (h : msg_MayTell a = false) : putTell a = [] := by unfold putTell; rw [h]; rfl
theorem ref13_TakeTell_ok (b : List UInt8) (hb : b.length ≤ lim) : ref13_TakeTell fuel b = some (takeTell b) := by
 unfold ref13_TakeTell ref13_TakeTell_t takeTell pTell
 try simp only [get_ite, get_opt, get_ret, get_fail, get_altT, val_ite, val_ret]
 simp only [rr1, rr4, some_bind]
 cases h1 : num 1 b with
 | none =>
  rw [rnum_none h1]
  simp only [rnum_bad, some_bind]
  rw [ref13_text_ok _ (by exact hb), rtext_bad]
  rfl
 | some p1 =>
  obtain ⟨k, b1⟩ := p1
  have g1 := num_parts h1
  rw [rnum_some h1]
  simp only [some_bind]
  cases h2 : num 1 b1 with
  | none =>
   rw [rnum_none h2]
   simp only [rnum_bad, some_bind]
   rw [ref13_text_ok _ (by show b1.length ≤ lim; omega), rtext_bad]
   rfl
  | some p2 =>
   obtain ⟨f, b2⟩ := p2
   have g2 := num_parts h2
   rw [rnum_some h2]
   simp only [some_bind]
   cases h3 : num 4 b2 with
   | none =>
    rw [rnum_none h3]
    simp only [rnum_bad, some_bind]
    rw [ref13_text_ok _ (by show b2.length ≤ lim; omega), rtext_bad]
    rfl
   | some p3 =>
    obtain ⟨e, b3⟩ := p3
    have g3 := num_parts h3
    rw [rnum_some h3]
    simp only [some_bind]
    cases h4 : num 4 b3 with
    | none =>
     rw [rnum_none h4]
     simp only [rnum_bad, some_bind]
     rw [ref13_text_ok _ (by show b3.length ≤ lim; omega), rtext_bad]
     rfl
    | some p4 =>
     obtain ⟨s, b4⟩ := p4
     have g4 := num_parts h4
     rw [rnum_some h4]
     simp only [some_bind]
     cases h5 : num 1 b4 with
     | none =>
      rw [rnum_none h5]
      simp only [rnum_bad, some_bind]
      rw [ref13_text_ok _ (by show b4.length ≤ lim; omega), rtext_bad]
      rfl
     | some p5 =>
      obtain ⟨er, b5⟩ := p5
      have g5 := num_parts h5
      rw [rnum_some h5]
      simp only [some_bind]
      cases h6 : num 1 b5 with
      | none =>
       rw [rnum_none h6]
       simp only [rnum_bad, some_bind]
       rw [ref13_text_ok _ (by show b5.length ≤ lim; omega), rtext_bad]
       rfl
      | some p6 =>
       obtain ⟨fl, b6⟩ := p6
       have g6 := num_parts h6
       rw [rnum_some h6]
       simp only [some_bind]
       cases h7 : num 1 b6 with
       | none =>
        rw [rnum_none h7]
        simp only [rnum_bad, some_bind]
        rw [ref13_text_ok _ (by show b6.length ≤ lim; omega), rtext_bad]
        rfl
       | some p7 =>
        obtain ⟨m, b7⟩ := p7
        have g7 := num_parts h7
        rw [rnum_some h7]
        simp only [some_bind]
        cases h8 : num 4 b7 with
        | none =>
         rw [rnum_none h8]
         simp only [rnum_bad, some_bind]
         rw [ref13_text_ok _ (by show b7.length ≤ lim; omega), rtext_bad]
         rfl
        | some p8 =>
         obtain ⟨ve, b8⟩ := p8
         have g8 := num_parts h8
         rw [rnum_some h8]
         simp only [some_bind]
         rw [ref13_text_ok _ (by show b8.length ≤ lim; omega)]
         simp only [some_bind]
         cases h9 : text b8 with
         | none =>
          rw [rtext_none h9]
          rfl
         | some p9 =>
          obtain ⟨w, b9⟩ := p9
          rw [rtext_some h9]
          simp only [some_bind, cond_false]
          rw [ref13_PutTell_ok, ← MayTell_eq]
          simp only [some_bind]
          cases hm : msg_MayTell ⟨k, f, e, s, er, fl, m, ve, w⟩ with
          | true =>
           simp only [Bool.not_true, cond_false]
           cases putTell ⟨k, f, e, s, er, fl, m, ve, w⟩ == b <;> rfl
          | false =>
           have hne : (putTell ⟨k, f, e, s, er, fl, m, ve, w⟩ == b) = false := by
            rw [putTell_no hm]
            cases b with
            | nil => cases h1
            | cons x t => rfl
           rw [hne]
           rfl
open Go
theorem i8_byteAt {v : Int} (h : 0 ≤ v) (k : Nat) (hk : k ≤ 3) : i8 (byteAt v k) = v / 256 ^ k % 256 := by
 have key : ∀ s : Int, byteAt v k = b8 (wu8 s) → i8 (byteAt v k) = s % 256 := by
  intro s hs
  rw [hs]
  have e : wu8 s = s % 256 := by unfold wu8; rw [IntKind.wrap_u8]
  rw [e, i8_b8 (by omega) (by omega)]
 have h3 : k = 0 ∨ k = 1 ∨ k = 2 ∨ k = 3 := by omega
 rcases h3 with rfl | rfl | rfl | rfl
 ·refine key (v / 256 ^ 0) (congrArg (fun s => b8 (wu8 s)) ?_)
  rw [wi64_of (by omega) (by omega)]
  show v.fdiv 1 = v / 1
  rw [Int.fdiv_eq_ediv_of_nonneg _ (by omega)]
 ·refine key (v / 256 ^ 1) (congrArg (fun s => b8 (wu8 s)) ?_)
  rw [wi64_of (by omega) (by omega)]
  show v.fdiv 256 = v / 256
  rw [Int.fdiv_eq_ediv_of_nonneg _ (by omega)]
 ·refine key (v / 256 ^ 2) (congrArg (fun s => b8 (wu8 s)) ?_)
  rw [wi64_of (by omega) (by omega)]
  show v.fdiv 65536 = v / 65536
  rw [Int.fdiv_eq_ediv_of_nonneg _ (by omega)]
 ·refine key (v / 256 ^ 3) (congrArg (fun s => b8 (wu8 s)) ?_)
  rw [wi64_of (by omega) (by omega)]
  show v.fdiv 16777216 = v / 16777216
  rw [Int.fdiv_eq_ediv_of_nonneg _ (by omega)]
theorem val_be1 {v : Int} (h : 0 ≤ v) (h2 : v < 256) : val (be 1 v) = v := by
 have e0 := i8_byteAt h 0 (by omega)
 show 0 * 256 + i8 (byteAt v 0) = v
 rw [e0]
 have : (256 : Int) ^ 0 = 1 := rfl
 rw [this]
 omega
theorem val_be4 {v : Int} (h : 0 ≤ v) (h2 : v < 4294967296) : val (be 4 v) = v := by
 have e0 := i8_byteAt h 0 (by omega)
 have e1 := i8_byteAt h 1 (by omega)
 have e2 := i8_byteAt h 2 (by omega)
 have e3 := i8_byteAt h 3 (by omega)
 show (((0 * 256 + i8 (byteAt v 3)) * 256 + i8 (byteAt v 2)) * 256 + i8 (byteAt v 1)) * 256 + i8 (byteAt v 0) = v
 rw [e0, e1, e2, e3]
 have h0 : (256 : Int) ^ 0 = 1 := rfl
 have h1 : (256 : Int) ^ 1 = 256 := rfl
 have h2 : (256 : Int) ^ 2 = 65536 := rfl
 have h3 : (256 : Int) ^ 3 = 16777216 := rfl
 rw [h0, h1, h2, h3]
 omega
theorem num_be {k : Nat} {v : Int} (h : val (be k v) = v) (s : List UInt8) : num k (be k v ++ s) = some (v, s) := by
 unfold num
 have e : (be k v).length = k := be_len k v
 rw [if_neg (by rw [List.length_append]; omega)]
 have h1 : (be k v ++ s).take k = be k v := by rw [List.take_append_of_le_length (by omega), List.take_of_length_le (by omega)]
 have h2 : (be k v ++ s).drop k = s := by rw [List.drop_append_of_le_length (by omega), List.drop_of_length_le (by omega)]; rfl
 rw [h1, h2, h]
theorem num1 {v : Int} (h : 0 ≤ v) (h2 : v < 256) (s : List UInt8) : num 1 (be 1 v ++ s) = some (v, s) := num_be (val_be1 h h2) s
theorem num4 {v : Int} (h : 0 ≤ v) (h2 : v < 4294967296) (s : List UInt8) : num 4 (be 4 v ++ s) = some (v, s) := num_be (val_be4 h h2) s
theorem text_txt (t s : List UInt8) (h : t.length ≤ 255) : text (txt t ++ s) = some (t, s) := by
 show text (b8 (t.length : Int) :: (t ++ s)) = _
 have e : (b8 (t.length : Int)).toNat = t.length := by
  have := i8_b8 (n := (t.length : Int)) (by omega) (by omega)
  unfold i8 at this
  omega
 rw [text_cons, e, if_neg (by rw [List.length_append]; omega), List.take_append_of_le_length (by omega), List.take_of_length_le (by omega), List.drop_append_of_le_length (by omega), List.drop_of_length_le (by omega)]
 rfl
theorem pTell_body {t : TTell} (h : msg_MayTell t = true) (s : List UInt8) : pTell (bodyTell t ++ s) = some (t, s) := by
 obtain ⟨h1, h2, h3, h4, h5, h6, h7, h8, h9⟩ := mayTell_of h
 have e : bodyTell t ++ s = be 1 t.Kind ++ (be 1 t.To ++ (be 4 t.Epoch ++ (be 4 t.Seq ++ (be 1 t.Err ++ (be 1 t.File ++ (be 1 t.Mode ++ (be 4 t.Ver ++ (txt t.Body ++ s)))))))) := by
  simp only [bodyTell, List.append_assoc]
 unfold pTell
 rw [e, num1 (by omega) (by omega), some_bind, num1 (by omega) (by omega), some_bind, num4 (by omega) (by omega), some_bind, num4 (by omega) (by omega), some_bind, num1 (by omega) (by omega), some_bind, num1 (by omega) (by omega), some_bind, num1 (by omega) (by omega), some_bind, num4 (by omega) (by omega), some_bind, text_txt _ _ (by omega), some_bind]
theorem putTell_yes {t : TTell} (h : msg_MayTell t = true) : putTell t = bodyTell t ++ be 2 (crcN (bodyTell t) : Int) := by unfold putTell; rw [h]; rfl
theorem takeTell_put {a : TTell} (h : msg_MayTell a = true) : takeTell (putTell a) = (a, true) := by
 unfold takeTell
 rw [putTell_yes h, pTell_body h]
 simp only []
 rw [putTell_yes h, beq_self_eq_true]
 rfl
theorem takeTell_true {z : List UInt8} (h : (takeTell z).2 = true) : ∃ x r, pTell z = some (x, r) ∧ z = putTell x ∧ msg_MayTell x = true := by
 unfold takeTell at h
 cases hp : pTell z with
 | none => rw [hp] at h; cases h
 | some p =>
  obtain ⟨x, r⟩ := p
  simp only [hp] at h
  cases he : putTell x == z with
  | false => rw [he] at h; cases h
  | true =>
   have e := (eq_of_beq he).symm
   refine ⟨x, r, rfl, e, ?_⟩
   cases hm : msg_MayTell x with
   | true => rfl
   | false => exact absurd (e.trans (putTell_no hm)) (pTell_parts hp)
open Go
theorem iter_inv {V X : Type} {step : V → Option (V ⊕ X)} (I : Nat → V → Prop) (Q : X → Prop)
  (h : ∀ k v, I k v → ∃ o, step v = some o ∧ Sum.elim (fun v' => ∃ k', k' < k ∧ I k' v') Q o) :
  ∀ (k : Nat) (v : V) (n : Nat), I k v → k < n → ∃ x, iter step n v = some x ∧ Q x := by
 intro k
 induction k using Nat.strongRecOn with
 | _ k ih =>
  intro v n hi hn
  obtain ⟨o, ho, hq⟩ := h k v hi
  cases n with
  | zero => omega
  | succ n =>
   rw [iter_succ, ho]
   cases o with
   | inl v' =>
    obtain ⟨k', h1, h2⟩ := hq
    exact ih k' h1 v' n h2 (by omega)
   | inr x => exact ⟨x, rfl, hq⟩
theorem beq_of {α : Type} [BEq α] [LawfulBEq α] {a b : α} (h : a = b) : (a == b) = true := by rw [h]; exact beq_self_eq_true b
theorem beq_ne {α : Type} [BEq α] [LawfulBEq α] {a b : α} (h : a ≠ b) : (a == b) = false := by
 cases hb : a == b with
 | false => rfl
 | true => exact absurd (eq_of_beq hb) h
end Go.Proofs.YthabbcjjecpbmaaGreat.N

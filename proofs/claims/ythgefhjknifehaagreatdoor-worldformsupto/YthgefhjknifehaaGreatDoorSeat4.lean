/- The seat's functions, and the nice ones (1). -/
import Derived.Test.YthgefhjknifehaaGreatDoorSeat1
import Derived.Test.YthgefhjknifehaaGreatDoorSeat3
import Derived.Test.YthgefhjknifehaaGreatDoorSeat2
set_option linter.unusedVariables false
set_option maxRecDepth 100000
namespace Go.Proofs.YthgefhjknifehaaGreatDoor.W
open Go Go.Proofs.YthgefhjknifehaaGreatDoor.D
noncomputable section
@[reducible] def g25 (z : N.Tserver_host) (n0 n1 n2 n3 n4 n5 n6 : Nat) : DVal E.T := .agg 25 [.agg 10 [.agg 5 [.agg 1 [.own n0, .own n1, .iv z.Server.Store.D.Arm, .bv z.Server.Store.D.Down], .agg 4 [.own n2, .own n3, .iv z.Server.Store.S.Epoch]], .nv 8 z.Server.Desk, .own n4, .own n5, .iv z.Server.Now, .iv z.Server.Hush, .iv z.Server.Bad, .bv z.Server.Live, .iv z.Server.Recalled], .own n6]
@[reducible] def g26 (z : N.Tclient_work) (n0 n1 n2 : Nat) : DVal E.T := .agg 26 [.agg 15 [.iv z.Client.ID, .iv z.Client.Now, .iv z.Client.Epoch, .iv z.Client.Seq, .own n0, .own n1, .nv 14 z.Client.Out, .iv z.Client.Bad, .iv z.Client.Hits, .iv z.Client.Asks], .own n2]
@[reducible] def g26_2 (z : N.Tclient_work) (n0 n1 : Nat) : DVal E.T := .agg 26 [.agg 15 [.iv z.Client.ID, .iv z.Client.Now, .iv z.Client.Epoch, .iv z.Client.Seq, .own n0, .own n1, .nv 14 z.Client.Out, .iv z.Client.Bad, .iv z.Client.Hits, .iv z.Client.Asks], .nils]
@[reducible] def s26_3 (n0 n1 : Nat) : Sh := .agg 26 [.agg 15 [.iv, .iv, .iv, .iv, .own n0, .own n1, .v (.named 14), .iv, .iv, .iv], .nils]
@[reducible] def g26_4 (z : N.Tclient_work) (n0 n1 : Nat) : DVal E.T := .agg 26 [.agg 15 [.iv z.Client.ID, .iv z.Client.Now, .iv z.Client.Epoch, .iv z.Client.Seq, .own n0, .own n1, .agg 14 [.bv z.Client.Out.Is, .agg 13 [.iv z.Client.Out.Ask.Kind, .iv z.Client.Out.Ask.From, .iv z.Client.Out.Ask.Epoch, .iv z.Client.Out.Ask.Seq, .sv z.Client.Out.Ask.Name, .iv z.Client.Out.Ask.File, .iv z.Client.Out.Ask.Mode, .nils], .iv z.Client.Out.First, .iv z.Client.Out.Last], .iv z.Client.Bad, .iv z.Client.Hits, .iv z.Client.Asks], .nils]
@[reducible] def g25_2 (z : N.Tserver_host) (n0 n1 n2 n3 n4 n5 n6 n7 n8 : Nat) : DVal E.T := .agg 25 [.agg 10 [.agg 5 [.agg 1 [.own n0, .own n1, .iv z.Server.Store.D.Arm, .bv z.Server.Store.D.Down], .agg 4 [.own n2, .own n3, .iv z.Server.Store.S.Epoch]], .agg 8 [.own n4, .own n5], .own n6, .own n7, .iv z.Server.Now, .iv z.Server.Hush, .iv z.Server.Bad, .bv z.Server.Live, .iv z.Server.Recalled], .own n8]
@[reducible] def g21 (z : N.Tworld_host) (n0 : Nat) : DVal E.T := .agg 21 [.agg 17 [.iv z.World.Real, .nv 10 z.World.S, .own n0, .val (.slice (.named 16)) z.World.Fly], .nv 19 z.a]
@[reducible] def s25_3 (n0 n1 n2 n3 n4 n5 n6 n7 : Nat) : Sh := .agg 25 [.agg 10 [.agg 5 [.agg 1 [.own n0, .own n1, .iv, .v .bool], .agg 4 [.own n2, .own n3, .iv]], .agg 8 [.own n4, .own n5], .own n6, .own n7, .iv, .iv, .iv, .v .bool, .iv], .nils]
@[reducible] def g25_4 (z : N.Tserver_host) (n0 n1 n2 n3 : Nat) : DVal E.T := .agg 25 [.agg 10 [.nv 5 z.Server.Store, .agg 8 [.own n0, .own n1], .own n2, .own n3, .iv z.Server.Now, .iv z.Server.Hush, .iv z.Server.Bad, .bv z.Server.Live, .iv z.Server.Recalled], .nils]
@[reducible] def s25_5 (n0 n1 n2 n3 n4 n5 n6 : Nat) : Sh := .agg 25 [.agg 10 [.agg 5 [.agg 1 [.own n0, .own n1, .iv, .v .bool], .agg 4 [.own n2, .own n3, .iv]], .v (.named 8), .own n4, .own n5, .iv, .iv, .iv, .v .bool, .iv], .own n6]
@[reducible] def s25_6 (n0 n1 n2 n3 n4 n5 : Nat) : Sh := .agg 25 [.agg 10 [.agg 5 [.agg 1 [.own n0, .own n1, .iv, .v .bool], .agg 4 [.own n2, .own n3, .iv]], .v (.named 8), .own n4, .own n5, .iv, .iv, .iv, .v .bool, .iv], .nils]
@[reducible] def g10 (z : N.TServer) : DVal E.T := .agg 10 [.agg 5 [.agg 1 [.nils, .nils, .iv z.Store.D.Arm, .bv z.Store.D.Down], .agg 4 [.nils, .nils, .iv z.Store.S.Epoch]], .agg 8 [.nils, .nils], .nils, .nils, .iv z.Now, .iv z.Hush, .iv z.Bad, .bv z.Live, .iv z.Recalled]
@[reducible] def g25_7 (z : N.Tserver_host) (n0 n1 n2 : Nat) : DVal E.T := .agg 25 [.agg 10 [.nv 5 z.Server.Store, .nv 8 z.Server.Desk, .own n0, .own n1, .iv z.Server.Now, .iv z.Server.Hush, .iv z.Server.Bad, .bv z.Server.Live, .iv z.Server.Recalled], .own n2]
@[reducible] def g25_8 (z : N.Tserver_host) (n0 n1 n2 n3 n4 : Nat) : DVal E.T := .agg 25 [.agg 10 [.nv 5 z.Server.Store, .agg 8 [.own n0, .own n1], .own n2, .own n3, .iv z.Server.Now, .iv z.Server.Hush, .iv z.Server.Bad, .bv z.Server.Live, .iv z.Server.Recalled], .own n4]
@[reducible] def s21_2 (n0 n1 : Nat) : Sh := .agg 21 [.agg 17 [.iv, .v (.named 10), .own n0, .own n1], .v (.named 19)]
@[reducible] def g25_9 (z : N.Tserver_host) (n0 n1 n2 n3 n4 n5 n6 n7 : Nat) : DVal E.T := .agg 25 [.agg 10 [.agg 5 [.agg 1 [.own n0, .own n1, .iv z.Server.Store.D.Arm, .bv z.Server.Store.D.Down], .agg 4 [.own n2, .own n3, .iv z.Server.Store.S.Epoch]], .agg 8 [.own n4, .own n5], .own n6, .own n7, .iv z.Server.Now, .iv z.Server.Hush, .iv z.Server.Bad, .bv z.Server.Live, .iv z.Server.Recalled], .nils]
@[reducible] def s26_5 (n0 n1 : Nat) : Sh := .agg 26 [.agg 15 [.iv, .iv, .iv, .iv, .own n0, .own n1, .agg 14 [.v .bool, .agg 13 [.iv, .iv, .iv, .iv, .v .str, .iv, .iv, .nils], .iv, .iv], .iv, .iv, .iv], .nils]
@[reducible] def s21_3 (n0 : Nat) : Sh := .agg 21 [.agg 17 [.iv, .v (.named 10), .own n0, .v (.slice (.named 16))], .v (.named 19)]
@[reducible] def g15 (z : N.TClient) : DVal E.T := .agg 15 [.iv z.ID, .iv z.Now, .iv z.Epoch, .iv z.Seq, .nils, .nils, .agg 14 [.bv z.Out.Is, .agg 13 [.iv z.Out.Ask.Kind, .iv z.Out.Ask.From, .iv z.Out.Ask.Epoch, .iv z.Out.Ask.Seq, .sv z.Out.Ask.Name, .iv z.Out.Ask.File, .iv z.Out.Ask.Mode, .nils], .iv z.Out.First, .iv z.Out.Last], .iv z.Bad, .iv z.Hits, .iv z.Asks]
@[reducible] def g21_4 (z : N.Tworld_host) (n0 n1 : Nat) : DVal E.T := .agg 21 [.agg 17 [.iv z.World.Real, .nv 10 z.World.S, .own n0, .own n1], .nv 19 z.a]
@[reducible] def g1 (z : N.TDisk) : DVal E.T := .agg 1 [.nils, .nils, .iv z.Arm, .bv z.Down]
@[reducible] def g17 (z : N.TWorld) : DVal E.T := .agg 17 [.iv z.Real, .agg 10 [.agg 5 [.agg 1 [.nils, .nils, .iv z.S.Store.D.Arm, .bv z.S.Store.D.Down], .agg 4 [.nils, .nils, .iv z.S.Store.S.Epoch]], .agg 8 [.nils, .nils], .nils, .nils, .iv z.S.Now, .iv z.S.Hush, .iv z.S.Bad, .bv z.S.Live, .iv z.S.Recalled], .nils, .nils]
@[reducible] def s10_2 : Sh := .agg 10 [.agg 5 [.agg 1 [.nils, .nils, .iv, .v .bool], .agg 4 [.nils, .nils, .iv]], .agg 8 [.nils, .nils], .nils, .nils, .iv, .iv, .iv, .v .bool, .iv]
@[reducible] def g13 (z : N.TAsk) (n0 : Nat) : DVal E.T := .agg 13 [.iv z.Kind, .iv z.From, .iv z.Epoch, .iv z.Seq, .sv z.Name, .iv z.File, .iv z.Mode, .own n0]
@[reducible] def s25_10 (n0 n1 n2 n3 : Nat) : Sh := .agg 25 [.agg 10 [.v (.named 5), .agg 8 [.own n0, .own n1], .own n2, .own n3, .iv, .iv, .iv, .v .bool, .iv], .nils]
@[reducible] def s25_11 (n0 n1 : Nat) : Sh := .agg 25 [.agg 10 [.v (.named 5), .v (.named 8), .own n0, .own n1, .iv, .iv, .iv, .v .bool, .iv], .nils]
@[reducible] def g24 (z : N.Tdisk_lasting) (n0 n1 : Nat) : DVal E.T := .agg 24 [.agg 1 [.own n0, .own n1, .iv z.d.Arm, .bv z.d.Down]]
@[reducible] def g10_3 (z : N.TServer) (n0 : Nat) : DVal E.T := .agg 10 [.nv 5 z.Store, .agg 8 [.nils, .nils], .own n0, .nils, .iv z.Now, .iv z.Hush, .iv z.Bad, .bv z.Live, .iv z.Recalled]
def x112 : GFn E := { i := stdI [.i6] [(.slice (.named 3))] N.mark_New_t }
theorem y112 : InsOk Tryz.prog 112 x112.ins := go Tryz.func112 rfl trivial trivial trivial (fun _ => by show _ = _; kernel_rfl)
def P112 : SP := (112, .pure [.i6] (pureF [x112.ins]))
theorem p112 : OK P112 := pureI_ok Tryz.call112 ⟨y112, trivial⟩
def x61 : GFn E := { S := [P112], i := stdI [] [(.named 4)] N.state_New_t }
theorem y61 : InsOk Tryz.prog 61 x61.ins := go Tryz.func61 rfl ⟨p112, trivial⟩ trivial trivial (by show _ = _; kernel_rfl)
def P61 : SP := (61, .pure [] (pureF [x61.ins]))
theorem p61 : OK P61 := pureI_ok Tryz.call61 ⟨y61, trivial⟩
def x171 : GFn E := { i := ⟨[.iv], [], fun v => .tot (N.state_number_t v) fun x_ => .ret (.ret [.bv x_], [])⟩ }
theorem y171 : InsOk Tryz.prog 171 x171.ins := go Tryz.func171 rfl trivial trivial trivial (fun _ => by show _ = _; kernel_rfl)
def P171 : SP := (171, .pure [.i6] (pureF [x171.ins]))
theorem p171 : OK P171 := pureI_ok Tryz.call171 ⟨y171, trivial⟩
def x237 : GFn E := { ls := [{ ks := [0, 6, 7, 8], rs := [0, 2], ins := some [⟨[.v .str, .own 0, .iv, .iv], [.al (.int .u8)], fun a t7 t8 r0 => ⟨t8, N.dir_May_s0t a t7 r0, fun v_ => ([.sv a, .own 0, .iv t7, .iv v_], [.al (.int .u8) r0]), fun x_ => altT x_ (fun b => .ret (.ret, [.sv a, .bv false], [.al (.int .u8) r0])) (fun c => .ret (.exit 0, [.sv a, .undef], [.al (.int .u8) r0]))⟩⟩] }], i := stdI [.str] [.bool] (N.dir_May_t N.fuel) }
theorem y237 : InsOk Tryz.prog 237 x237.ins := go Tryz.func237 rfl trivial trivial ⟨⟨fun _ _ _ _ => ⟨rfl, fun _ => by show _ = _; kernel_rfl⟩, trivial⟩, trivial⟩ (fun _ => by show _ = _; kernel_rfl)
def P237 : SP := (237, .pure [.str] (pureF [x237.ins]))
theorem p237 : OK P237 := pureI_ok Tryz.call237 ⟨y237, trivial⟩
def x173 : GFn E := { S := [P171, P237], i := stdI [(.named 2)] [.bool] (N.state_mayFile_t N.fuel) }
theorem y173 : InsOk Tryz.prog 173 x173.ins := go Tryz.func173 rfl ⟨p171, p237, trivial⟩ trivial trivial (fun _ => by show _ = _; kernel_rfl)
def P173 : SP := (173, .pure [(.named 2)] (pureF [x173.ins]))
theorem p173 : OK P173 := pureI_ok Tryz.call173 ⟨y173, trivial⟩
def x172 : GFn E := { i := ⟨[.v (.named 2), .ptr 0 []], [.box true (.v (.named 2))], fun g o0 => .tot (N.state_May_c1_t g o0) fun x_ => .ret (.ret [.bv x_], [.box true (.nv 2 o0)])⟩ }
theorem y172 : InsOk Tryz.prog 172 x172.ins := go Tryz.func172 rfl trivial trivial trivial (fun _ _ => by show _ = _; kernel_rfl)
def P172 : SP := (172, .full [.data (.named 2), .ptr] true (fullF [x172.ins]))
theorem p172 : OK P172 := fullI_ok ok Tryz.call172 ⟨y172, trivial⟩
def x343 : GFn E := { i := ⟨[.v (.named 2), .ptr 0 []], [.box true (.v .str)], fun f o0 => .tot (.ret (N.dir_number_c1 f o0)) fun x_ => .ret (.ret [.bv x_], [.box true (.sv o0)])⟩ }
theorem y343 : InsOk Tryz.prog 343 x343.ins := go Tryz.func343 rfl trivial trivial trivial (fun _ _ => by show _ = _; kernel_rfl)
def P343 : SP := (343, .full [.data (.named 2), .ptr] true (fullF [x343.ins]))
theorem p343 : OK P343 := fullI_ok ok Tryz.call343 ⟨y343, trivial⟩
def x238 : GFn E := { S := [P172], ls := [{ ks := [0, 1, 7, 8], rs := [4], ins := some [⟨[.v (.slice (.named 2)), .fn 172 [.ptr 0 []], .iv, .iv], [.box true (.v (.named 2))], fun s t7 t8 o0 => ⟨t8, N.slices_IndexFunc_File_s0t s t7 o0, fun v_ => ([.val (.slice (.named 2)) s, .fn 172 [.ptr 0 []], .iv t7, .iv v_], [.box true (.nv 2 o0)]), fun x_ => altT x_ (fun a => .ret (.ret, [.iv a], [.box true (.nv 2 o0)])) (fun b => .ret (.exit 0, [.undef], [.box true (.nv 2 o0)]))⟩⟩] }], i := ⟨[.v (.slice (.named 2)), .fn 172 [.ptr 0 []]], [.box true (.v (.named 2))], fun s o0 => .opt (N.slices_IndexFunc_File_t N.fuel s o0) fun x_ => .ret (.ret [.iv x_], [.box true (.nv 2 o0)])⟩ }
theorem y238 : InsOk Tryz.prog 238 x238.ins := go Tryz.func238 rfl ⟨p172, trivial⟩ trivial ⟨⟨fun _ _ _ _ => ⟨rfl, fun _ => by show _ = _; kernel_rfl⟩, trivial⟩, trivial⟩ (fun _ _ => by show _ = _; kernel_rfl)
def x238a : GFn E := { S := [P343], ls := [{ ks := [0, 1, 7, 8], rs := [4], ins := some [⟨[.v (.slice (.named 2)), .fn 343 [.ptr 0 []], .iv, .iv], [.box true (.v .str)], fun s t7 t8 o0 => ⟨t8, N.slices_IndexFunc_File_2_s0t s t7 o0, fun v_ => ([.val (.slice (.named 2)) s, .fn 343 [.ptr 0 []], .iv t7, .iv v_], [.box true (.sv o0)]), fun x_ => altT x_ (fun a => .ret (.ret, [.iv a], [.box true (.sv o0)])) (fun b => .ret (.exit 0, [.undef], [.box true (.sv o0)]))⟩⟩] }], i := ⟨[.v (.slice (.named 2)), .fn 343 [.ptr 0 []]], [.box true (.v .str)], fun s o0 => .opt (N.slices_IndexFunc_File_2_t N.fuel s o0) fun x_ => .ret (.ret [.iv x_], [.box true (.sv o0)])⟩ }
theorem y238a : InsOk Tryz.prog 238 x238a.ins := go Tryz.func238 rfl ⟨p343, trivial⟩ trivial ⟨⟨fun _ _ _ _ => ⟨rfl, fun _ => by show _ = _; kernel_rfl⟩, trivial⟩, trivial⟩ (fun _ _ => by show _ = _; kernel_rfl)
def P238 : SP := (238, .full [.data (.slice (.named 2)), .func] true (fullF [x238.ins, x238a.ins]))
theorem p238 : OK P238 := fullI_ok ok Tryz.call238 ⟨y238, y238a, trivial⟩
def x174 : GFn E := { S := [P238], i := ⟨[.v (.slice (.named 2)), .fn 172 [.ptr 0 []]], [.box true (.v (.named 2))], fun s o0 => .opt (N.slices_ContainsFunc_File_t N.fuel s o0) fun x_ => .ret (.ret [.bv x_], [.box true (.nv 2 o0)])⟩ }
theorem y174 : InsOk Tryz.prog 174 x174.ins := go Tryz.func174 rfl ⟨p238, trivial⟩ trivial trivial (fun _ _ => by show _ = _; kernel_rfl)
def P174 : SP := (174, .full [.data (.slice (.named 2)), .func] true (fullF [x174.ins]))
theorem p174 : OK P174 := fullI_ok ok Tryz.call174 ⟨y174, trivial⟩
def x177 : GFn E := { S := [P171], i := ⟨[.v (.named 3)], [], fun m => .tot (N.state_mayMark_t m) fun x_ => .ret (.ret [.bv x_], [])⟩ }
theorem y177 : InsOk Tryz.prog 177 x177.ins := go Tryz.func177 rfl ⟨p171, trivial⟩ trivial trivial (fun _ => by show _ = _; kernel_rfl)
def P177 : SP := (177, .pure [(.named 3)] (pureF [x177.ins]))
theorem p177 : OK P177 := pureI_ok Tryz.call177 ⟨y177, trivial⟩
def x176 : GFn E := { S := [P177], i := ⟨[.v (.named 3)], [], fun m => .tot (.ret (N.state_May_c2 m)) fun x_ => .ret (.ret [.bv x_], [])⟩ }
theorem y176 : InsOk Tryz.prog 176 x176.ins := go Tryz.func176 rfl ⟨p177, trivial⟩ trivial trivial (fun _ => by show _ = _; kernel_rfl)
def P176 : SP := (176, .pure [(.named 3)] (pureF [x176.ins]))
theorem p176 : OK P176 := pureI_ok Tryz.call176 ⟨y176, trivial⟩
def x239 : GFn E := { S := [P176], ls := [{ ks := [0, 1, 7, 8], rs := [4], ins := some [⟨[.v (.slice (.named 3)), .fn 176 [], .iv, .iv], [], fun s t7 t8 => ⟨t8, N.slices_IndexFunc_Mark_s0t s t7, fun v_ => ([.val (.slice (.named 3)) s, .fn 176 [], .iv t7, .iv v_], []), fun x_ => altT x_ (fun a => .ret (.ret, [.iv a], [])) (fun b => .ret (.exit 0, [.undef], []))⟩⟩] }], i := ⟨[.v (.slice (.named 3)), .fn 176 []], [], fun s => .opt (N.slices_IndexFunc_Mark_t N.fuel s) fun x_ => .ret (.ret [.iv x_], [])⟩ }
theorem y239 : InsOk Tryz.prog 239 x239.ins := go Tryz.func239 rfl ⟨p176, trivial⟩ trivial ⟨⟨fun _ _ _ => ⟨rfl, fun _ => by show _ = _; kernel_rfl⟩, trivial⟩, trivial⟩ (fun _ => by show _ = _; kernel_rfl)
def P239 : SP := (239, .full [.data (.slice (.named 3)), .func] true (fullF [x239.ins]))
theorem p239 : OK P239 := fullI_ok ok Tryz.call239 ⟨y239, trivial⟩
def x175 : GFn E := { S := [P239], i := ⟨[.v (.slice (.named 3)), .fn 176 []], [], fun s => .opt (N.slices_ContainsFunc_Mark_t N.fuel s) fun x_ => .ret (.ret [.bv x_], [])⟩ }
theorem y175 : InsOk Tryz.prog 175 x175.ins := go Tryz.func175 rfl ⟨p239, trivial⟩ trivial trivial (fun _ => by show _ = _; kernel_rfl)
def P175 : SP := (175, .full [.data (.slice (.named 3)), .func] true (fullF [x175.ins]))
theorem p175 : OK P175 := fullI_ok ok Tryz.call175 ⟨y175, trivial⟩
def x116 : GFn E := { S := [P171, P173, P174, P175], ls := [{ ks := [1, 23, 24, 25], rs := [1, 2], ins := some [⟨[.ptr 0 [], .v (.slice (.named 2)), .iv, .iv], [.bx (.v (.named 4))], fun a b c s => ⟨c, N.state_May_s0t N.fuel a b s, fun v_ => ([.ptr 0 [], .val (.slice (.named 2)) a, .iv b, .iv v_], [.bx (.nv 4 s)]), fun x_ => altT x_ (fun d => .ret (.ret, [.ptr 0 [], .bv false], [.bx (.nv 4 s), .bx (.nv 2 d)])) (fun e => .ret (.exit 0, [.ptr 0 [], .undef], [.bx (.nv 4 s)]))⟩⟩] }], i := stdI [(.named 4)] [.bool] (N.state_May_t N.fuel) }
theorem y116 : InsOk Tryz.prog 116 x116.ins := go Tryz.func116 rfl ⟨p171, p173, p174, p175, trivial⟩ trivial ⟨⟨fun _ _ _ _ => ⟨rfl, fun _ => by show _ = _; kernel_rfl⟩, trivial⟩, trivial⟩ (fun _ => by show _ = _; kernel_rfl)
def P116 : SP := (116, .pure [(.named 4)] (pureF [x116.ins]))
theorem p116 : OK P116 := pureI_ok Tryz.call116 ⟨y116, trivial⟩
noncomputable def B178 : List (DVal E.T) → St E.T → Tree (Res E.T × St E.T) := cloneF E (.int .u8)
def P178 : SP := (178, .full [.data (.slice (.int .u8))] false B178)
theorem cf178 : ∃ R0 C R id o1 o2, Tryz.f178.body = some (.seq R0 (.seq (.seq (.region id #[o1, o2] false) C) R)) ∧ (o1.op = .move (.tmp 0) ∧ o1.dst = some 3 ∧ o1.guard = none) ∧ (o2.op = .binOp .eql 63 (.tmp 3) (.const (.slice none 0 0)) 63 ∧ o2.dst = some 4 ∧ o2.guard = none) ∧
  CloneFacts E Tryz.f178 (.int .u8) R0 C R (fun xs => put E (frame E Tryz.f178 [.val (.slice (.int .u8)) xs]) (some 2) .nils) (fun xs => put E (put E (put E (put E (frame E Tryz.f178 [.val (.slice (.int .u8)) xs]) (some 2) .nils) (some 3) (.val (.slice (.int .u8)) xs)) (some 4) (.val .bool true)) (some 2) .nils) (fun xs n => put E (put E (put E (put E (put E (put E (put E (frame E Tryz.f178 [.val (.slice (.int .u8)) xs]) (some 2) .nils) (some 3) (.val (.slice (.int .u8)) xs)) (some 4) (.val .bool false)) (some 5) .nils) (some 6) (.val (.slice (.int .u8)) xs)) (some 7) (.own n)) (some 2) (.own n)) :=
 ⟨_, _, _, _, _, _, rfl, ⟨rfl, rfl, rfl⟩, ⟨rfl, rfl, rfl⟩, by
  constructor
  all_goals intros
  all_goals kernel_rfl⟩
theorem p178 : OK P178 := by
 obtain ⟨R0, C, R, id, o1, o2, hb, h1, h2, hF⟩ := cf178
 exact ⟨Tryz.call178, clone_fn sound mix Tryz.func178 hb h1 h2 ⟨_, Tryz.underlying63⟩ hF⟩
def x117k : GFn E := { S := [P178], ls := [{ ks := [0, 1, 2], rs := [0, 6], ins := some [⟨[.own 0, .iv, .iv], [.al (.int .u8)], fun v n b => ⟨(n, b), N.bits_Put_s0t v, fun v_ => ([.own 0, .iv v, .iv v_.1], [.al (.int .u8) v_.2]), fun x_ => .ret (.exit 0, [.own 0, .undef], [.al (.int .u8) x_])⟩⟩] }], keep := true, i := ⟨[.v (.slice (.int .u8)), .iv, .iv], [], fun b v n => .opt (N.bits_Put_t N.fuel b v n) fun x_ => .ret (.ret [.own 0], [.al (.int .u8) x_])⟩ }
theorem y117k : InsOk Tryz.prog 117 x117k.ins := goF Tryz.func117 rfl ⟨p178, trivial⟩ trivial ⟨⟨fun _ _ _ => ⟨rfl, fun _ => by show _ = _; kernel_rfl⟩, trivial⟩, trivial⟩ (fun _ _ _ => by show _ = _; kernel_rfl)
def P117k : SP := (117, .full [.data (.slice (.int .u8)), .data .i6, .data .i6] false (fullF [x117k.ins]))
theorem p117k : OK P117k := fullI_ok ok Tryz.call117 ⟨y117k, trivial⟩
def x179k : GFn E := { S := [P178], keep := true, i := ⟨[.v (.slice (.int .u8)), .v .str], [], fun b s => .opt (N.bits_Text_t b s) fun x_ => .ret (.ret [.own 0], [.al (.int .u8) x_])⟩ }
theorem y179k : InsOk Tryz.prog 179 x179k.ins := goF Tryz.func179 rfl ⟨p178, trivial⟩ trivial trivial (fun _ _ => by show _ = _; kernel_rfl)
def P179k : SP := (179, .full [.data (.slice (.int .u8)), .data .str] false (fullF [x179k.ins]))
theorem p179k : OK P179k := fullI_ok ok Tryz.call179 ⟨y179k, trivial⟩
def x118 : GFn E := { S := [P179k], keep := true, i := ⟨[.v (.slice (.int .u8)), .v .str, .iv], [], fun b s n => .opt (N.image_padded_t b s n) fun x_ => .ret (.ret [.own 0], [.al (.int .u8) x_])⟩ }
theorem y118 : InsOk Tryz.prog 118 x118.ins := goF Tryz.func118 rfl ⟨p179k, trivial⟩ trivial trivial (fun _ _ _ => by show _ = _; kernel_rfl)
def P118 : SP := (118, .full [.data (.slice (.int .u8)), .data .str, .data .i6] false (fullF [x118.ins]))
theorem p118 : OK P118 := fullI_ok ok Tryz.call118 ⟨y118, trivial⟩
def x64 : GFn E := { S := [P116, P117k, P118], ls := [{ ks := [1, 2, 3, 18, 19, 20], rs := [1, 2, 3], mvs := [(3, 1)], ins := some [⟨[.ptr 0 [], .nils, .own 1, .v (.slice (.named 3)), .iv, .iv], [.bx (.v (.named 4)), .al (.int .u8)], fun a c d s b => ⟨(d, b), N.image_Put_s0t N.fuel a c s, fun v_ => ([.ptr 0 [], .nils, .own 1, .val (.slice (.named 3)) a, .iv c, .iv v_.1], [.bx (.nv 4 s), .al (.int .u8) v_.2]), fun x_ => .ret (.exit 0, [.ptr 0 [], .nils, .own 1], [.bx (.nv 4 s), .al (.int .u8) x_])⟩⟩] }, { ks := [2, 3, 39, 40, 41], rs := [2, 3], mvs := [(3, 1)], ins := some [⟨[.nils, .own 1, .v (.slice (.named 2)), .iv, .iv], [.bx (.v (.named 4)), .al (.int .u8)], fun e f g o0 b => ⟨(g, b), N.image_Put_s1t N.fuel e f o0, fun v_ => ([.nils, .own 1, .val (.slice (.named 2)) e, .iv f, .iv v_.1], [.bx (.nv 4 o0), .al (.int .u8) v_.2]), fun x_ => .ret (.exit 2, [.nils, .own 1], [.bx (.nv 4 o0), .al (.int .u8) x_])⟩⟩] }], i := stdI [(.named 4)] [(.slice .str)] (N.image_Put_t N.fuel) }
theorem z64 : FnOk Tryz.prog E 64 (dbodyR E (lookS x64.S) (x64.L Tryz.f64) 0 6 3 Tryz.f64) := dbodyR_ok sound mix (S := x64.S) ⟨p116, p117k, p118, trivial⟩ (L := x64.L Tryz.f64) (N := 0) (m := 6) (q := 3) Tryz.func64 rfl (by kernel_rfl) (gLoops_at (x := x64) ⟨⟨fun _ _ _ _ _ => ⟨rfl, fun _ => by show _ = _; kernel_rfl⟩, trivial⟩, ⟨⟨fun _ _ _ _ _ => ⟨rfl, fun _ => by show _ = _; kernel_rfl⟩, trivial⟩, trivial⟩⟩) tailPut
theorem y64 : InsOk Tryz.prog 64 x64.ins := gIns_ok z64 (fun _ => by show _ = _; kernel_rfl)
def P64 : SP := (64, .pure [(.named 4)] (pureF [x64.ins]))
theorem p64 : OK P64 := pureI_ok Tryz.call64 ⟨y64, trivial⟩
def x115 : GFn E := { S := [P61, P64], i := stdI [] [.i6] (N.store_home_t N.fuel) }
theorem y115 : InsOk Tryz.prog 115 x115.ins := go Tryz.func115 rfl ⟨p61, p64, trivial⟩ trivial trivial (by show _ = _; kernel_rfl)
def P115 : SP := (115, .pure [] (pureF [x115.ins]))
theorem p115 : OK P115 := pureI_ok Tryz.call115 ⟨y115, trivial⟩
def x63 : GFn E := { S := [P115], i := stdI [] [.i6] (N.store_size_t N.fuel) }
theorem y63 : InsOk Tryz.prog 63 x63.ins := go Tryz.func63 rfl ⟨p115, trivial⟩ trivial trivial (by show _ = _; kernel_rfl)
def P63 : SP := (63, .pure [] (pureF [x63.ins]))
theorem p63 : OK P63 := pureI_ok Tryz.call63 ⟨y63, trivial⟩
def x123 : GFn E := { i := ⟨[.v (.int .u64), .v (.int .u64)], [], fun x y => .tot (.ret (N.bits64_Mul64 x y)) fun x_ => .ret (.ret [.val (.int .u64) x_.1, .val (.int .u64) x_.2], [])⟩ }
theorem y123 : InsOk Tryz.prog 123 x123.ins := go Tryz.func123 rfl trivial trivial trivial (fun _ _ => by show _ = _; kernel_rfl)
def P123 : SP := (123, .pure [(.int .u64), (.int .u64)] (pureF [x123.ins]))
theorem p123 : OK P123 := pureI_ok Tryz.call123 ⟨y123, trivial⟩
def P113 : SP := (113, .pure [.slice .str, .int .i64] rep1S)
theorem p113 : SpecOk Tryz.prog E P113.1 P113.2 := rep1_ok (mul_calls p123.2 (fun m => rfl))
def x62 : GFn E := { S := [P113, P114], i := stdI [.i6] [(.named 1)] N.disk_New_t }
theorem y62 : InsOk Tryz.prog 62 x62.ins := go Tryz.func62 rfl ⟨p113, p114, trivial⟩ trivial trivial (fun _ => by show _ = _; kernel_rfl)
def P62 : SP := (62, .pure [.i6] (pureF [x62.ins]))
theorem p62 : OK P62 := pureI_ok Tryz.call62 ⟨y62, trivial⟩
noncomputable def B68 : List (DVal E.T) → St E.T → Tree (Res E.T × St E.T) := cloneF E .str
def P68 : SP := (68, .full [.data (.slice .str)] false B68)
theorem cf68 : ∃ R0 C R id o1 o2, Tryz.f68.body = some (.seq R0 (.seq (.seq (.region id #[o1, o2] false) C) R)) ∧ (o1.op = .move (.tmp 0) ∧ o1.dst = some 3 ∧ o1.guard = none) ∧ (o2.op = .binOp .eql 23 (.tmp 3) (.const (.slice none 0 0)) 23 ∧ o2.dst = some 4 ∧ o2.guard = none) ∧
  CloneFacts E Tryz.f68 .str R0 C R (fun xs => put E (frame E Tryz.f68 [.val (.slice .str) xs]) (some 2) .nils) (fun xs => put E (put E (put E (put E (frame E Tryz.f68 [.val (.slice .str) xs]) (some 2) .nils) (some 3) (.val (.slice .str) xs)) (some 4) (.val .bool true)) (some 2) .nils) (fun xs n => put E (put E (put E (put E (put E (put E (put E (frame E Tryz.f68 [.val (.slice .str) xs]) (some 2) .nils) (some 3) (.val (.slice .str) xs)) (some 4) (.val .bool false)) (some 5) .nils) (some 6) (.val (.slice .str) xs)) (some 7) (.own n)) (some 2) (.own n)) :=
 ⟨_, _, _, _, _, _, rfl, ⟨rfl, rfl, rfl⟩, ⟨rfl, rfl, rfl⟩, by
  constructor
  all_goals intros
  all_goals kernel_rfl⟩
theorem p68 : OK P68 := by
 obtain ⟨R0, C, R, id, o1, o2, hb, h1, h2, hF⟩ := cf68
 exact ⟨Tryz.call68, clone_fn sound mix Tryz.func68 hb h1 h2 ⟨_, Tryz.underlying23⟩ hF⟩
noncomputable def B70 : List (DVal E.T) → St E.T → Tree (Res E.T × St E.T) := cloneF E (.named 0)
def P70 : SP := (70, .full [.data (.slice (.named 0))] false B70)
theorem cf70 : ∃ R0 C R id o1 o2, Tryz.f70.body = some (.seq R0 (.seq (.seq (.region id #[o1, o2] false) C) R)) ∧ (o1.op = .move (.tmp 0) ∧ o1.dst = some 3 ∧ o1.guard = none) ∧ (o2.op = .binOp .eql 24 (.tmp 3) (.const (.slice none 0 0)) 24 ∧ o2.dst = some 4 ∧ o2.guard = none) ∧
  CloneFacts E Tryz.f70 (.named 0) R0 C R (fun xs => put E (frame E Tryz.f70 [.val (.slice (.named 0)) xs]) (some 2) .nils) (fun xs => put E (put E (put E (put E (frame E Tryz.f70 [.val (.slice (.named 0)) xs]) (some 2) .nils) (some 3) (.val (.slice (.named 0)) xs)) (some 4) (.val .bool true)) (some 2) .nils) (fun xs n => put E (put E (put E (put E (put E (put E (put E (frame E Tryz.f70 [.val (.slice (.named 0)) xs]) (some 2) .nils) (some 3) (.val (.slice (.named 0)) xs)) (some 4) (.val .bool false)) (some 5) .nils) (some 6) (.val (.slice (.named 0)) xs)) (some 7) (.own n)) (some 2) (.own n)) :=
 ⟨_, _, _, _, _, _, rfl, ⟨rfl, rfl, rfl⟩, ⟨rfl, rfl, rfl⟩, by
  constructor
  all_goals intros
  all_goals kernel_rfl⟩
theorem p70 : OK P70 := by
 obtain ⟨R0, C, R, id, o1, o2, hb, h1, h2, hF⟩ := cf70
 exact ⟨Tryz.call70, clone_fn sound mix Tryz.func70 hb h1 h2 ⟨_, Tryz.underlying24⟩ hF⟩
def x120 : GFn E := { S := [P68, P70], keep := true, i := ⟨[.v (.named 1)], [], fun d => .tot (.ret (N.disk_twin d)) fun x_ => .ret (.ret [.agg 1 [.own 2, .own 3, .iv d.Arm, .bv d.Down]], [.dead, .dead, .al .str d.Last, .al (.named 0) d.Wait])⟩ }
theorem y120 : InsOk Tryz.prog 120 x120.ins := goF Tryz.func120 rfl ⟨p68, p70, trivial⟩ trivial trivial (fun _ => by show _ = _; kernel_rfl)
def P120 : SP := (120, .full [.data (.named 1)] false (fullF [x120.ins]))
theorem p120 : OK P120 := fullI_ok ok Tryz.call120 ⟨y120, trivial⟩
def x121 : GFn E := { i := ⟨[.v (.named 1), .iv], [], fun d i => .tot (N.disk_there_t d i) fun x_ => .ret (.ret [.bv x_], [])⟩ }
theorem y121 : InsOk Tryz.prog 121 x121.ins := go Tryz.func121 rfl trivial trivial trivial (fun _ _ => by show _ = _; kernel_rfl)
def P121 : SP := (121, .pure [(.named 1), .i6] (pureF [x121.ins]))
theorem p121 : OK P121 := pureI_ok Tryz.call121 ⟨y121, trivial⟩
def x65 : GFn E := { S := [P120, P121], i := stdI [(.named 1), .i6, .str] [(.named 1), .bool] N.disk_Write_t }
theorem y65 : InsOk Tryz.prog 65 x65.ins := go Tryz.func65 rfl ⟨p120, p121, trivial⟩ trivial trivial (fun _ _ _ => by show _ = _; kernel_rfl)
def P65 : SP := (65, .pure [(.named 1), .i6, .str] (pureF [x65.ins]))
theorem p65 : OK P65 := pureI_ok Tryz.call65 ⟨y65, trivial⟩
def x122 : GFn E := { i := ⟨[.ptr 0 [], .v (.named 0), .iv], [.bx (.agg 24 [.agg 1 [.own 1, .own 2, .iv, .v .bool]]), .al .str, .al (.named 0)], fun p n a b c d => .opt (N.disk_lasting_lasts_t p n (N.Tdisk_lasting.mk (N.TDisk.mk c d a b))) fun x_ => .ret (.ret [], [.bx (g24 x_ 1 2), .al .str x_.d.Last, .al (.named 0) x_.d.Wait])⟩ }
theorem y122 : InsOk Tryz.prog 122 x122.ins := goF Tryz.func122 rfl trivial trivial trivial (fun _ _ _ _ _ _ => by show _ = _; kernel_rfl)
def P122 : SP := (122, .full [.ptr, .data (.named 0), .data .i6] false (fullF [x122.ins]))
theorem p122 : OK P122 := fullI_ok ok Tryz.call122 ⟨y122, trivial⟩
def x66 : GFn E := { S := [P120, P122], ls := [{ ks := [2, 4, 18, 19, 20], rs := [2, 3, 4], ins := some [⟨[.ptr 1 [], .ptr 6 [], .v (.slice (.named 0)), .iv, .iv], [.bx (.v (.named 1)), .bx (.agg 1 [.nils, .nils, .iv, .v .bool]), .dead, .dead, .al .str, .al (.named 0), .bx (.agg 24 [.agg 1 [.own 4, .own 5, .iv, .v .bool]])], fun a b c o0 d e f g h j => ⟨(c, (N.TDisk.mk [] [] d e), (N.Tdisk_lasting.mk (N.TDisk.mk f g h j))), N.disk_Flush_s0t a b o0, fun v_ => ([.ptr 1 [], .ptr 6 [], .val (.slice (.named 0)) a, .iv b, .iv v_.1], [.bx (.nv 1 o0), .bx (g1 v_.2.1), .dead, .dead, .al .str v_.2.2.d.Last, .al (.named 0) v_.2.2.d.Wait, .bx (g24 v_.2.2 4 5)]), fun x_ => .ret (.exit 0, [.ptr 1 [], .undef, .ptr 6 []], [.bx (.nv 1 o0), .bx (g1 x_.1), .dead, .dead, .al .str x_.2.d.Last, .al (.named 0) x_.2.d.Wait, .bx (g24 x_.2 4 5)])⟩⟩] }], i := stdI [(.named 1)] [(.named 1), .bool] (N.disk_Flush_t N.fuel) }
theorem y66 : InsOk Tryz.prog 66 x66.ins := go Tryz.func66 rfl ⟨p120, p122, trivial⟩ trivial ⟨⟨fun _ _ _ _ _ _ _ _ _ _ => ⟨rfl, fun _ => by show _ = _; kernel_rfl⟩, trivial⟩, trivial⟩ (fun _ => by show _ = _; kernel_rfl)
def P66 : SP := (66, .pure [(.named 1)] (pureF [x66.ins]))
theorem p66 : OK P66 := pureI_ok Tryz.call66 ⟨y66, trivial⟩
def x30 : GFn E := { S := [P61, P62, P63, P64, P65, P66], ls := [{ ks := [0, 1, 2, 9, 10, 11], rs := [0, 1, 2], ins := some [⟨[.ptr 0 [], .ptr 1 [], .ptr 2 [], .v (.slice .str), .iv, .iv], [.bx (.agg 5 [.agg 1 [.nils, .nils, .iv, .v .bool], .agg 4 [.nils, .nils, .iv]]), .bx (.v (.named 4)), .bx (.v (.named 1))], fun t9 a b c e f s d => ⟨(b, (N.TStore.mk (N.TDisk.mk [] [] c e) (N.TState.mk [] [] f)), d), N.store_Make_s0t t9 a s, fun v_ => ([.ptr 0 [], .ptr 1 [], .ptr 2 [], .val (.slice .str) t9, .iv a, .iv v_.1], [.bx (.agg 5 [.agg 1 [.nils, .nils, .iv v_.2.1.D.Arm, .bv v_.2.1.D.Down], .agg 4 [.nils, .nils, .iv v_.2.1.S.Epoch]]), .bx (.nv 4 s), .bx (.nv 1 v_.2.2)]), fun x_ => .ret (.exit 0, [.ptr 0 [], .ptr 1 [], .ptr 2 []], [.bx (.agg 5 [.agg 1 [.nils, .nils, .iv x_.1.D.Arm, .bv x_.1.D.Down], .agg 4 [.nils, .nils, .iv x_.1.S.Epoch]]), .bx (.nv 4 s), .bx (.nv 1 x_.2)])⟩⟩] }], i := stdI [] [(.named 5)] (N.store_Make_t N.fuel) }
theorem y30 : InsOk Tryz.prog 30 x30.ins := go Tryz.func30 rfl ⟨p61, p62, p63, p64, p65, p66, trivial⟩ trivial ⟨⟨fun _ _ _ _ _ _ _ _ => ⟨rfl, fun _ => by show _ = _; kernel_rfl⟩, trivial⟩, trivial⟩ (by show _ = _; kernel_rfl)
def P30 : SP := (30, .pure [] (pureF [x30.ins]))
theorem p30 : OK P30 := pureI_ok Tryz.call30 ⟨y30, trivial⟩
def x29 : GFn E := { ls := [{ ks := [2, 4, 5, 13, 14, 15], rs := [2, 4, 5], pro := [.pro (.obj 2) [2] .i6], ins := some [⟨[.ptr 0 [], .ptr 1 [], .ptr 2 [], .v (.slice (.named 3)), .iv, .iv], [.bx (.v (.named 5)), .bx (s10_2), .bx (.agg 10 [.v (.named 5), .agg 8 [.nils, .nils], .own 3, .nils, .iv, .iv, .iv, .v .bool, .iv]), .al .i6], fun a b c st d e f g h j k l m n o p q r s => ⟨(c, (N.TServer.mk (N.TStore.mk (N.TDisk.mk [] [] d e) (N.TState.mk [] [] f)) (N.TDesk.mk [] []) [] [] g h j k l), (N.TServer.mk m (N.TDesk.mk [] []) s [] n o p q r)), N.server_fresh_s0t a b st, fun v_ => ([.ptr 0 [], .ptr 1 [], .ptr 2 [], .val (.slice (.named 3)) a, .iv b, .iv v_.1], [.bx (.nv 5 st), .bx (g10 v_.2.1), .bx (g10_3 v_.2.2 3), .al .i6 v_.2.2.Seen]), fun x_ => .ret (.exit 0, [.ptr 0 [], .ptr 1 [], .ptr 2 []], [.bx (.nv 5 st), .bx (g10 x_.1), .bx (g10_3 x_.2 3), .al .i6 x_.2.Seen])⟩⟩] }], i := stdI [(.named 5), .i6] [(.named 10)] (N.server_fresh_t N.fuel) }
theorem y29 : InsOk Tryz.prog 29 x29.ins := go Tryz.func29 rfl trivial trivial ⟨⟨fun _ _ _ _ _ _ _ _ _ _ _ _ _ _ _ _ _ _ _ => ⟨rfl, fun _ => by show _ = _; kernel_rfl⟩, trivial⟩, trivial⟩ (fun _ _ => by show _ = _; kernel_rfl)
def P29 : SP := (29, .pure [(.named 5), .i6] (pureF [x29.ins]))
theorem p29 : OK P29 := pureI_ok Tryz.call29 ⟨y29, trivial⟩
def x14 : GFn E := { S := [P29, P30], i := stdI [.i6] [(.named 10)] (N.server_Start_t N.fuel) }
theorem y14 : InsOk Tryz.prog 14 x14.ins := go Tryz.func14 rfl ⟨p29, p30, trivial⟩ trivial trivial (fun _ => by show _ = _; kernel_rfl)
def P14 : SP := (14, .pure [.i6] (pureF [x14.ins]))
theorem p14 : OK P14 := pureI_ok Tryz.call14 ⟨y14, trivial⟩
def x15 : GFn E := { i := ⟨[.iv], [], fun a => .tot (.ret (N.client_New a)) fun x_ => .ret (.ret [.nv 15 x_], [])⟩ }
theorem y15 : InsOk Tryz.prog 15 x15.ins := go Tryz.func15 rfl trivial trivial trivial (fun _ => by show _ = _; kernel_rfl)
def P15 : SP := (15, .pure [.i6] (pureF [x15.ins]))
theorem p15 : OK P15 := pureI_ok Tryz.call15 ⟨y15, trivial⟩
def x6 : GFn E := { S := [P14, P15], ls := [{ ks := [0, 1, 5], rs := [0, 1], pro := [.pro (.obj 1) [2] (.named 15)], ins := some [⟨[.ptr 0 [], .ptr 1 [], .iv], [.bx (.agg 17 [.iv, .agg 10 [.agg 5 [.agg 1 [.nils, .nils, .iv, .v .bool], .agg 4 [.nils, .nils, .iv]], .agg 8 [.nils, .nils], .nils, .nils, .iv, .iv, .iv, .v .bool, .iv], .nils, .nils]), .bx (.agg 17 [.iv, .v (.named 10), .own 2, .nils]), .al (.named 15)], fun t5 a b c d e f g h j k l m => ⟨(t5, (N.TWorld.mk a (N.TServer.mk (N.TStore.mk (N.TDisk.mk [] [] b c) (N.TState.mk [] [] d)) (N.TDesk.mk [] []) [] [] e f g h j) [] []), (N.TWorld.mk k l m [])), N.world_New_s0t, fun v_ => ([.ptr 0 [], .ptr 1 [], .iv v_.1], [.bx (g17 v_.2.1), .bx (.agg 17 [.iv v_.2.2.Real, .nv 10 v_.2.2.S, .own 2, .nils]), .al (.named 15) v_.2.2.Clients]), fun x_ => .ret (.exit 0, [.ptr 0 [], .ptr 1 []], [.bx (g17 x_.1), .bx (.agg 17 [.iv x_.2.Real, .nv 10 x_.2.S, .own 2, .nils]), .al (.named 15) x_.2.Clients])⟩⟩] }], i := stdI [] [(.named 17)] (N.world_New_t N.fuel) }
theorem y6 : InsOk Tryz.prog 6 x6.ins := go Tryz.func6 rfl ⟨p14, p15, trivial⟩ trivial ⟨⟨fun _ _ _ _ _ _ _ _ _ _ _ _ _ => ⟨rfl, fun _ => by show _ = _; kernel_rfl⟩, trivial⟩, trivial⟩ (by show _ = _; kernel_rfl)
def P6 : SP := (6, .pure [] (pureF [x6.ins]))
theorem p6 : OK P6 := pureI_ok Tryz.call6 ⟨y6, trivial⟩
noncomputable def B67 : List (DVal E.T) → St E.T → Tree (Res E.T × St E.T) := cloneF E (.named 12)
def P67 : SP := (67, .full [.data (.slice (.named 12))] false B67)
theorem cf67 : ∃ R0 C R id o1 o2, Tryz.f67.body = some (.seq R0 (.seq (.seq (.region id #[o1, o2] false) C) R)) ∧ (o1.op = .move (.tmp 0) ∧ o1.dst = some 3 ∧ o1.guard = none) ∧ (o2.op = .binOp .eql 55 (.tmp 3) (.const (.slice none 0 0)) 55 ∧ o2.dst = some 4 ∧ o2.guard = none) ∧
  CloneFacts E Tryz.f67 (.named 12) R0 C R (fun xs => put E (frame E Tryz.f67 [.val (.slice (.named 12)) xs]) (some 2) .nils) (fun xs => put E (put E (put E (put E (frame E Tryz.f67 [.val (.slice (.named 12)) xs]) (some 2) .nils) (some 3) (.val (.slice (.named 12)) xs)) (some 4) (.val .bool true)) (some 2) .nils) (fun xs n => put E (put E (put E (put E (put E (put E (put E (frame E Tryz.f67 [.val (.slice (.named 12)) xs]) (some 2) .nils) (some 3) (.val (.slice (.named 12)) xs)) (some 4) (.val .bool false)) (some 5) .nils) (some 6) (.val (.slice (.named 12)) xs)) (some 7) (.own n)) (some 2) (.own n)) :=
 ⟨_, _, _, _, _, _, rfl, ⟨rfl, rfl, rfl⟩, ⟨rfl, rfl, rfl⟩, by
  constructor
  all_goals intros
  all_goals kernel_rfl⟩
theorem p67 : OK P67 := by
 obtain ⟨R0, C, R, id, o1, o2, hb, h1, h2, hF⟩ := cf67
 exact ⟨Tryz.call67, clone_fn sound mix Tryz.func67 hb h1 h2 ⟨_, Tryz.underlying55⟩ hF⟩
noncomputable def B69 : List (DVal E.T) → St E.T → Tree (Res E.T × St E.T) := cloneF E (.named 11)
def P69 : SP := (69, .full [.data (.slice (.named 11))] false B69)
theorem cf69 : ∃ R0 C R id o1 o2, Tryz.f69.body = some (.seq R0 (.seq (.seq (.region id #[o1, o2] false) C) R)) ∧ (o1.op = .move (.tmp 0) ∧ o1.dst = some 3 ∧ o1.guard = none) ∧ (o2.op = .binOp .eql 56 (.tmp 3) (.const (.slice none 0 0)) 56 ∧ o2.dst = some 4 ∧ o2.guard = none) ∧
  CloneFacts E Tryz.f69 (.named 11) R0 C R (fun xs => put E (frame E Tryz.f69 [.val (.slice (.named 11)) xs]) (some 2) .nils) (fun xs => put E (put E (put E (put E (frame E Tryz.f69 [.val (.slice (.named 11)) xs]) (some 2) .nils) (some 3) (.val (.slice (.named 11)) xs)) (some 4) (.val .bool true)) (some 2) .nils) (fun xs n => put E (put E (put E (put E (put E (put E (put E (frame E Tryz.f69 [.val (.slice (.named 11)) xs]) (some 2) .nils) (some 3) (.val (.slice (.named 11)) xs)) (some 4) (.val .bool false)) (some 5) .nils) (some 6) (.val (.slice (.named 11)) xs)) (some 7) (.own n)) (some 2) (.own n)) :=
 ⟨_, _, _, _, _, _, rfl, ⟨rfl, rfl, rfl⟩, ⟨rfl, rfl, rfl⟩, by
  constructor
  all_goals intros
  all_goals kernel_rfl⟩
theorem p69 : OK P69 := by
 obtain ⟨R0, C, R, id, o1, o2, hb, h1, h2, hF⟩ := cf69
 exact ⟨Tryz.call69, clone_fn sound mix Tryz.func69 hb h1 h2 ⟨_, Tryz.underlying56⟩ hF⟩
def x33 : GFn E := { S := [P67, P68, P69], ls := [{ ks := [1, 2, 14, 15, 16], rs := [1, 2], ins := some [⟨[.ptr 0 [], .ptr 1 [], .own 2, .iv, .iv], [.bx (.agg 15 [.iv, .iv, .iv, .iv, .own 2, .own 3, .v (.named 14), .iv, .iv, .iv]), .bx (.agg 15 [.iv, .iv, .iv, .iv, .nils, .nils, .agg 14 [.v .bool, .agg 13 [.iv, .iv, .iv, .iv, .v .str, .iv, .iv, .nils], .iv, .iv], .iv, .iv, .iv]), .al (.named 12), .al .str], fun a b c d e f g h j k l m n o p q r s t u v w x y z aa ab ac ad => ⟨(b, (N.TClient.mk c d e f ac ad g h j k), (N.TClient.mk l m n o [] [] (N.TOut.mk p (N.TAsk.mk q r s t u v w []) x y) z aa ab)), N.world_twin_s0t a, fun v_ => ([.ptr 0 [], .ptr 1 [], .own 2, .iv a, .iv v_.1], [.bx (.agg 15 [.iv v_.2.1.ID, .iv v_.2.1.Now, .iv v_.2.1.Epoch, .iv v_.2.1.Seq, .own 2, .own 3, .nv 14 v_.2.1.Out, .iv v_.2.1.Bad, .iv v_.2.1.Hits, .iv v_.2.1.Asks]), .bx (g15 v_.2.2), .al (.named 12) v_.2.1.Files, .al .str v_.2.1.Names]), fun x_ => .ret (.exit 0, [.ptr 0 [], .ptr 1 []], [.bx (.agg 15 [.iv x_.1.ID, .iv x_.1.Now, .iv x_.1.Epoch, .iv x_.1.Seq, .own 2, .own 3, .nv 14 x_.1.Out, .iv x_.1.Bad, .iv x_.1.Hits, .iv x_.1.Asks]), .bx (g15 x_.2), .al (.named 12) x_.1.Files, .al .str x_.1.Names])⟩⟩] }], i := stdI [(.named 15)] [(.named 15)] (N.world_twin_t N.fuel) }
theorem y33 : InsOk Tryz.prog 33 x33.ins := go Tryz.func33 rfl ⟨p67, p68, p69, trivial⟩ trivial ⟨⟨fun _ _ _ _ _ _ _ _ _ _ _ _ _ _ _ _ _ _ _ _ _ _ _ _ _ _ _ _ _ => ⟨rfl, fun _ => by show _ = _; kernel_rfl⟩, trivial⟩, trivial⟩ (fun _ => by show _ = _; kernel_rfl)
def P33 : SP := (33, .pure [(.named 15)] (pureF [x33.ins]))
theorem p33 : OK P33 := pureI_ok Tryz.call33 ⟨y33, trivial⟩
noncomputable def B71 : List (DVal E.T) → St E.T → Tree (Res E.T × St E.T) := cloneF E (.named 2)
def P71 : SP := (71, .full [.data (.slice (.named 2))] false B71)
theorem cf71 : ∃ R0 C R id o1 o2, Tryz.f71.body = some (.seq R0 (.seq (.seq (.region id #[o1, o2] false) C) R)) ∧ (o1.op = .move (.tmp 0) ∧ o1.dst = some 3 ∧ o1.guard = none) ∧ (o2.op = .binOp .eql 27 (.tmp 3) (.const (.slice none 0 0)) 27 ∧ o2.dst = some 4 ∧ o2.guard = none) ∧
  CloneFacts E Tryz.f71 (.named 2) R0 C R (fun xs => put E (frame E Tryz.f71 [.val (.slice (.named 2)) xs]) (some 2) .nils) (fun xs => put E (put E (put E (put E (frame E Tryz.f71 [.val (.slice (.named 2)) xs]) (some 2) .nils) (some 3) (.val (.slice (.named 2)) xs)) (some 4) (.val .bool true)) (some 2) .nils) (fun xs n => put E (put E (put E (put E (put E (put E (put E (frame E Tryz.f71 [.val (.slice (.named 2)) xs]) (some 2) .nils) (some 3) (.val (.slice (.named 2)) xs)) (some 4) (.val .bool false)) (some 5) .nils) (some 6) (.val (.slice (.named 2)) xs)) (some 7) (.own n)) (some 2) (.own n)) :=
 ⟨_, _, _, _, _, _, rfl, ⟨rfl, rfl, rfl⟩, ⟨rfl, rfl, rfl⟩, by
  constructor
  all_goals intros
  all_goals kernel_rfl⟩
theorem p71 : OK P71 := by
 obtain ⟨R0, C, R, id, o1, o2, hb, h1, h2, hF⟩ := cf71
 exact ⟨Tryz.call71, clone_fn sound mix Tryz.func71 hb h1 h2 ⟨_, Tryz.underlying27⟩ hF⟩
noncomputable def B72 : List (DVal E.T) → St E.T → Tree (Res E.T × St E.T) := cloneF E (.named 3)
def P72 : SP := (72, .full [.data (.slice (.named 3))] false B72)
theorem cf72 : ∃ R0 C R id o1 o2, Tryz.f72.body = some (.seq R0 (.seq (.seq (.region id #[o1, o2] false) C) R)) ∧ (o1.op = .move (.tmp 0) ∧ o1.dst = some 3 ∧ o1.guard = none) ∧ (o2.op = .binOp .eql 28 (.tmp 3) (.const (.slice none 0 0)) 28 ∧ o2.dst = some 4 ∧ o2.guard = none) ∧
  CloneFacts E Tryz.f72 (.named 3) R0 C R (fun xs => put E (frame E Tryz.f72 [.val (.slice (.named 3)) xs]) (some 2) .nils) (fun xs => put E (put E (put E (put E (frame E Tryz.f72 [.val (.slice (.named 3)) xs]) (some 2) .nils) (some 3) (.val (.slice (.named 3)) xs)) (some 4) (.val .bool true)) (some 2) .nils) (fun xs n => put E (put E (put E (put E (put E (put E (put E (frame E Tryz.f72 [.val (.slice (.named 3)) xs]) (some 2) .nils) (some 3) (.val (.slice (.named 3)) xs)) (some 4) (.val .bool false)) (some 5) .nils) (some 6) (.val (.slice (.named 3)) xs)) (some 7) (.own n)) (some 2) (.own n)) :=
 ⟨_, _, _, _, _, _, rfl, ⟨rfl, rfl, rfl⟩, ⟨rfl, rfl, rfl⟩, by
  constructor
  all_goals intros
  all_goals kernel_rfl⟩
theorem p72 : OK P72 := by
 obtain ⟨R0, C, R, id, o1, o2, hb, h1, h2, hF⟩ := cf72
 exact ⟨Tryz.call72, clone_fn sound mix Tryz.func72 hb h1 h2 ⟨_, Tryz.underlying28⟩ hF⟩
noncomputable def B73 : List (DVal E.T) → St E.T → Tree (Res E.T × St E.T) := cloneF E (.named 6)
def P73 : SP := (73, .full [.data (.slice (.named 6))] false B73)
theorem cf73 : ∃ R0 C R id o1 o2, Tryz.f73.body = some (.seq R0 (.seq (.seq (.region id #[o1, o2] false) C) R)) ∧ (o1.op = .move (.tmp 0) ∧ o1.dst = some 3 ∧ o1.guard = none) ∧ (o2.op = .binOp .eql 33 (.tmp 3) (.const (.slice none 0 0)) 33 ∧ o2.dst = some 4 ∧ o2.guard = none) ∧
  CloneFacts E Tryz.f73 (.named 6) R0 C R (fun xs => put E (frame E Tryz.f73 [.val (.slice (.named 6)) xs]) (some 2) .nils) (fun xs => put E (put E (put E (put E (frame E Tryz.f73 [.val (.slice (.named 6)) xs]) (some 2) .nils) (some 3) (.val (.slice (.named 6)) xs)) (some 4) (.val .bool true)) (some 2) .nils) (fun xs n => put E (put E (put E (put E (put E (put E (put E (frame E Tryz.f73 [.val (.slice (.named 6)) xs]) (some 2) .nils) (some 3) (.val (.slice (.named 6)) xs)) (some 4) (.val .bool false)) (some 5) .nils) (some 6) (.val (.slice (.named 6)) xs)) (some 7) (.own n)) (some 2) (.own n)) :=
 ⟨_, _, _, _, _, _, rfl, ⟨rfl, rfl, rfl⟩, ⟨rfl, rfl, rfl⟩, by
  constructor
  all_goals intros
  all_goals kernel_rfl⟩
theorem p73 : OK P73 := by
 obtain ⟨R0, C, R, id, o1, o2, hb, h1, h2, hF⟩ := cf73
 exact ⟨Tryz.call73, clone_fn sound mix Tryz.func73 hb h1 h2 ⟨_, Tryz.underlying33⟩ hF⟩
noncomputable def B74 : List (DVal E.T) → St E.T → Tree (Res E.T × St E.T) := cloneF E (.named 7)
def P74 : SP := (74, .full [.data (.slice (.named 7))] false B74)
theorem cf74 : ∃ R0 C R id o1 o2, Tryz.f74.body = some (.seq R0 (.seq (.seq (.region id #[o1, o2] false) C) R)) ∧ (o1.op = .move (.tmp 0) ∧ o1.dst = some 3 ∧ o1.guard = none) ∧ (o2.op = .binOp .eql 34 (.tmp 3) (.const (.slice none 0 0)) 34 ∧ o2.dst = some 4 ∧ o2.guard = none) ∧
  CloneFacts E Tryz.f74 (.named 7) R0 C R (fun xs => put E (frame E Tryz.f74 [.val (.slice (.named 7)) xs]) (some 2) .nils) (fun xs => put E (put E (put E (put E (frame E Tryz.f74 [.val (.slice (.named 7)) xs]) (some 2) .nils) (some 3) (.val (.slice (.named 7)) xs)) (some 4) (.val .bool true)) (some 2) .nils) (fun xs n => put E (put E (put E (put E (put E (put E (put E (frame E Tryz.f74 [.val (.slice (.named 7)) xs]) (some 2) .nils) (some 3) (.val (.slice (.named 7)) xs)) (some 4) (.val .bool false)) (some 5) .nils) (some 6) (.val (.slice (.named 7)) xs)) (some 7) (.own n)) (some 2) (.own n)) :=
 ⟨_, _, _, _, _, _, rfl, ⟨rfl, rfl, rfl⟩, ⟨rfl, rfl, rfl⟩, by
  constructor
  all_goals intros
  all_goals kernel_rfl⟩
theorem p74 : OK P74 := by
 obtain ⟨R0, C, R, id, o1, o2, hb, h1, h2, hF⟩ := cf74
 exact ⟨Tryz.call74, clone_fn sound mix Tryz.func74 hb h1 h2 ⟨_, Tryz.underlying34⟩ hF⟩
noncomputable def B75 : List (DVal E.T) → St E.T → Tree (Res E.T × St E.T) := cloneF E (.int .i64)
def P75 : SP := (75, .full [.data (.slice .i6)] false B75)
theorem cf75 : ∃ R0 C R id o1 o2, Tryz.f75.body = some (.seq R0 (.seq (.seq (.region id #[o1, o2] false) C) R)) ∧ (o1.op = .move (.tmp 0) ∧ o1.dst = some 3 ∧ o1.guard = none) ∧ (o2.op = .binOp .eql 37 (.tmp 3) (.const (.slice none 0 0)) 37 ∧ o2.dst = some 4 ∧ o2.guard = none) ∧
  CloneFacts E Tryz.f75 (.int .i64) R0 C R (fun xs => put E (frame E Tryz.f75 [.val (.slice (.int .i64)) xs]) (some 2) .nils) (fun xs => put E (put E (put E (put E (frame E Tryz.f75 [.val (.slice (.int .i64)) xs]) (some 2) .nils) (some 3) (.val (.slice (.int .i64)) xs)) (some 4) (.val .bool true)) (some 2) .nils) (fun xs n => put E (put E (put E (put E (put E (put E (put E (frame E Tryz.f75 [.val (.slice (.int .i64)) xs]) (some 2) .nils) (some 3) (.val (.slice (.int .i64)) xs)) (some 4) (.val .bool false)) (some 5) .nils) (some 6) (.val (.slice (.int .i64)) xs)) (some 7) (.own n)) (some 2) (.own n)) :=
 ⟨_, _, _, _, _, _, rfl, ⟨rfl, rfl, rfl⟩, ⟨rfl, rfl, rfl⟩, by
  constructor
  all_goals intros
  all_goals kernel_rfl⟩
theorem p75 : OK P75 := by
 obtain ⟨R0, C, R, id, o1, o2, hb, h1, h2, hF⟩ := cf75
 exact ⟨Tryz.call75, clone_fn sound mix Tryz.func75 hb h1 h2 ⟨_, Tryz.underlying37⟩ hF⟩
noncomputable def B76 : List (DVal E.T) → St E.T → Tree (Res E.T × St E.T) := cloneF E (.named 9)
def P76 : SP := (76, .full [.data (.slice (.named 9))] false B76)
theorem cf76 : ∃ R0 C R id o1 o2, Tryz.f76.body = some (.seq R0 (.seq (.seq (.region id #[o1, o2] false) C) R)) ∧ (o1.op = .move (.tmp 0) ∧ o1.dst = some 3 ∧ o1.guard = none) ∧ (o2.op = .binOp .eql 38 (.tmp 3) (.const (.slice none 0 0)) 38 ∧ o2.dst = some 4 ∧ o2.guard = none) ∧
  CloneFacts E Tryz.f76 (.named 9) R0 C R (fun xs => put E (frame E Tryz.f76 [.val (.slice (.named 9)) xs]) (some 2) .nils) (fun xs => put E (put E (put E (put E (frame E Tryz.f76 [.val (.slice (.named 9)) xs]) (some 2) .nils) (some 3) (.val (.slice (.named 9)) xs)) (some 4) (.val .bool true)) (some 2) .nils) (fun xs n => put E (put E (put E (put E (put E (put E (put E (frame E Tryz.f76 [.val (.slice (.named 9)) xs]) (some 2) .nils) (some 3) (.val (.slice (.named 9)) xs)) (some 4) (.val .bool false)) (some 5) .nils) (some 6) (.val (.slice (.named 9)) xs)) (some 7) (.own n)) (some 2) (.own n)) :=
 ⟨_, _, _, _, _, _, rfl, ⟨rfl, rfl, rfl⟩, ⟨rfl, rfl, rfl⟩, by
  constructor
  all_goals intros
  all_goals kernel_rfl⟩
theorem p76 : OK P76 := by
 obtain ⟨R0, C, R, id, o1, o2, hb, h1, h2, hF⟩ := cf76
 exact ⟨Tryz.call76, clone_fn sound mix Tryz.func76 hb h1 h2 ⟨_, Tryz.underlying38⟩ hF⟩
def x34 : GFn E := { S := [P68, P70, P71, P72, P73, P74, P75, P76], i := ⟨[.v (.named 10)], [], fun s => .tot (.ret (N.world_served s)) fun x_ => .ret (.ret [.nv 10 s], [])⟩ }
theorem y34 : InsOk Tryz.prog 34 x34.ins := go Tryz.func34 rfl ⟨p68, p70, p71, p72, p73, p74, p75, p76, trivial⟩ trivial trivial (fun _ => by show _ = _; kernel_rfl)
def P34 : SP := (34, .pure [(.named 10)] (pureF [x34.ins]))
theorem p34 : OK P34 := pureI_ok Tryz.call34 ⟨y34, trivial⟩
noncomputable def B31 : List (DVal E.T) → St E.T → Tree (Res E.T × St E.T) := cloneF E (.named 16)
def P31 : SP := (31, .full [.data (.slice (.named 16))] false B31)
theorem cf31 : ∃ R0 C R id o1 o2, Tryz.f31.body = some (.seq R0 (.seq (.seq (.region id #[o1, o2] false) C) R)) ∧ (o1.op = .move (.tmp 0) ∧ o1.dst = some 3 ∧ o1.guard = none) ∧ (o2.op = .binOp .eql 42 (.tmp 3) (.const (.slice none 0 0)) 42 ∧ o2.dst = some 4 ∧ o2.guard = none) ∧
  CloneFacts E Tryz.f31 (.named 16) R0 C R (fun xs => put E (frame E Tryz.f31 [.val (.slice (.named 16)) xs]) (some 2) .nils) (fun xs => put E (put E (put E (put E (frame E Tryz.f31 [.val (.slice (.named 16)) xs]) (some 2) .nils) (some 3) (.val (.slice (.named 16)) xs)) (some 4) (.val .bool true)) (some 2) .nils) (fun xs n => put E (put E (put E (put E (put E (put E (put E (frame E Tryz.f31 [.val (.slice (.named 16)) xs]) (some 2) .nils) (some 3) (.val (.slice (.named 16)) xs)) (some 4) (.val .bool false)) (some 5) .nils) (some 6) (.val (.slice (.named 16)) xs)) (some 7) (.own n)) (some 2) (.own n)) :=
 ⟨_, _, _, _, _, _, rfl, ⟨rfl, rfl, rfl⟩, ⟨rfl, rfl, rfl⟩, by
  constructor
  all_goals intros
  all_goals kernel_rfl⟩
theorem p31 : OK P31 := by
 obtain ⟨R0, C, R, id, o1, o2, hb, h1, h2, hF⟩ := cf31
 exact ⟨Tryz.call31, clone_fn sound mix Tryz.func31 hb h1 h2 ⟨_, Tryz.underlying42⟩ hF⟩
noncomputable def B32 : List (DVal E.T) → St E.T → Tree (Res E.T × St E.T) := cloneF E (.named 15)
def P32 : SP := (32, .full [.data (.slice (.named 15))] false B32)
theorem cf32 : ∃ R0 C R id o1 o2, Tryz.f32.body = some (.seq R0 (.seq (.seq (.region id #[o1, o2] false) C) R)) ∧ (o1.op = .move (.tmp 0) ∧ o1.dst = some 3 ∧ o1.guard = none) ∧ (o2.op = .binOp .eql 41 (.tmp 3) (.const (.slice none 0 0)) 41 ∧ o2.dst = some 4 ∧ o2.guard = none) ∧
  CloneFacts E Tryz.f32 (.named 15) R0 C R (fun xs => put E (frame E Tryz.f32 [.val (.slice (.named 15)) xs]) (some 2) .nils) (fun xs => put E (put E (put E (put E (frame E Tryz.f32 [.val (.slice (.named 15)) xs]) (some 2) .nils) (some 3) (.val (.slice (.named 15)) xs)) (some 4) (.val .bool true)) (some 2) .nils) (fun xs n => put E (put E (put E (put E (put E (put E (put E (frame E Tryz.f32 [.val (.slice (.named 15)) xs]) (some 2) .nils) (some 3) (.val (.slice (.named 15)) xs)) (some 4) (.val .bool false)) (some 5) .nils) (some 6) (.val (.slice (.named 15)) xs)) (some 7) (.own n)) (some 2) (.own n)) :=
 ⟨_, _, _, _, _, _, rfl, ⟨rfl, rfl, rfl⟩, ⟨rfl, rfl, rfl⟩, by
  constructor
  all_goals intros
  all_goals kernel_rfl⟩
theorem p32 : OK P32 := by
 obtain ⟨R0, C, R, id, o1, o2, hb, h1, h2, hF⟩ := cf32
 exact ⟨Tryz.call32, clone_fn sound mix Tryz.func32 hb h1 h2 ⟨_, Tryz.underlying41⟩ hF⟩
def x16 : GFn E := { S := [P31, P32, P33, P34], ls := [{ ks := [1, 14, 15, 16], rs := [1, 2], ins := some [⟨[.ptr 0 [], .own 2, .iv, .iv], [.bx (.agg 17 [.iv, .v (.named 10), .own 2, .own 1]), .al (.named 16), .al (.named 15)], fun a b c d e f => ⟨(b, (N.TWorld.mk c d f e)), N.world_of_s0t N.fuel a, fun v_ => ([.ptr 0 [], .own 2, .iv a, .iv v_.1], [.bx (.agg 17 [.iv v_.2.Real, .nv 10 v_.2.S, .own 2, .own 1]), .al (.named 16) v_.2.Fly, .al (.named 15) v_.2.Clients]), fun x_ => .ret (.exit 0, [.ptr 0 [], .undef], [.bx (.agg 17 [.iv x_.Real, .nv 10 x_.S, .own 2, .own 1]), .al (.named 16) x_.Fly, .al (.named 15) x_.Clients])⟩⟩] }], keep := true, i := ⟨[.v (.named 17)], [], fun w => .opt (N.world_of_t N.fuel w) fun x_ => .ret (.ret [.ptr 3 []], [.dead, .al (.named 16) x_.World.Fly, .al (.named 15) x_.World.Clients, .bx (g21_4 x_ 2 1)])⟩ }
theorem y16 : InsOk Tryz.prog 16 x16.ins := goF Tryz.func16 rfl ⟨p31, p32, p33, p34, trivial⟩ trivial ⟨⟨fun _ _ _ _ _ _ => ⟨rfl, fun _ => by show _ = _; kernel_rfl⟩, trivial⟩, trivial⟩ (fun _ => by show _ = _; kernel_rfl)
def P16 : SP := (16, .full [.data (.named 17)] false (fullF [x16.ins]))
theorem p16 : OK P16 := fullI_ok ok Tryz.call16 ⟨y16, trivial⟩
def x42 : GFn E := { i := ⟨[.v .bool, .iv], [], fun is e => .opt (N.world_no_t is e) fun x_ => altT x_ (fun a => .ret (.ret [], [])) (fun b => .ret (.panic (.ifc 77 (.nv 20 b)), []))⟩ }
theorem y42 : InsOk Tryz.prog 42 x42.ins := go Tryz.func42 rfl trivial trivial trivial (fun _ _ => by show _ = _; kernel_rfl)
def P42 : SP := (42, .pure [.bool, .i6] (pureF [x42.ins]))
theorem p42 : OK P42 := pureI_ok Tryz.call42 ⟨y42, trivial⟩
def x77 : GFn E := { S := [P123], i := ⟨[.iv, .iv, .iv], [], fun a b c => .tot (N.clock_Fits_t a b c) fun x_ => .ret (.ret [.bv x_], [])⟩ }
theorem y77 : InsOk Tryz.prog 77 x77.ins := go Tryz.func77 rfl ⟨p123, trivial⟩ trivial trivial (fun _ _ _ => by show _ = _; kernel_rfl)
def P77 : SP := (77, .pure [.i6, .i6, .i6] (pureF [x77.ins]))
theorem p77 : OK P77 := pureI_ok Tryz.call77 ⟨y77, trivial⟩
def x78 : GFn E := { i := ⟨[.iv, .iv], [], fun a b => .tot (N.clock_Add_t a b) fun x_ => .ret (.ret [.iv x_], [])⟩ }
theorem y78 : InsOk Tryz.prog 78 x78.ins := go Tryz.func78 rfl trivial trivial trivial (fun _ _ => by show _ = _; kernel_rfl)
def P78 : SP := (78, .pure [.i6, .i6] (pureF [x78.ins]))
theorem p78 : OK P78 := pureI_ok Tryz.call78 ⟨y78, trivial⟩
def x35 : GFn E := { S := [P42, P77, P78], ls := [{ ks := [0, 3, 30, 31, 32], rs := [0, 3], ins := some [⟨[.ptr 0 [], .ptr 3 [], .v (.slice .i6), .iv, .iv], [.bx (s21_2 1 2), .al (.named 15), .al (.named 16), .bx (.v (.named 18))], fun a b c d e f g h s => ⟨c, N.world_host_time_s0t a b (N.Tworld_host.mk (N.TWorld.mk d e g h) f) s, fun v_ => ([.ptr 0 [], .ptr 3 [], .val (.slice .i6) a, .iv b, .iv v_], [.bx (.agg 21 [.agg 17 [.iv d, .nv 10 e, .own 1, .own 2], .nv 19 f]), .al (.named 15) g, .al (.named 16) h, .bx (.nv 18 s)]), fun x_ => altT x_ (fun j => .ret (.panic (.ifc 77 (.nv 20 j)), [.ptr 0 [], .ptr 3 []], [.bx (.agg 21 [.agg 17 [.iv d, .nv 10 e, .own 1, .own 2], .nv 19 f]), .al (.named 15) g, .al (.named 16) h, .bx (.nv 18 s)])) (fun k => .ret (.exit 0, [.ptr 0 [], .ptr 3 []], [.bx (.agg 21 [.agg 17 [.iv d, .nv 10 e, .own 1, .own 2], .nv 19 f]), .al (.named 15) g, .al (.named 16) h, .bx (.nv 18 s)]))⟩⟩] }, { ks := [0, 3, 76, 77], ins := some [⟨[.ptr 0 [], .ptr 3 [], .iv, .iv], [.bx (s21_2 1 2), .al (.named 15), .al (.named 16), .bx (.v (.named 18))], fun l m d e f g h s => ⟨(m, (N.Tworld_host.mk (N.TWorld.mk d e g h) f)), N.world_host_time_s1t l s, fun v_ => ([.ptr 0 [], .ptr 3 [], .iv l, .iv v_.1], [.bx (g21_4 v_.2 1 2), .al (.named 15) v_.2.World.Clients, .al (.named 16) v_.2.World.Fly, .bx (.nv 18 s)]), fun x_ => .ret (.exit 2, [], [.bx (g21_4 x_ 1 2), .al (.named 15) x_.World.Clients, .al (.named 16) x_.World.Fly, .bx (.nv 18 s)])⟩⟩] }], i := ⟨[.ptr 0 [], .v (.named 18)], [.bx (s21_2 1 2), .al (.named 15), .al (.named 16)], fun s d e f g h => .opt (N.world_host_time_t N.fuel s (N.Tworld_host.mk (N.TWorld.mk d e g h) f)) fun x_ => altT x_ (fun j => .ret (.ret [], [.bx (g21_4 j 1 2), .al (.named 15) j.World.Clients, .al (.named 16) j.World.Fly])) (fun k => .ret (.panic (.ifc 77 (.nv 20 k)), [.bx (.agg 21 [.agg 17 [.iv d, .nv 10 e, .own 1, .own 2], .nv 19 f]), .al (.named 15) g, .al (.named 16) h]))⟩ }
theorem y35 : InsOk Tryz.prog 35 x35.ins := goF Tryz.func35 rfl ⟨p42, p77, p78, trivial⟩ trivial ⟨⟨fun _ _ _ _ _ _ _ _ _ => ⟨rfl, fun _ => by show _ = _; kernel_rfl⟩, trivial⟩, ⟨⟨fun _ _ _ _ _ _ _ _ => ⟨rfl, fun _ => by show _ = _; kernel_rfl⟩, trivial⟩, trivial⟩⟩ (fun _ _ _ _ _ _ => by show _ = _; kernel_rfl)
def P35 : SP := (35, .full [.ptr, .data (.named 18)] false (fullF [x35.ins]))
theorem p35 : OK P35 := fullI_ok ok Tryz.call35 ⟨y35, trivial⟩
def x124 : GFn E := { S := [P68, P70, P71, P72, P73, P74, P75, P76], keep := true, i := ⟨[.v (.named 10)], [], fun s => .tot (.ret (N.server_of s)) fun x_ => .ret (.ret [.ptr 9 []], [.dead, .al .str x_.Server.Store.D.Last, .al (.named 0) x_.Server.Store.D.Wait, .al (.named 2) x_.Server.Store.S.Files, .al (.named 3) x_.Server.Store.S.Marks, .al (.named 6) x_.Server.Desk.Leases, .al (.named 7) x_.Server.Desk.Line, .al .i6 x_.Server.Seen, .al (.named 9) x_.Server.Told, .bx (g25_9 x_ 1 2 3 4 5 6 7 8)])⟩ }
theorem y124 : InsOk Tryz.prog 124 x124.ins := goF Tryz.func124 rfl ⟨p68, p70, p71, p72, p73, p74, p75, p76, trivial⟩ trivial trivial (fun _ => by show _ = _; kernel_rfl)
def P124 : SP := (124, .full [.data (.named 10)] false (fullF [x124.ins]))
theorem p124 : OK P124 := fullI_ok ok Tryz.call124 ⟨y124, trivial⟩
def x291 : GFn E := { i := ⟨[.v (.named 6), .ptr 0 []], [.box true (.iv)], fun x o0 => .tot (.ret (N.lease_Prune_c1 x o0)) fun x_ => .ret (.ret [.bv x_], [.box true (.iv o0)])⟩ }
theorem y291 : InsOk Tryz.prog 291 x291.ins := go Tryz.func291 rfl trivial trivial trivial (fun _ _ => by show _ = _; kernel_rfl)
def P291 : SP := (291, .full [.data (.named 6), .ptr] true (fullF [x291.ins]))
theorem p291 : OK P291 := fullI_ok ok Tryz.call291 ⟨y291, trivial⟩
def x332 : GFn E := { i := ⟨[.v (.named 6), .ptr 0 [], .ptr 1 []], [.box true (.iv), .box true (.iv)], fun x o0 o1 => .tot (N.lease_Drop_c1_t x o0 o1) fun x_ => .ret (.ret [.bv x_], [.box true (.iv o0), .box true (.iv o1)])⟩ }
theorem y332 : InsOk Tryz.prog 332 x332.ins := go Tryz.func332 rfl trivial trivial trivial (fun _ _ _ => by show _ = _; kernel_rfl)
def P332 : SP := (332, .full [.data (.named 6), .ptr, .ptr] true (fullF [x332.ins]))
theorem p332 : OK P332 := fullI_ok ok Tryz.call332 ⟨y332, trivial⟩
def x322 : GFn E := { S := [P291], ls := [{ ks := [0, 1, 7, 8], rs := [4], ins := some [⟨[.v (.slice (.named 6)), .fn 291 [.ptr 0 []], .iv, .iv], [.box true (.iv)], fun s t7 t8 o0 => ⟨t8, N.slices_IndexFunc_Lease_s0t s t7 o0, fun v_ => ([.val (.slice (.named 6)) s, .fn 291 [.ptr 0 []], .iv t7, .iv v_], [.box true (.iv o0)]), fun x_ => altT x_ (fun a => .ret (.ret, [.iv a], [.box true (.iv o0)])) (fun b => .ret (.exit 0, [.undef], [.box true (.iv o0)]))⟩⟩] }], i := ⟨[.v (.slice (.named 6)), .fn 291 [.ptr 0 []]], [.box true (.iv)], fun s o0 => .opt (N.slices_IndexFunc_Lease_t N.fuel s o0) fun x_ => .ret (.ret [.iv x_], [.box true (.iv o0)])⟩ }
theorem y322 : InsOk Tryz.prog 322 x322.ins := go Tryz.func322 rfl ⟨p291, trivial⟩ trivial ⟨⟨fun _ _ _ _ => ⟨rfl, fun _ => by show _ = _; kernel_rfl⟩, trivial⟩, trivial⟩ (fun _ _ => by show _ = _; kernel_rfl)
def x322a : GFn E := { S := [P332], ls := [{ ks := [0, 1, 7, 8], rs := [4], ins := some [⟨[.v (.slice (.named 6)), .fn 332 [.ptr 0 [], .ptr 1 []], .iv, .iv], [.box true (.iv), .box true (.iv)], fun s t7 t8 o0 o1 => ⟨t8, N.slices_IndexFunc_Lease_2_s0t s t7 o0 o1, fun v_ => ([.val (.slice (.named 6)) s, .fn 332 [.ptr 0 [], .ptr 1 []], .iv t7, .iv v_], [.box true (.iv o0), .box true (.iv o1)]), fun x_ => altT x_ (fun a => .ret (.ret, [.iv a], [.box true (.iv o0), .box true (.iv o1)])) (fun b => .ret (.exit 0, [.undef], [.box true (.iv o0), .box true (.iv o1)]))⟩⟩] }], i := ⟨[.v (.slice (.named 6)), .fn 332 [.ptr 0 [], .ptr 1 []]], [.box true (.iv), .box true (.iv)], fun s o0 o1 => .opt (N.slices_IndexFunc_Lease_2_t N.fuel s o0 o1) fun x_ => .ret (.ret [.iv x_], [.box true (.iv o0), .box true (.iv o1)])⟩ }
theorem y322a : InsOk Tryz.prog 322 x322a.ins := go Tryz.func322 rfl ⟨p332, trivial⟩ trivial ⟨⟨fun _ _ _ _ _ => ⟨rfl, fun _ => by show _ = _; kernel_rfl⟩, trivial⟩, trivial⟩ (fun _ _ _ => by show _ = _; kernel_rfl)
def P322 : SP := (322, .full [.data (.slice (.named 6)), .func] true (fullF [x322.ins, x322a.ins]))
theorem p322 : OK P322 := fullI_ok ok Tryz.call322 ⟨y322, y322a, trivial⟩
def x290 : GFn E := { S := [P291, P322], ls := [{ ks := [0, 1, 4, 5, 6], rs := [0, 4, 5], ins := some [⟨[.own 0, .fn 291 [.ptr 1 []], .nils, .iv, .iv], [.al (.named 6), .bx (.iv)], fun i j s o1 => ⟨(i, j, s), N.slices_DeleteFunc_Lease_s0t o1, fun v_ => ([.own 0, .fn 291 [.ptr 1 []], .nils, .iv v_.1, .iv v_.2.1], [.al (.named 6) v_.2.2, .bx (.iv o1)]), fun x_ => .ret (.exit 0, [.own 0, .nils, .iv x_.1], [.al (.named 6) x_.2, .bx (.iv o1)])⟩⟩] }], keep := true, i := ⟨[.own 0, .fn 291 [.ptr 1 []]], [.al (.named 6), .bx (.iv)], fun r0 o1 => .opt (N.slices_DeleteFunc_Lease_t N.fuel o1 r0) fun x_ => .ret (.ret [.own 0], [.al (.named 6) x_, .bx (.iv o1)])⟩ }
theorem y290 : InsOk Tryz.prog 290 x290.ins := gIns_ok (B := tidyF (dbodyK E (lookS x290.S) (x290.L Tryz.f290) 4 (.named 6) Tryz.f290)) (tidy_fn ok (dbodyK_ok sound mix (S := x290.S) ⟨p291, p322, trivial⟩ (L := x290.L Tryz.f290) (m := 4) (TL := 33) (TE := 112) Tryz.func290 rfl (by kernel_rfl) (gLoops_at (x := x290) ⟨⟨fun _ _ _ _ => ⟨rfl, fun _ => by show _ = _; kernel_rfl⟩, trivial⟩, trivial⟩) Tryz.underlying33 rfl (fun h => nomatch h) tail290)) (fun _ _ => by show _ = _; kernel_rfl)
def x290a : GFn E := { S := [P322, P332], ls := [{ ks := [0, 1, 4, 5, 6], rs := [0, 4, 5], ins := some [⟨[.own 0, .fn 332 [.ptr 1 [], .ptr 2 []], .nils, .iv, .iv], [.al (.named 6), .bx (.iv), .bx (.iv)], fun i j s o1 o2 => ⟨(i, j, s), N.slices_DeleteFunc_Lease_2_s0t o1 o2, fun v_ => ([.own 0, .fn 332 [.ptr 1 [], .ptr 2 []], .nils, .iv v_.1, .iv v_.2.1], [.al (.named 6) v_.2.2, .bx (.iv o1), .bx (.iv o2)]), fun x_ => .ret (.exit 0, [.own 0, .nils, .iv x_.1], [.al (.named 6) x_.2, .bx (.iv o1), .bx (.iv o2)])⟩⟩] }], keep := true, i := ⟨[.own 0, .fn 332 [.ptr 1 [], .ptr 2 []]], [.al (.named 6), .bx (.iv), .bx (.iv)], fun r0 o1 o2 => .opt (N.slices_DeleteFunc_Lease_2_t N.fuel o1 o2 r0) fun x_ => .ret (.ret [.own 0], [.al (.named 6) x_, .bx (.iv o1), .bx (.iv o2)])⟩ }
theorem y290a : InsOk Tryz.prog 290 x290a.ins := gIns_ok (B := tidyF (dbodyK E (lookS x290a.S) (x290a.L Tryz.f290) 4 (.named 6) Tryz.f290)) (tidy_fn ok (dbodyK_ok sound mix (S := x290a.S) ⟨p322, p332, trivial⟩ (L := x290a.L Tryz.f290) (m := 4) (TL := 33) (TE := 112) Tryz.func290 rfl (by kernel_rfl) (gLoops_at (x := x290a) ⟨⟨fun _ _ _ _ _ => ⟨rfl, fun _ => by show _ = _; kernel_rfl⟩, trivial⟩, trivial⟩) Tryz.underlying33 rfl (fun h => nomatch h) tail290)) (fun _ _ _ => by show _ = _; kernel_rfl)
def P290 : SP := (290, .full [.ptr, .func] false (fullF [x290.ins, x290a.ins]))
theorem p290 : OK P290 := fullI_ok ok Tryz.call290 ⟨y290, y290a, trivial⟩
def x240 : GFn E := { S := [P290, P73], i := stdI [(.slice (.named 6)), .i6] [(.slice (.named 6))] (N.lease_Prune_t N.fuel) }
theorem y240 : InsOk Tryz.prog 240 x240.ins := go Tryz.func240 rfl ⟨p290, p73, trivial⟩ trivial trivial (fun _ _ => by show _ = _; kernel_rfl)
def P240 : SP := (240, .pure [(.slice (.named 6)), .i6] (pureF [x240.ins]))
theorem p240 : OK P240 := pureI_ok Tryz.call240 ⟨y240, trivial⟩
def x181 : GFn E := { S := [P240, P74], i := stdI [(.named 8), .i6] [(.named 8)] (N.desk_pruned_t N.fuel) }
theorem y181 : InsOk Tryz.prog 181 x181.ins := go Tryz.func181 rfl ⟨p240, p74, trivial⟩ trivial trivial (fun _ _ => by show _ = _; kernel_rfl)
def P181 : SP := (181, .pure [(.named 8), .i6] (pureF [x181.ins]))
theorem p181 : OK P181 := pureI_ok Tryz.call181 ⟨y181, trivial⟩
def x325 : GFn E := { i := ⟨[.iv], [], fun x => .tot (.ret (N.cmp_isNaN_int x)) fun x_ => .ret (.ret [.bv x_], [])⟩ }
theorem y325 : InsOk Tryz.prog 325 x325.ins := go Tryz.func325 rfl trivial trivial trivial (fun _ => by show _ = _; kernel_rfl)
def P325 : SP := (325, .pure [.i6] (pureF [x325.ins]))
theorem p325 : OK P325 := pureI_ok Tryz.call325 ⟨y325, trivial⟩
def x296 : GFn E := { S := [P325], i := ⟨[.iv, .iv], [], fun x y => .tot (N.cmp_Compare_int_t x y) fun x_ => .ret (.ret [.iv x_], [])⟩ }
theorem y296 : InsOk Tryz.prog 296 x296.ins := go Tryz.func296 rfl ⟨p325, trivial⟩ trivial trivial (fun _ _ => by show _ = _; kernel_rfl)
def P296 : SP := (296, .pure [.i6, .i6] (pureF [x296.ins]))
theorem p296 : OK P296 := pureI_ok Tryz.call296 ⟨y296, trivial⟩
def x295 : GFn E := { ls := [{ ks := [3, 6, 7, 8], rs := [2, 3], ins := some [⟨[.iv, .v (.slice .i6), .iv, .iv], [], fun a t6 t7 t8 => ⟨t8, N.cmp_Or_int_s0t a t6 t7, fun v_ => ([.iv a, .val (.slice .i6) t6, .iv t7, .iv v_], []), fun x_ => altT x_ (fun b => .ret (.ret, [.iv b, .iv a], [])) (fun c => .ret (.exit 0, [.undef, .iv a], []))⟩⟩] }], i := stdI [(.slice .i6)] [.i6] (N.cmp_Or_int_t N.fuel) }
theorem y295 : InsOk Tryz.prog 295 x295.ins := go Tryz.func295 rfl trivial trivial ⟨⟨fun _ _ _ _ => ⟨rfl, fun _ => by show _ = _; kernel_rfl⟩, trivial⟩, trivial⟩ (fun _ => by show _ = _; kernel_rfl)
def P295 : SP := (295, .pure [(.slice .i6)] (pureF [x295.ins]))
theorem p295 : OK P295 := pureI_ok Tryz.call295 ⟨y295, trivial⟩
def x247 : GFn E := { S := [P295, P296], i := stdI [(.named 6), (.named 6)] [.i6] (N.lease_order_t N.fuel) }
theorem y247 : InsOk Tryz.prog 247 x247.ins := go Tryz.func247 rfl ⟨p295, p296, trivial⟩ trivial trivial (fun _ _ => by show _ = _; kernel_rfl)
def P247 : SP := (247, .pure [(.named 6), (.named 6)] (pureF [x247.ins]))
theorem p247 : OK P247 := pureI_ok Tryz.call247 ⟨y247, trivial⟩
def x246 : GFn E := { S := [P247], ls := [{ ks := [0, 2, 4, 8, 9, 10], rs := [0, 2, 4, 6, 7, 8, 9], ins := some [⟨[.v (.slice (.named 6)), .fn 247 [], .ptr 0 [], .iv, .iv, .iv], [.bx (.v (.named 6))], fun x n i j a => ⟨(i, j), N.slices_BinarySearchFunc_Lease_s0t N.fuel x n a, fun v_ => ([.val (.slice (.named 6)) x, .fn 247 [], .ptr 0 [], .iv n, .iv v_.1, .iv v_.2], [.bx (.nv 6 a)]), fun x_ => .ret (.exit 0, [.val (.slice (.named 6)) x, .fn 247 [], .ptr 0 [], .undef, .undef, .iv n, .iv x_], [.bx (.nv 6 a)])⟩⟩] }], i := ⟨[.v (.slice (.named 6)), .v (.named 6), .fn 247 []], [], fun x a => .opt (N.slices_BinarySearchFunc_Lease_t N.fuel x a) fun x_ => .ret (.ret [.iv x_.1, .bv x_.2], [])⟩ }
theorem y246 : InsOk Tryz.prog 246 x246.ins := go Tryz.func246 rfl ⟨p247, trivial⟩ trivial ⟨⟨fun _ _ _ _ _ => ⟨rfl, fun _ => by show _ = _; kernel_rfl⟩, trivial⟩, trivial⟩ (fun _ _ => by show _ = _; kernel_rfl)
def P246 : SP := (246, .full [.data (.slice (.named 6)), .data (.named 6), .func] true (fullF [x246.ins]))
theorem p246 : OK P246 := fullI_ok ok Tryz.call246 ⟨y246, trivial⟩
def x188 : GFn E := { S := [P246], i := stdI [(.slice (.named 6)), .i6, .i6, .i6] [.i6] (N.lease_Holds_t N.fuel) }
theorem y188 : InsOk Tryz.prog 188 x188.ins := go Tryz.func188 rfl ⟨p246, trivial⟩ trivial trivial (fun _ _ _ _ => by show _ = _; kernel_rfl)
def P188 : SP := (188, .pure [(.slice (.named 6)), .i6, .i6, .i6] (pureF [x188.ins]))
theorem p188 : OK P188 := pureI_ok Tryz.call188 ⟨y188, trivial⟩
def x244 : GFn E := { S := [P188], ls := [{ ks := [0, 1, 2, 3, 4, 10, 14, 15, 16], rs := [10], pro := [.pro (.slot 10) [] .i6], ins := some [⟨[.v (.slice (.named 6)), .iv, .iv, .iv, .iv, .own 0, .v (.slice (.named 6)), .iv, .iv], [.al .i6], fun l a b c d e f g h => ⟨(g, h), N.lease_Clash_s0t N.fuel l a b c d e f, fun v_ => ([.val (.slice (.named 6)) l, .iv a, .iv b, .iv c, .iv d, .own 0, .val (.slice (.named 6)) e, .iv f, .iv v_.1], [.al .i6 v_.2]), fun x_ => .ret (.exit 0, [.own 0], [.al .i6 x_])⟩⟩] }], i := stdI [(.slice (.named 6)), .i6, .i6, .i6, .i6] [(.slice .i6)] (N.lease_Clash_t N.fuel) }
theorem y244 : InsOk Tryz.prog 244 x244.ins := go Tryz.func244 rfl ⟨p188, trivial⟩ trivial ⟨⟨fun _ _ _ _ _ _ _ _ _ => ⟨rfl, fun _ => by show _ = _; kernel_rfl⟩, trivial⟩, trivial⟩ (fun _ _ _ _ _ => by show _ = _; kernel_rfl)
def P244 : SP := (244, .pure [(.slice (.named 6)), .i6, .i6, .i6, .i6] (pureF [x244.ins]))
theorem p244 : OK P244 := pureI_ok Tryz.call244 ⟨y244, trivial⟩
def x186 : GFn E := { S := [P244], i := stdI [(.named 8), .i6, (.named 7)] [(.slice .i6)] (N.desk_clash_t N.fuel) }
theorem y186 : InsOk Tryz.prog 186 x186.ins := go Tryz.func186 rfl ⟨p244, trivial⟩ trivial trivial (fun _ _ _ => by show _ = _; kernel_rfl)
def P186 : SP := (186, .pure [(.named 8), .i6, (.named 7)] (pureF [x186.ins]))
theorem p186 : OK P186 := pureI_ok Tryz.call186 ⟨y186, trivial⟩
def x241 : GFn E := { ls := [{ ks := [1, 2, 9, 10, 11], rs := [6], ins := some [⟨[.iv, .iv, .v (.slice (.named 7)), .iv, .iv], [], fun a b t9 c d => ⟨d, N.line_Ahead_s0t a b t9 c, fun v_ => ([.iv a, .iv b, .val (.slice (.named 7)) t9, .iv c, .iv v_], []), fun x_ => altT x_ (fun e => .ret (.ret, [.bv e.1], [.bx (.nv 7 e.2)])) (fun f => .ret (.exit 0, [.undef], []))⟩⟩] }], i := stdI [(.slice (.named 7)), .i6, .i6] [.bool] (N.line_Ahead_t N.fuel) }
theorem y241 : InsOk Tryz.prog 241 x241.ins := go Tryz.func241 rfl trivial trivial ⟨⟨fun _ _ _ _ _ => ⟨rfl, fun _ => by show _ = _; kernel_rfl⟩, trivial⟩, trivial⟩ (fun _ _ _ => by show _ = _; kernel_rfl)
def P241 : SP := (241, .pure [(.slice (.named 7)), .i6, .i6] (pureF [x241.ins]))
theorem p241 : OK P241 := pureI_ok Tryz.call241 ⟨y241, trivial⟩
def x184 : GFn E := { S := [P186, P241], i := stdI [(.named 8), .i6, (.named 7)] [.bool] (N.desk_may_t N.fuel) }
theorem y184 : InsOk Tryz.prog 184 x184.ins := go Tryz.func184 rfl ⟨p186, p241, trivial⟩ trivial trivial (fun _ _ _ => by show _ = _; kernel_rfl)
def P184 : SP := (184, .pure [(.named 8), .i6, (.named 7)] (pureF [x184.ins]))
theorem p184 : OK P184 := pureI_ok Tryz.call184 ⟨y184, trivial⟩
def x183 : GFn E := { S := [P184], i := ⟨[.v (.named 7), .ptr 0 [], .ptr 1 []], [.box true (.v (.named 8)), .box true (.iv)], fun w o0 o1 => .opt (N.desk_Run_c1_t N.fuel w o0 o1) fun x_ => .ret (.ret [.bv x_], [.box true (.nv 8 o0), .box true (.iv o1)])⟩ }
theorem y183 : InsOk Tryz.prog 183 x183.ins := go Tryz.func183 rfl ⟨p184, trivial⟩ trivial trivial (fun _ _ _ => by show _ = _; kernel_rfl)
def P183 : SP := (183, .full [.data (.named 7), .ptr, .ptr] true (fullF [x183.ins]))
theorem p183 : OK P183 := fullI_ok ok Tryz.call183 ⟨y183, trivial⟩
def x294 : GFn E := { i := ⟨[.v (.named 7), .ptr 0 []], [.box true (.iv)], fun w o0 => .tot (.ret (N.line_Drop_c1 w o0)) fun x_ => .ret (.ret [.bv x_], [.box true (.iv o0)])⟩ }
theorem y294 : InsOk Tryz.prog 294 x294.ins := go Tryz.func294 rfl trivial trivial trivial (fun _ _ => by show _ = _; kernel_rfl)
def P294 : SP := (294, .full [.data (.named 7), .ptr] true (fullF [x294.ins]))
theorem p294 : OK P294 := fullI_ok ok Tryz.call294 ⟨y294, trivial⟩
def x344 : GFn E := { i := ⟨[.v (.named 7), .ptr 0 []], [.box true (.iv)], fun w o0 => .tot (.ret (N.line_place_c1 w o0)) fun x_ => .ret (.ret [.bv x_], [.box true (.iv o0)])⟩ }
theorem y344 : InsOk Tryz.prog 344 x344.ins := go Tryz.func344 rfl trivial trivial trivial (fun _ _ => by show _ = _; kernel_rfl)
def P344 : SP := (344, .full [.data (.named 7), .ptr] true (fullF [x344.ins]))
theorem p344 : OK P344 := fullI_ok ok Tryz.call344 ⟨y344, trivial⟩
def x313 : GFn E := { i := ⟨[.v (.named 7), .ptr 0 [], .ptr 1 []], [.box true (.iv), .box true (.iv)], fun w o0 o1 => .tot (N.server_host_others_c1_t w o0 o1) fun x_ => .ret (.ret [.bv x_], [.box true (.iv o0), .box true (.iv o1)])⟩ }
theorem y313 : InsOk Tryz.prog 313 x313.ins := go Tryz.func313 rfl trivial trivial trivial (fun _ _ _ => by show _ = _; kernel_rfl)
def P313 : SP := (313, .full [.data (.named 7), .ptr, .ptr] true (fullF [x313.ins]))
theorem p313 : OK P313 := fullI_ok ok Tryz.call313 ⟨y313, trivial⟩
def x182 : GFn E := { S := [P183], ls := [{ ks := [0, 1, 7, 8], rs := [4], ins := some [⟨[.v (.slice (.named 7)), .fn 183 [.ptr 0 [], .ptr 1 []], .iv, .iv], [.box true (.v (.named 8)), .box true (.iv)], fun s t7 t8 o0 o1 => ⟨t8, N.slices_IndexFunc_Wait_s0t N.fuel s t7 o0 o1, fun v_ => ([.val (.slice (.named 7)) s, .fn 183 [.ptr 0 [], .ptr 1 []], .iv t7, .iv v_], [.box true (.nv 8 o0), .box true (.iv o1)]), fun x_ => altT x_ (fun a => .ret (.ret, [.iv a], [.box true (.nv 8 o0), .box true (.iv o1)])) (fun b => .ret (.exit 0, [.undef], [.box true (.nv 8 o0), .box true (.iv o1)]))⟩⟩] }], i := ⟨[.v (.slice (.named 7)), .fn 183 [.ptr 0 [], .ptr 1 []]], [.box true (.v (.named 8)), .box true (.iv)], fun s o0 o1 => .opt (N.slices_IndexFunc_Wait_t N.fuel s o0 o1) fun x_ => .ret (.ret [.iv x_], [.box true (.nv 8 o0), .box true (.iv o1)])⟩ }
theorem y182 : InsOk Tryz.prog 182 x182.ins := go Tryz.func182 rfl ⟨p183, trivial⟩ trivial ⟨⟨fun _ _ _ _ _ => ⟨rfl, fun _ => by show _ = _; kernel_rfl⟩, trivial⟩, trivial⟩ (fun _ _ _ => by show _ = _; kernel_rfl)
def x182a : GFn E := { S := [P294], ls := [{ ks := [0, 1, 7, 8], rs := [4], ins := some [⟨[.v (.slice (.named 7)), .fn 294 [.ptr 0 []], .iv, .iv], [.box true (.iv)], fun s t7 t8 o0 => ⟨t8, N.slices_IndexFunc_Wait_2_s0t s t7 o0, fun v_ => ([.val (.slice (.named 7)) s, .fn 294 [.ptr 0 []], .iv t7, .iv v_], [.box true (.iv o0)]), fun x_ => altT x_ (fun a => .ret (.ret, [.iv a], [.box true (.iv o0)])) (fun b => .ret (.exit 0, [.undef], [.box true (.iv o0)]))⟩⟩] }], i := ⟨[.v (.slice (.named 7)), .fn 294 [.ptr 0 []]], [.box true (.iv)], fun s o0 => .opt (N.slices_IndexFunc_Wait_2_t N.fuel s o0) fun x_ => .ret (.ret [.iv x_], [.box true (.iv o0)])⟩ }
theorem y182a : InsOk Tryz.prog 182 x182a.ins := go Tryz.func182 rfl ⟨p294, trivial⟩ trivial ⟨⟨fun _ _ _ _ => ⟨rfl, fun _ => by show _ = _; kernel_rfl⟩, trivial⟩, trivial⟩ (fun _ _ => by show _ = _; kernel_rfl)
def x182b : GFn E := { S := [P344], ls := [{ ks := [0, 1, 7, 8], rs := [4], ins := some [⟨[.v (.slice (.named 7)), .fn 344 [.ptr 0 []], .iv, .iv], [.box true (.iv)], fun s t7 t8 o0 => ⟨t8, N.slices_IndexFunc_Wait_3_s0t s t7 o0, fun v_ => ([.val (.slice (.named 7)) s, .fn 344 [.ptr 0 []], .iv t7, .iv v_], [.box true (.iv o0)]), fun x_ => altT x_ (fun a => .ret (.ret, [.iv a], [.box true (.iv o0)])) (fun b => .ret (.exit 0, [.undef], [.box true (.iv o0)]))⟩⟩] }], i := ⟨[.v (.slice (.named 7)), .fn 344 [.ptr 0 []]], [.box true (.iv)], fun s o0 => .opt (N.slices_IndexFunc_Wait_3_t N.fuel s o0) fun x_ => .ret (.ret [.iv x_], [.box true (.iv o0)])⟩ }
theorem y182b : InsOk Tryz.prog 182 x182b.ins := go Tryz.func182 rfl ⟨p344, trivial⟩ trivial ⟨⟨fun _ _ _ _ => ⟨rfl, fun _ => by show _ = _; kernel_rfl⟩, trivial⟩, trivial⟩ (fun _ _ => by show _ = _; kernel_rfl)
def x182c : GFn E := { S := [P313], ls := [{ ks := [0, 1, 7, 8], rs := [4], ins := some [⟨[.v (.slice (.named 7)), .fn 313 [.ptr 0 [], .ptr 1 []], .iv, .iv], [.box true (.iv), .box true (.iv)], fun s t7 t8 o0 o1 => ⟨t8, N.slices_IndexFunc_Wait_4_s0t s t7 o0 o1, fun v_ => ([.val (.slice (.named 7)) s, .fn 313 [.ptr 0 [], .ptr 1 []], .iv t7, .iv v_], [.box true (.iv o0), .box true (.iv o1)]), fun x_ => altT x_ (fun a => .ret (.ret, [.iv a], [.box true (.iv o0), .box true (.iv o1)])) (fun b => .ret (.exit 0, [.undef], [.box true (.iv o0), .box true (.iv o1)]))⟩⟩] }], i := ⟨[.v (.slice (.named 7)), .fn 313 [.ptr 0 [], .ptr 1 []]], [.box true (.iv), .box true (.iv)], fun s o0 o1 => .opt (N.slices_IndexFunc_Wait_4_t N.fuel s o0 o1) fun x_ => .ret (.ret [.iv x_], [.box true (.iv o0), .box true (.iv o1)])⟩ }
theorem y182c : InsOk Tryz.prog 182 x182c.ins := go Tryz.func182 rfl ⟨p313, trivial⟩ trivial ⟨⟨fun _ _ _ _ _ => ⟨rfl, fun _ => by show _ = _; kernel_rfl⟩, trivial⟩, trivial⟩ (fun _ _ _ => by show _ = _; kernel_rfl)
def P182 : SP := (182, .full [.data (.slice (.named 7)), .func] true (fullF [x182.ins, x182a.ins, x182b.ins, x182c.ins]))
theorem p182 : OK P182 := fullI_ok ok Tryz.call182 ⟨y182, y182a, y182b, y182c, trivial⟩
def P292 : SP := (292, .full [.ptr, .data .i6, .data (.slice (.named 6))] false (insrtF E (.named 6)))
theorem SZ_292 : 4 = E.size (.named 6) := rfl
theorem p292 : OK P292 := ⟨Tryz.call292, ins_fn sound (TL := 33) (TE := 112) (TI := 3) (z0 := Option.get (zeroI E depth (.named 6)) rfl) Tryz.underlying33 rfl rfl (fun h => nomatch h) rfl (by decide) (SZ_292 ▸ ⟨ins_end_292, fun g n c i vb voff vc h1 h2 h3 h4 w W1 W2 k1 k2 cA cB tA tB fA fB ha hb hA hf c1 c2 => ins_room_292 g n c i vb voff vc h1 h2 h3 h4 w W1 W2 k1 k2 ha hb hA hf c1 c2, ins_grow_292⟩)⟩
def x242 : GFn E := { S := [P246, P292, P73], i := stdI [(.slice (.named 6)), (.named 6)] [(.slice (.named 6))] (N.lease_Grant_t N.fuel) }
theorem y242 : InsOk Tryz.prog 242 x242.ins := go Tryz.func242 rfl ⟨p246, p292, p73, trivial⟩ trivial trivial (fun _ _ => by show _ = _; kernel_rfl)
def P242 : SP := (242, .pure [(.slice (.named 6)), (.named 6)] (pureF [x242.ins]))
theorem p242 : OK P242 := pureI_ok Tryz.call242 ⟨y242, trivial⟩
def x293 : GFn E := { S := [P182, P294], ls := [{ ks := [0, 1, 4, 5, 6], rs := [0, 4, 5], ins := some [⟨[.own 0, .fn 294 [.ptr 1 []], .nils, .iv, .iv], [.al (.named 7), .bx (.iv)], fun i j s o1 => ⟨(i, j, s), N.slices_DeleteFunc_Wait_s0t o1, fun v_ => ([.own 0, .fn 294 [.ptr 1 []], .nils, .iv v_.1, .iv v_.2.1], [.al (.named 7) v_.2.2, .bx (.iv o1)]), fun x_ => .ret (.exit 0, [.own 0, .nils, .iv x_.1], [.al (.named 7) x_.2, .bx (.iv o1)])⟩⟩] }], keep := true, i := ⟨[.own 0, .fn 294 [.ptr 1 []]], [.al (.named 7), .bx (.iv)], fun r0 o1 => .opt (N.slices_DeleteFunc_Wait_t N.fuel o1 r0) fun x_ => .ret (.ret [.own 0], [.al (.named 7) x_, .bx (.iv o1)])⟩ }
theorem y293 : InsOk Tryz.prog 293 x293.ins := gIns_ok (B := tidyF (dbodyK E (lookS x293.S) (x293.L Tryz.f293) 4 (.named 7) Tryz.f293)) (tidy_fn ok (dbodyK_ok sound mix (S := x293.S) ⟨p182, p294, trivial⟩ (L := x293.L Tryz.f293) (m := 4) (TL := 34) (TE := 115) Tryz.func293 rfl (by kernel_rfl) (gLoops_at (x := x293) ⟨⟨fun _ _ _ _ => ⟨rfl, fun _ => by show _ = _; kernel_rfl⟩, trivial⟩, trivial⟩) Tryz.underlying34 rfl (fun h => nomatch h) tail293)) (fun _ _ => by show _ = _; kernel_rfl)
def P293 : SP := (293, .full [.ptr, .func] false (fullF [x293.ins]))
theorem p293 : OK P293 := fullI_ok ok Tryz.call293 ⟨y293, trivial⟩
def x243 : GFn E := { S := [P293, P74], i := stdI [(.slice (.named 7)), .i6] [(.slice (.named 7))] (N.line_Drop_t N.fuel) }
theorem y243 : InsOk Tryz.prog 243 x243.ins := go Tryz.func243 rfl ⟨p293, p74, trivial⟩ trivial trivial (fun _ _ => by show _ = _; kernel_rfl)
def P243 : SP := (243, .pure [(.slice (.named 7)), .i6] (pureF [x243.ins]))
theorem p243 : OK P243 := pureI_ok Tryz.call243 ⟨y243, trivial⟩
def x185 : GFn E := { S := [P242, P243, P78], i := stdI [(.named 8), .i6, (.named 7)] [(.named 8)] (N.desk_lets_t N.fuel) }
theorem y185 : InsOk Tryz.prog 185 x185.ins := go Tryz.func185 rfl ⟨p242, p243, p78, trivial⟩ trivial trivial (fun _ _ _ => by show _ = _; kernel_rfl)
def P185 : SP := (185, .pure [(.named 8), .i6, (.named 7)] (pureF [x185.ins]))
theorem p185 : OK P185 := pureI_ok Tryz.call185 ⟨y185, trivial⟩
def x245 : GFn E := { ls := [{ ks := [0, 3, 7, 8], rs := [4], ins := some [⟨[.v (.slice (.arr 2 .i6)), .ptr 0 [], .iv, .iv], [.bx (.v (.arr 2 .i6))], fun s t7 t8 v => ⟨t8, N.slices_Index__2_int_s0t s t7 v, fun v_ => ([.val (.slice (.arr 2 .i6)) s, .ptr 0 [], .iv t7, .iv v_], [.bx (.val (.arr 2 .i6) v)]), fun x_ => altT x_ (fun a => .ret (.ret, [.iv a], [.bx (.val (.arr 2 .i6) v)])) (fun b => .ret (.exit 0, [.undef], [.bx (.val (.arr 2 .i6) v)]))⟩⟩] }], i := stdI [(.slice (.arr 2 .i6)), (.arr 2 .i6)] [.i6] (N.slices_Index__2_int_t N.fuel) }
theorem y245 : InsOk Tryz.prog 245 x245.ins := go Tryz.func245 rfl trivial trivial ⟨⟨fun _ _ _ _ => ⟨rfl, fun _ => by show _ = _; kernel_rfl⟩, trivial⟩, trivial⟩ (fun _ _ => by show _ = _; kernel_rfl)
def P245 : SP := (245, .pure [(.slice (.arr 2 .i6)), (.arr 2 .i6)] (pureF [x245.ins]))
theorem p245 : OK P245 := pureI_ok Tryz.call245 ⟨y245, trivial⟩
def x187 : GFn E := { S := [P245], i := stdI [(.slice (.arr 2 .i6)), (.arr 2 .i6)] [.bool] (N.slices_Contains__2_int_t N.fuel) }
theorem y187 : InsOk Tryz.prog 187 x187.ins := go Tryz.func187 rfl ⟨p245, trivial⟩ trivial trivial (fun _ _ => by show _ = _; kernel_rfl)
def P187 : SP := (187, .pure [(.slice (.arr 2 .i6)), (.arr 2 .i6)] (pureF [x187.ins]))
theorem p187 : OK P187 := pureI_ok Tryz.call187 ⟨y187, trivial⟩
def x125 : GFn E := { S := [P181, P182, P185, P186, P187], ls := [{ ks := [3, 4, 5, 6], rs := [3, 4, 5, 6], pro := [.pro (.slot 5) [] (.named 7)], ins := some [⟨[.ptr 1 [], .ptr 2 [], .own 3, .nils], [.bx (.v (.named 8)), .bx (.iv), .bx (.v (.named 8)), .al (.named 7)], fun o0 a x b => ⟨(x, b), N.desk_Run_s0t N.fuel o0 a, fun v_ => ([.ptr 1 [], .ptr 2 [], .own 3, .nils], [.bx (.nv 8 o0), .bx (.iv a), .bx (.nv 8 v_.1), .al (.named 7) v_.2]), fun x_ => .ret (.exit 0, [.ptr 1 [], .ptr 2 [], .own 3, .nils], [.bx (.nv 8 o0), .bx (.iv a), .bx (.nv 8 x_.1), .al (.named 7) x_.2])⟩⟩] }, { ks := [3, 4, 5, 6, 37, 38, 39], rs := [4, 5, 6], pro := [.pro (.slot 6) [] (.arr 2 .i6)], ins := some [⟨[.ptr 1 [], .ptr 2 [], .own 3, .own 4, .v (.slice (.named 7)), .iv, .iv], [.bx (.v (.named 8)), .bx (.iv), .bx (.v (.named 8)), .al (.named 7), .al (.arr 2 .i6)], fun c d e o0 a x b f => ⟨(e, f), N.desk_Run_s2t N.fuel c d o0 a x b, fun v_ => ([.ptr 1 [], .ptr 2 [], .own 3, .own 4, .val (.slice (.named 7)) c, .iv d, .iv v_.1], [.bx (.nv 8 o0), .bx (.iv a), .bx (.nv 8 x), .al (.named 7) b, .al (.arr 2 .i6) v_.2]), fun x_ => .ret (.exit 2, [.ptr 2 [], .own 3, .own 4], [.bx (.nv 8 o0), .bx (.iv a), .bx (.nv 8 x), .al (.named 7) b, .al (.arr 2 .i6) x_])⟩⟩] }, { ks := [3, 4, 5, 6, 10, 37, 38, 39, 46, 47, 48], rs := [3, 4, 5, 6, 37, 38, 39], ins := some [⟨[.ptr 1 [], .ptr 2 [], .own 3, .own 4, .ptr 5 [], .v (.slice (.named 7)), .iv, .iv, .v (.slice .i6), .iv, .iv], [.bx (.v (.named 8)), .bx (.iv), .bx (.v (.named 8)), .al (.named 7), .al (.arr 2 .i6), .bx (.v (.named 7))], fun c d e g h j o0 a x b f w => ⟨(j, f), N.desk_Run_s1t N.fuel c d e g h o0 a x w b, fun v_ => ([.ptr 1 [], .ptr 2 [], .own 3, .own 4, .ptr 5 [], .val (.slice (.named 7)) c, .iv d, .iv e, .val (.slice .i6) g, .iv h, .iv v_.1], [.bx (.nv 8 o0), .bx (.iv a), .bx (.nv 8 x), .al (.named 7) b, .al (.arr 2 .i6) v_.2, .bx (.nv 7 w)]), fun x_ => .ret (.exit 4, [.ptr 1 [], .ptr 2 [], .own 3, .own 4, .val (.slice (.named 7)) c, .iv d, .iv e], [.bx (.nv 8 o0), .bx (.iv a), .bx (.nv 8 x), .al (.named 7) b, .al (.arr 2 .i6) x_, .bx (.nv 7 w)])⟩⟩] }], i := stdI [(.named 8), .i6] [(.named 8), (.slice (.named 7)), (.slice (.arr 2 .i6))] (N.desk_Run_t N.fuel) }
theorem y125 : InsOk Tryz.prog 125 x125.ins := go Tryz.func125 rfl ⟨p181, p182, p185, p186, p187, trivial⟩ trivial ⟨⟨fun _ _ _ _ => ⟨rfl, fun _ => by show _ = _; kernel_rfl⟩, trivial⟩, ⟨⟨fun _ _ _ _ _ _ _ _ => ⟨rfl, fun _ => by show _ = _; kernel_rfl⟩, trivial⟩, ⟨⟨fun _ _ _ _ _ _ _ _ _ _ _ _ => ⟨rfl, fun _ => by show _ = _; kernel_rfl⟩, trivial⟩, trivial⟩⟩⟩ (fun _ _ => by show _ = _; kernel_rfl)
def P125 : SP := (125, .pure [(.named 8), .i6] (pureF [x125.ins]))
theorem p125 : OK P125 := pureI_ok Tryz.call125 ⟨y125, trivial⟩
def x189 : GFn E := { i := ⟨[.ptr 0 [], .iv], [.bx (s25_6 1 2 3 4 5 6), .al .str, .al (.named 0), .al (.named 2), .al (.named 3), .al .i6, .al (.named 9)], fun n a b c d e f g h j k l m o p q => .opt (N.server_host_there_t n (N.Tserver_host.mk (N.TServer.mk (N.TStore.mk (N.TDisk.mk k l a b) (N.TState.mk m o c)) d p q e f g h j) [])) fun x_ => .ret (.ret [.bv x_], [.bx (.agg 25 [.agg 10 [.agg 5 [.agg 1 [.own 1, .own 2, .iv a, .bv b], .agg 4 [.own 3, .own 4, .iv c]], .nv 8 d, .own 5, .own 6, .iv e, .iv f, .iv g, .bv h, .iv j], .nils]), .al .str k, .al (.named 0) l, .al (.named 2) m, .al (.named 3) o, .al .i6 p, .al (.named 9) q])⟩ }
theorem y189 : InsOk Tryz.prog 189 x189.ins := goF Tryz.func189 rfl trivial trivial trivial (fun _ _ _ _ _ _ _ _ _ _ _ _ _ _ _ _ => by show _ = _; kernel_rfl)
def x189a : GFn E := { i := ⟨[.ptr 0 [], .iv], [.bx (s25_5 1 2 3 4 5 6 7), .al .str, .al (.named 0), .al (.named 2), .al (.named 3), .al .i6, .al (.named 9), .al (.named 9)], fun n a b c d e f g h j k l m o p q r => .opt (N.server_host_there_2_t n (N.Tserver_host.mk (N.TServer.mk (N.TStore.mk (N.TDisk.mk k l a b) (N.TState.mk m o c)) d p q e f g h j) r)) fun x_ => .ret (.ret [.bv x_], [.bx (.agg 25 [.agg 10 [.agg 5 [.agg 1 [.own 1, .own 2, .iv a, .bv b], .agg 4 [.own 3, .own 4, .iv c]], .nv 8 d, .own 5, .own 6, .iv e, .iv f, .iv g, .bv h, .iv j], .own 7]), .al .str k, .al (.named 0) l, .al (.named 2) m, .al (.named 3) o, .al .i6 p, .al (.named 9) q, .al (.named 9) r])⟩ }
theorem y189a : InsOk Tryz.prog 189 x189a.ins := goF Tryz.func189 rfl trivial trivial trivial (fun _ _ _ _ _ _ _ _ _ _ _ _ _ _ _ _ _ => by show _ = _; kernel_rfl)
def x189b : GFn E := { i := ⟨[.ptr 0 [], .iv], [.bx (s25_3 1 2 3 4 5 6 7 8), .al .str, .al (.named 0), .al (.named 2), .al (.named 3), .al (.named 6), .al (.named 7), .arr .fix .i6, .al (.named 9)], fun n a b c d e f g h j k l m o p q r => .opt (N.server_host_there_3_t n (N.Tserver_host.mk (N.TServer.mk (N.TStore.mk (N.TDisk.mk j k a b) (N.TState.mk l m c)) (N.TDesk.mk o p) q r d e f g h) [])) fun x_ => .ret (.ret [.bv x_], [.bx (.agg 25 [.agg 10 [.agg 5 [.agg 1 [.own 1, .own 2, .iv a, .bv b], .agg 4 [.own 3, .own 4, .iv c]], .agg 8 [.own 5, .own 6], .own 7, .own 8, .iv d, .iv e, .iv f, .bv g, .iv h], .nils]), .al .str j, .al (.named 0) k, .al (.named 2) l, .al (.named 3) m, .al (.named 6) o, .al (.named 7) p, .arr .fix .i6 q, .al (.named 9) r])⟩ }
theorem y189b : InsOk Tryz.prog 189 x189b.ins := goF Tryz.func189 rfl trivial trivial trivial (fun _ _ _ _ _ _ _ _ _ _ _ _ _ _ _ _ _ => by show _ = _; kernel_rfl)
def x189c : GFn E := { i := ⟨[.ptr 0 [], .iv], [.bx (s25_6 1 2 3 4 5 6), .al .str, .al (.named 0), .al (.named 2), .al (.named 3), .arr .fix .i6, .al (.named 9)], fun n a b c d e f g h j k l m o p q => .opt (N.server_host_there_4_t n (N.Tserver_host.mk (N.TServer.mk (N.TStore.mk (N.TDisk.mk k l a b) (N.TState.mk m o c)) d p q e f g h j) [])) fun x_ => .ret (.ret [.bv x_], [.bx (.agg 25 [.agg 10 [.agg 5 [.agg 1 [.own 1, .own 2, .iv a, .bv b], .agg 4 [.own 3, .own 4, .iv c]], .nv 8 d, .own 5, .own 6, .iv e, .iv f, .iv g, .bv h, .iv j], .nils]), .al .str k, .al (.named 0) l, .al (.named 2) m, .al (.named 3) o, .arr .fix .i6 p, .al (.named 9) q])⟩ }
theorem y189c : InsOk Tryz.prog 189 x189c.ins := goF Tryz.func189 rfl trivial trivial trivial (fun _ _ _ _ _ _ _ _ _ _ _ _ _ _ _ _ => by show _ = _; kernel_rfl)
def P189 : SP := (189, .full [.ptr, .data .i6] false (fullF [x189.ins, x189a.ins, x189b.ins, x189c.ins]))
theorem p189 : OK P189 := fullI_ok ok Tryz.call189 ⟨y189, y189a, y189b, y189c, trivial⟩
def x190 : GFn E := { keep := true, i := ⟨[.ptr 0 [], .iv, .v (.named 9)], [.bx (s25_6 1 2 3 4 5 6), .al .str, .al (.named 0), .arr .fix (.named 2), .al (.named 3), .al .i6, .al (.named 9)], fun a t b c d e f g h j k l m n o p q => .opt (N.server_host_done_t a t (N.Tserver_host.mk (N.TServer.mk (N.TStore.mk (N.TDisk.mk l m b c) (N.TState.mk n o d)) e p q f g h j k) [])) fun x_ => .ret (.ret [], [.bx (g25 x_ 1 2 3 4 5 6 8), .al .str x_.Server.Store.D.Last, .al (.named 0) x_.Server.Store.D.Wait, .arr .fix (.named 2) x_.Server.Store.S.Files, .al (.named 3) x_.Server.Store.S.Marks, .al .i6 x_.Server.Seen, .al (.named 9) x_.Server.Told, .dead, .al (.named 9) x_.told])⟩ }
theorem y190 : InsOk Tryz.prog 190 x190.ins := goF Tryz.func190 rfl trivial trivial trivial (fun _ _ _ _ _ _ _ _ _ _ _ _ _ _ _ _ _ => by show _ = _; kernel_rfl)
def x190a : GFn E := { keep := true, i := ⟨[.ptr 0 [], .iv, .v (.named 9)], [.bx (s25_6 1 2 3 4 5 6), .al .str, .al (.named 0), .al (.named 2), .al (.named 3), .al .i6, .al (.named 9)], fun a t b c d e f g h j k l m n o p q => .opt (N.server_host_done_2_t a t (N.Tserver_host.mk (N.TServer.mk (N.TStore.mk (N.TDisk.mk l m b c) (N.TState.mk n o d)) e p q f g h j k) [])) fun x_ => .ret (.ret [], [.bx (g25 x_ 1 2 3 4 5 6 8), .al .str x_.Server.Store.D.Last, .al (.named 0) x_.Server.Store.D.Wait, .al (.named 2) x_.Server.Store.S.Files, .al (.named 3) x_.Server.Store.S.Marks, .al .i6 x_.Server.Seen, .al (.named 9) x_.Server.Told, .dead, .al (.named 9) x_.told])⟩ }
theorem y190a : InsOk Tryz.prog 190 x190a.ins := goF Tryz.func190 rfl trivial trivial trivial (fun _ _ _ _ _ _ _ _ _ _ _ _ _ _ _ _ _ => by show _ = _; kernel_rfl)
def x190b : GFn E := { i := ⟨[.ptr 0 [], .iv, .v (.named 9)], [.bx (s25_5 1 2 3 4 5 6 7), .al .str, .al (.named 0), .arr .fix (.named 2), .al (.named 3), .al .i6, .al (.named 9), .al (.named 9)], fun a t b c d e f g h j k l m n o p q r => .opt (N.server_host_done_3_t a t (N.Tserver_host.mk (N.TServer.mk (N.TStore.mk (N.TDisk.mk l m b c) (N.TState.mk n o d)) e p q f g h j k) r)) fun x_ => .ret (.ret [], [.bx (g25 x_ 1 2 3 4 5 6 7), .al .str x_.Server.Store.D.Last, .al (.named 0) x_.Server.Store.D.Wait, .arr .fix (.named 2) x_.Server.Store.S.Files, .al (.named 3) x_.Server.Store.S.Marks, .al .i6 x_.Server.Seen, .al (.named 9) x_.Server.Told, .al (.named 9) x_.told])⟩ }
theorem y190b : InsOk Tryz.prog 190 x190b.ins := goF Tryz.func190 rfl trivial trivial trivial (fun _ _ _ _ _ _ _ _ _ _ _ _ _ _ _ _ _ _ => by show _ = _; kernel_rfl)
def x190c : GFn E := { i := ⟨[.ptr 0 [], .iv, .v (.named 9)], [.bx (s25_5 1 2 3 4 5 6 7), .al .str, .al (.named 0), .al (.named 2), .al (.named 3), .al .i6, .al (.named 9), .al (.named 9)], fun a t b c d e f g h j k l m n o p q r => .opt (N.server_host_done_4_t a t (N.Tserver_host.mk (N.TServer.mk (N.TStore.mk (N.TDisk.mk l m b c) (N.TState.mk n o d)) e p q f g h j k) r)) fun x_ => .ret (.ret [], [.bx (g25 x_ 1 2 3 4 5 6 7), .al .str x_.Server.Store.D.Last, .al (.named 0) x_.Server.Store.D.Wait, .al (.named 2) x_.Server.Store.S.Files, .al (.named 3) x_.Server.Store.S.Marks, .al .i6 x_.Server.Seen, .al (.named 9) x_.Server.Told, .al (.named 9) x_.told])⟩ }
theorem y190c : InsOk Tryz.prog 190 x190c.ins := goF Tryz.func190 rfl trivial trivial trivial (fun _ _ _ _ _ _ _ _ _ _ _ _ _ _ _ _ _ _ => by show _ = _; kernel_rfl)
def x190d : GFn E := { keep := true, i := ⟨[.ptr 0 [], .iv, .v (.named 9)], [.bx (s25_3 1 2 3 4 5 6 7 8), .al .str, .al (.named 0), .al (.named 2), .al (.named 3), .al (.named 6), .al (.named 7), .arr .fix .i6, .al (.named 9)], fun a t b c d e f g h j k l m n o p q r => .opt (N.server_host_done_5_t a t (N.Tserver_host.mk (N.TServer.mk (N.TStore.mk (N.TDisk.mk k l b c) (N.TState.mk m n d)) (N.TDesk.mk o p) q r e f g h j) [])) fun x_ => .ret (.ret [], [.bx (g25_2 x_ 1 2 3 4 5 6 7 8 10), .al .str x_.Server.Store.D.Last, .al (.named 0) x_.Server.Store.D.Wait, .al (.named 2) x_.Server.Store.S.Files, .al (.named 3) x_.Server.Store.S.Marks, .al (.named 6) x_.Server.Desk.Leases, .al (.named 7) x_.Server.Desk.Line, .arr .fix .i6 x_.Server.Seen, .al (.named 9) x_.Server.Told, .dead, .al (.named 9) x_.told])⟩ }
theorem y190d : InsOk Tryz.prog 190 x190d.ins := goF Tryz.func190 rfl trivial trivial trivial (fun _ _ _ _ _ _ _ _ _ _ _ _ _ _ _ _ _ _ => by show _ = _; kernel_rfl)
def x190e : GFn E := { keep := true, i := ⟨[.ptr 0 [], .iv, .v (.named 9)], [.bx (s25_10 1 2 3 4), .al (.named 6), .al (.named 7), .arr .fix .i6, .al (.named 9)], fun a t b c d e f g h j k l => .opt (N.server_host_done_6_t a t (N.Tserver_host.mk (N.TServer.mk b (N.TDesk.mk h j) k l c d e f g) [])) fun x_ => .ret (.ret [], [.bx (g25_8 x_ 1 2 3 4 6), .al (.named 6) x_.Server.Desk.Leases, .al (.named 7) x_.Server.Desk.Line, .arr .fix .i6 x_.Server.Seen, .al (.named 9) x_.Server.Told, .dead, .al (.named 9) x_.told])⟩ }
theorem y190e : InsOk Tryz.prog 190 x190e.ins := goF Tryz.func190 rfl trivial trivial trivial (fun _ _ _ _ _ _ _ _ _ _ _ _ => by show _ = _; kernel_rfl)
end
end Go.Proofs.YthgefhjknifehaaGreatDoor.W

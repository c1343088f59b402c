/- The seat's functions, and the nice ones (1). -/
import Derived.Test.YtlejgahbbfeagaaGreatDoorSeat1
import Derived.Test.YtlejgahbbfeagaaGreatDoorSeat3
import Derived.Test.YtlejgahbbfeagaaGreatDoorSeat2
set_option linter.unusedVariables false
set_option maxRecDepth 100000
namespace Go.Proofs.YtlejgahbbfeagaaGreatDoor.V
open Go Go.Proofs.YtlejgahbbfeagaaGreatDoor.D
noncomputable section
@[reducible] def g13 (z:N.ax) (n0 n1 n2 n3 n4 n5 n6:Nat):az E.T:= .agg 13 [.agg 10 [.agg 5 [.agg 1 [.own n0,.own n1,.iv z.Server.aA.D.gR,.bv z.Server.aA.D.Down],.agg 4 [.own n2,.own n3,.iv z.Server.aA.S.aS]],.nv 8 z.Server.bd,.own n4,.own n5,.iv z.Server.gQ,.iv z.Server.l6,.iv z.Server.DZ,.bv z.Server.Live,.iv z.Server.gP],.own n6]
@[reducible] def zo (z:N.ax) (n0 n1 n2 n3 n4 n5 n6 n7 n8:Nat):az E.T:= .agg 13 [.agg 10 [.agg 5 [.agg 1 [.own n0,.own n1,.iv z.Server.aA.D.gR,.bv z.Server.aA.D.Down],.agg 4 [.own n2,.own n3,.iv z.Server.aA.S.aS]],.agg 8 [.own n4,.own n5],.own n6,.own n7,.iv z.Server.gQ,.iv z.Server.l6,.iv z.Server.DZ,.bv z.Server.Live,.iv z.Server.gP],.own n8]
@[reducible] def se (n0 n1 n2 n3 n4 n5 n6 n7:Nat):Sh:= .agg 13 [.agg 10 [.agg 5 [.agg 1 [.own n0,.own n1,.iv,.v .bool],.agg 4 [.own n2,.own n3,.iv]],.agg 8 [.own n4,.own n5],.own n6,.own n7,.iv,.iv,.iv,.v .bool,.iv],.bj]
@[reducible] def xS (z:N.ax) (n0 n1 n2 n3:Nat):az E.T:= .agg 13 [.agg 10 [.nv 5 z.Server.aA,.agg 8 [.own n0,.own n1],.own n2,.own n3,.iv z.Server.gQ,.iv z.Server.l6,.iv z.Server.DZ,.bv z.Server.Live,.iv z.Server.gP],.bj]
@[reducible] def FA (z:N.ax) (n0 n1 n2:Nat):az E.T:= .agg 13 [.agg 10 [.nv 5 z.Server.aA,.nv 8 z.Server.bd,.own n0,.own n1,.iv z.Server.gQ,.iv z.Server.l6,.iv z.Server.DZ,.bv z.Server.Live,.iv z.Server.gP],.own n2]
@[reducible] def HE (z:N.ax) (n0 n1 n2 n3 n4:Nat):az E.T:= .agg 13 [.agg 10 [.nv 5 z.Server.aA,.agg 8 [.own n0,.own n1],.own n2,.own n3,.iv z.Server.gQ,.iv z.Server.l6,.iv z.Server.DZ,.bv z.Server.Live,.iv z.Server.gP],.own n4]
@[reducible] def G5 (n0 n1 n2 n3 n4 n5:Nat):Sh:= .agg 13 [.agg 10 [.agg 5 [.agg 1 [.own n0,.own n1,.iv,.v .bool],.agg 4 [.own n2,.own n3,.iv]],.v (.named 8),.own n4,.own n5,.iv,.iv,.iv,.v .bool,.iv],.bj]
@[reducible] def QM (z:N.ax) (n0 n1 n2 n3 n4 n5 n6 n7:Nat):az E.T:= .agg 13 [.agg 10 [.agg 5 [.agg 1 [.own n0,.own n1,.iv z.Server.aA.D.gR,.bv z.Server.aA.D.Down],.agg 4 [.own n2,.own n3,.iv z.Server.aA.S.aS]],.agg 8 [.own n4,.own n5],.own n6,.own n7,.iv z.Server.gQ,.iv z.Server.l6,.iv z.Server.DZ,.bv z.Server.Live,.iv z.Server.gP],.bj]
@[reducible] def Nd (n0 n1 n2 n3 n4 n5 n6:Nat):Sh:= .agg 13 [.agg 10 [.agg 5 [.agg 1 [.own n0,.own n1,.iv,.v .bool],.agg 4 [.own n2,.own n3,.iv]],.v (.named 8),.own n4,.own n5,.iv,.iv,.iv,.v .bool,.iv],.own n6]
@[reducible] def g1 (z:N.aN):az E.T:= .agg 1 [.bj,.bj,.iv z.gR,.bv z.Down]
@[reducible] def g10 (z:N.aI):az E.T:= .agg 10 [.agg 5 [.agg 1 [.bj,.bj,.iv z.aA.D.gR,.bv z.aA.D.Down],.agg 4 [.bj,.bj,.iv z.aA.S.aS]],.agg 8 [.bj,.bj],.bj,.bj,.iv z.gQ,.iv z.l6,.iv z.DZ,.bv z.Live,.iv z.gP]
@[reducible] def g12 (z:N.bp) (n0:Nat):az E.T:= .agg 12 [.iv z.Kind,.iv z.bn,.iv z.aS,.iv z.Seq,.sv z.Name,.iv z.aX,.iv z.Mode,.own n0]
@[reducible] def LP (n0 n1 n2 n3:Nat):Sh:= .agg 13 [.agg 10 [.v (.named 5),.agg 8 [.own n0,.own n1],.own n2,.own n3,.iv,.iv,.iv,.v .bool,.iv],.bj]
@[reducible] def LO (n0 n1:Nat):Sh:= .agg 13 [.agg 10 [.v (.named 5),.v (.named 8),.own n0,.own n1,.iv,.iv,.iv,.v .bool,.iv],.bj]
@[reducible] def TZ (z:N.aI) (n0:Nat):az E.T:= .agg 10 [.nv 5 z.aA,.agg 8 [.bj,.bj],.own n0,.bj,.iv z.gQ,.iv z.l6,.iv z.DZ,.bv z.Live,.iv z.gP]
def XR:cg E:={i:=cE [.i6] [(.slice (.named 3))] N.Fh}
theorem acv:aM Tryz.prog 157 XR.ins:=go Tryz.func157 rfl trivial trivial trivial (fun _=>by show _=_;kernel_rfl)
def aaa:SP:=(157,.pure [.i6] (bz [XR.ins]))
theorem aec:OK aaa:=aJ Tryz.call157 ⟨acv,trivial⟩
def x71:cg E:={S:=[aaa],i:=cE [] [(.named 4)] N.Dq}
theorem y71:aM Tryz.prog 71 x71.ins:=go Tryz.func71 rfl ⟨aec,trivial⟩ trivial trivial (by show _=_;kernel_rfl)
def P71:SP:=(71,.pure [] (bz [x71.ins]))
theorem p71:OK P71:=aJ Tryz.call71 ⟨y71,trivial⟩
def Xf:cg E:={i:=⟨[.iv],[],fun v=> .wH (N.qS v) fun x_=> .ret (.ret [.bv x_],[])⟩}
theorem abQ:aM Tryz.prog 229 Xf.ins:=go Tryz.func229 rfl trivial trivial trivial (fun _=>by show _=_;kernel_rfl)
def S3:SP:=(229,.pure [.i6] (bz [Xf.ins]))
theorem Ux:OK S3:=aJ Tryz.call229 ⟨abQ,trivial⟩
def WU:cg E:={ls:=[{ks:=[0,6,7,8],rs:=[0,2],ins:=some [⟨[.v .str,.own 0,.iv,.iv],[.al (.int .u8)],fun a t7 t8 r0=>⟨t8,N.sC a t7 r0,fun v_=>([.sv a,.own 0,.iv t7,.iv v_],[.al (.int .u8) r0]),fun x_=>bf x_ (fun b=> .ret (.ret,[.sv a,.bv false],[.al (.int .u8) r0])) (fun c=> .ret (.exit 0,[.sv a,.undef],[.al (.int .u8) r0]))⟩⟩]}],i:=cE [.str] [.bool] (N.CY N.fuel)}
theorem abB:aM Tryz.prog 246 WU.ins:=go Tryz.func246 rfl trivial trivial ⟨⟨fun _ _ _ _=>⟨rfl,fun _=>by show _=_;kernel_rfl⟩,trivial⟩,trivial⟩ (fun _=>by show _=_;kernel_rfl)
def Rr:SP:=(246,.pure [.str] (bz [WU.ins]))
theorem R2:OK Rr:=aJ Tryz.call246 ⟨abB,trivial⟩
def Xd:cg E:={S:=[S3,Rr],i:=cE [(.named 2)] [.bool] (N.pE N.fuel)}
theorem abO:aM Tryz.prog 231 Xd.ins:=go Tryz.func231 rfl ⟨Ux,R2,trivial⟩ trivial trivial (fun _=>by show _=_;kernel_rfl)
def ZT:SP:=(231,.pure [(.named 2)] (bz [Xd.ins]))
theorem adH:OK ZT:=aJ Tryz.call231 ⟨abO,trivial⟩
def Xe:cg E:={i:=⟨[.v (.named 2),.ptr 0 []],[.box true (.v (.named 2))],fun g o0=> .wH (N.qT g o0) fun x_=> .ret (.ret [.bv x_],[.box true (.nv 2 o0)])⟩}
theorem abP:aM Tryz.prog 230 Xe.ins:=go Tryz.func230 rfl trivial trivial trivial (fun _ _=>by show _=_;kernel_rfl)
def ZU:SP:=(230,.full [.data (.named 2),.ptr] true (cC [Xe.ins]))
theorem adI:OK ZU:=br ok Tryz.call230 ⟨abP,trivial⟩
def Wg:cg E:={i:=⟨[.v (.named 2),.ptr 0 []],[.box true (.v .str)],fun f o0=> .wH (.ret (N.l4 f o0)) fun x_=> .ret (.ret [.bv x_],[.box true (.sv o0)])⟩}
theorem aaW:aM Tryz.prog 310 Wg.ins:=go Tryz.func310 rfl trivial trivial trivial (fun _ _=>by show _=_;kernel_rfl)
def Zm:SP:=(310,.full [.data (.named 2),.ptr] true (cC [Wg.ins]))
theorem ad6:OK Zm:=br ok Tryz.call310 ⟨aaW,trivial⟩
def Wv:cg E:={S:=[ZU],ls:=[{ks:=[0,1,7,8],rs:=[4],ins:=some [⟨[.v (.slice (.named 2)),.fn 230 [.ptr 0 []],.iv,.iv],[.box true (.v (.named 2))],fun s t7 t8 o0=>⟨t8,N.gu s t7 o0,fun v_=>([.val (.slice (.named 2)) s,.fn 230 [.ptr 0 []],.iv t7,.iv v_],[.box true (.nv 2 o0)]),fun x_=>bf x_ (fun a=> .ret (.ret,[.iv a],[.box true (.nv 2 o0)])) (fun b=> .ret (.exit 0,[.undef],[.box true (.nv 2 o0)]))⟩⟩]}],i:=⟨[.v (.slice (.named 2)),.fn 230 [.ptr 0 []]],[.box true (.v (.named 2))],fun s o0=> .opt (N.iC N.fuel s o0) fun x_=> .ret (.ret [.iv x_],[.box true (.nv 2 o0)])⟩}
theorem abb:aM Tryz.prog 282 Wv.ins:=go Tryz.func282 rfl ⟨adI,trivial⟩ trivial ⟨⟨fun _ _ _ _=>⟨rfl,fun _=>by show _=_;kernel_rfl⟩,trivial⟩,trivial⟩ (fun _ _=>by show _=_;kernel_rfl)
def Tl:cg E:={S:=[Zm],ls:=[{ks:=[0,1,7,8],rs:=[4],ins:=some [⟨[.v (.slice (.named 2)),.fn 310 [.ptr 0 []],.iv,.iv],[.box true (.v .str)],fun s t7 t8 o0=>⟨t8,N.jS s t7 o0,fun v_=>([.val (.slice (.named 2)) s,.fn 310 [.ptr 0 []],.iv t7,.iv v_],[.box true (.sv o0)]),fun x_=>bf x_ (fun a=> .ret (.ret,[.iv a],[.box true (.sv o0)])) (fun b=> .ret (.exit 0,[.undef],[.box true (.sv o0)]))⟩⟩]}],i:=⟨[.v (.slice (.named 2)),.fn 310 [.ptr 0 []]],[.box true (.v .str)],fun s o0=> .opt (N.gv N.fuel s o0) fun x_=> .ret (.ret [.iv x_],[.box true (.sv o0)])⟩}
theorem VK:aM Tryz.prog 282 Tl.ins:=go Tryz.func282 rfl ⟨ad6,trivial⟩ trivial ⟨⟨fun _ _ _ _=>⟨rfl,fun _=>by show _=_;kernel_rfl⟩,trivial⟩,trivial⟩ (fun _ _=>by show _=_;kernel_rfl)
def U8:SP:=(282,.full [.data (.slice (.named 2)),.func] true (cC [Wv.ins,Tl.ins]))
theorem Yy:OK U8:=br ok Tryz.call282 ⟨abb,VK,trivial⟩
def Xc:cg E:={S:=[U8],i:=⟨[.v (.slice (.named 2)),.fn 230 [.ptr 0 []]],[.box true (.v (.named 2))],fun s o0=> .opt (N.fY N.fuel s o0) fun x_=> .ret (.ret [.bv x_],[.box true (.nv 2 o0)])⟩}
theorem abN:aM Tryz.prog 232 Xc.ins:=go Tryz.func232 rfl ⟨Yy,trivial⟩ trivial trivial (fun _ _=>by show _=_;kernel_rfl)
def ZS:SP:=(232,.full [.data (.slice (.named 2)),.func] true (cC [Xc.ins]))
theorem adG:OK ZS:=br ok Tryz.call232 ⟨abN,trivial⟩
def W9:cg E:={S:=[S3],i:=⟨[.v (.named 3)],[],fun m=> .wH (N.pD m) fun x_=> .ret (.ret [.bv x_],[])⟩}
theorem abK:aM Tryz.prog 235 W9.ins:=go Tryz.func235 rfl ⟨Ux,trivial⟩ trivial trivial (fun _=>by show _=_;kernel_rfl)
def ZP:SP:=(235,.pure [(.named 3)] (bz [W9.ins]))
theorem adD:OK ZP:=aJ Tryz.call235 ⟨abK,trivial⟩
def Xa:cg E:={S:=[ZP],i:=⟨[.v (.named 3)],[],fun m=> .wH (.ret (N.fe m)) fun x_=> .ret (.ret [.bv x_],[])⟩}
theorem abL:aM Tryz.prog 234 Xa.ins:=go Tryz.func234 rfl ⟨adD,trivial⟩ trivial trivial (fun _=>by show _=_;kernel_rfl)
def ZQ:SP:=(234,.pure [(.named 3)] (bz [Xa.ins]))
theorem adE:OK ZQ:=aJ Tryz.call234 ⟨abL,trivial⟩
def Wu:cg E:={S:=[ZQ],ls:=[{ks:=[0,1,7,8],rs:=[4],ins:=some [⟨[.v (.slice (.named 3)),.fn 234 [],.iv,.iv],[],fun s t7 t8=>⟨t8,N.gr s t7,fun v_=>([.val (.slice (.named 3)) s,.fn 234 [],.iv t7,.iv v_],[]),fun x_=>bf x_ (fun a=> .ret (.ret,[.iv a],[])) (fun b=> .ret (.exit 0,[.undef],[]))⟩⟩]}],i:=⟨[.v (.slice (.named 3)),.fn 234 []],[],fun s=> .opt (N.iB N.fuel s) fun x_=> .ret (.ret [.iv x_],[])⟩}
theorem aba:aM Tryz.prog 283 Wu.ins:=go Tryz.func283 rfl ⟨adE,trivial⟩ trivial ⟨⟨fun _ _ _=>⟨rfl,fun _=>by show _=_;kernel_rfl⟩,trivial⟩,trivial⟩ (fun _=>by show _=_;kernel_rfl)
def Zu:SP:=(283,.full [.data (.slice (.named 3)),.func] true (cC [Wu.ins]))
theorem adh:OK Zu:=br ok Tryz.call283 ⟨aba,trivial⟩
def Xb:cg E:={S:=[Zu],i:=⟨[.v (.slice (.named 3)),.fn 234 []],[],fun s=> .opt (N.fX N.fuel s) fun x_=> .ret (.ret [.bv x_],[])⟩}
theorem abM:aM Tryz.prog 233 Xb.ins:=go Tryz.func233 rfl ⟨adh,trivial⟩ trivial trivial (fun _=>by show _=_;kernel_rfl)
def ZR:SP:=(233,.full [.data (.slice (.named 3)),.func] true (cC [Xb.ins]))
theorem adF:OK ZR:=br ok Tryz.call233 ⟨abM,trivial⟩
def XQ:cg E:={S:=[S3,ZT,ZS,ZR],ls:=[{ks:=[1,23,24,25],rs:=[1,2],ins:=some [⟨[.ptr 0 [],.v (.slice (.named 2)),.iv,.iv],[.bx (.v (.named 4))],fun a b c s=>⟨c,N.sN N.fuel a b s,fun v_=>([.ptr 0 [],.val (.slice (.named 2)) a,.iv b,.iv v_],[.bx (.nv 4 s)]),fun x_=>bf x_ (fun d=> .ret (.ret,[.ptr 0 [],.bv false],[.bx (.nv 4 s),.bx (.nv 2 d)])) (fun e=> .ret (.exit 0,[.ptr 0 [],.undef],[.bx (.nv 4 s)]))⟩⟩]}],i:=cE [(.named 4)] [.bool] (N.wM N.fuel)}
theorem acu:aM Tryz.prog 160 XQ.ins:=go Tryz.func160 rfl ⟨Ux,adH,adG,adF,trivial⟩ trivial ⟨⟨fun _ _ _ _=>⟨rfl,fun _=>by show _=_;kernel_rfl⟩,trivial⟩,trivial⟩ (fun _=>by show _=_;kernel_rfl)
def Vr:SP:=(160,.pure [(.named 4)] (bz [XQ.ins]))
theorem YV:OK Vr:=aJ Tryz.call160 ⟨acu,trivial⟩
noncomputable def af4:List (az E.T)→St E.T→Tree (iR E.T×St E.T):=rK E (.int .u8)
def Rs:SP:=(236,.full [.data (.slice (.int .u8))] false af4)
theorem Ze: ∃R0 C R id o1 o2,Tryz.f236.body=some (.seq R0 (.seq (.seq (.region id #[o1,o2] false) C) R))∧(o1.op= .move (.tmp 0)∧o1.dst=some 3∧o1.guard=none)∧(o2.op= .binOp .eql 44 (.tmp 3) (.const (.slice none 0 0)) 44∧o2.dst=some 4∧o2.guard=none)∧
  ic E Tryz.f236 (.int .u8) R0 C R (fun xs=>put E (frame E Tryz.f236 [.val (.slice (.int .u8)) xs]) (some 2) .bj) (fun xs=>put E (put E (put E (put E (frame E Tryz.f236 [.val (.slice (.int .u8)) xs]) (some 2) .bj) (some 3) (.val (.slice (.int .u8)) xs)) (some 4) (.val .bool true)) (some 2) .bj) (fun xs n=>put E (put E (put E (put E (put E (put E (put E (frame E Tryz.f236 [.val (.slice (.int .u8)) xs]) (some 2) .bj) (some 3) (.val (.slice (.int .u8)) xs)) (some 4) (.val .bool false)) (some 5) .bj) (some 6) (.val (.slice (.int .u8)) xs)) (some 7) (.own n)) (some 2) (.own n)):=
 ⟨_,_,_,_,_,_,rfl,⟨rfl,rfl,rfl⟩,⟨rfl,rfl,rfl⟩,by
  constructor
  all_goals intros
  all_goals kernel_rfl⟩
theorem R3:OK Rs:=by
 obtain⟨R0,C,R,id,o1,o2,hb,h1,h2,hF⟩:=Ze
 exact⟨Tryz.call236,nN sound mix Tryz.func236 hb h1 h2 ⟨_,Tryz.underlying44⟩ hF⟩
def TA:cg E:={S:=[Rs],ls:=[{ks:=[0,1,2],rs:=[0,6],ins:=some [⟨[.own 0,.iv,.iv],[.al (.int .u8)],fun v n b=>⟨(n,b),N.nP v,fun v_=>([.own 0,.iv v,.iv v_.1],[.al (.int .u8) v_.2]),fun x_=> .ret (.exit 0,[.own 0,.undef],[.al (.int .u8) x_])⟩⟩]}],aH:=true,i:=⟨[.v (.slice (.int .u8)),.iv,.iv],[],fun b v n=> .opt (N.rN N.fuel b v n) fun x_=> .ret (.ret [.own 0],[.al (.int .u8) x_])⟩}
theorem VZ:aM Tryz.prog 161 TA.ins:=mD Tryz.func161 rfl ⟨R3,trivial⟩ trivial ⟨⟨fun _ _ _=>⟨rfl,fun _=>by show _=_;kernel_rfl⟩,trivial⟩,trivial⟩ (fun _ _ _=>by show _=_;kernel_rfl)
def T7:SP:=(161,.full [.data (.slice (.int .u8)),.data .i6,.data .i6] false (cC [TA.ins]))
theorem YT:OK T7:=br ok Tryz.call161 ⟨VZ,trivial⟩
def Tz:cg E:={S:=[Rs],aH:=true,i:=⟨[.v (.slice (.int .u8)),.v .str],[],fun b s=> .opt (N.sF b s) fun x_=> .ret (.ret [.own 0],[.al (.int .u8) x_])⟩}
theorem VY:aM Tryz.prog 172 Tz.ins:=mD Tryz.func172 rfl ⟨R3,trivial⟩ trivial trivial (fun _ _=>by show _=_;kernel_rfl)
def T6:SP:=(172,.full [.data (.slice (.int .u8)),.data .str] false (cC [Tz.ins]))
theorem YR:OK T6:=br ok Tryz.call172 ⟨VY,trivial⟩
def XO:cg E:={S:=[T6],aH:=true,i:=⟨[.v (.slice (.int .u8)),.v .str,.iv],[],fun b s n=> .opt (N.rB b s n) fun x_=> .ret (.ret [.own 0],[.al (.int .u8) x_])⟩}
theorem acr:aM Tryz.prog 162 XO.ins:=mD Tryz.func162 rfl ⟨YR,trivial⟩ trivial trivial (fun _ _ _=>by show _=_;kernel_rfl)
def aa9:SP:=(162,.full [.data (.slice (.int .u8)),.data .str,.data .i6] false (cC [XO.ins]))
theorem aea:OK aa9:=br ok Tryz.call162 ⟨acr,trivial⟩
def Uc:cg E:={S:=[Vr,T7,aa9],ls:=[{ks:=[1,2,3,18,19,20],rs:=[1,2,3],ik:=[(3,1)],ins:=some [⟨[.ptr 0 [],.bj,.own 1,.v (.slice (.named 3)),.iv,.iv],[.bx (.v (.named 4)),.al (.int .u8)],fun a c d s b=>⟨(d,b),N.s9 N.fuel a c s,fun v_=>([.ptr 0 [],.bj,.own 1,.val (.slice (.named 3)) a,.iv c,.iv v_.1],[.bx (.nv 4 s),.al (.int .u8) v_.2]),fun x_=> .ret (.exit 0,[.ptr 0 [],.bj,.own 1],[.bx (.nv 4 s),.al (.int .u8) x_])⟩⟩]},{ks:=[2,3,39,40,41],rs:=[2,3],ik:=[(3,1)],ins:=some [⟨[.bj,.own 1,.v (.slice (.named 2)),.iv,.iv],[.bx (.v (.named 4)),.al (.int .u8)],fun e f g o0 b=>⟨(g,b),N.s8 N.fuel e f o0,fun v_=>([.bj,.own 1,.val (.slice (.named 2)) e,.iv f,.iv v_.1],[.bx (.nv 4 o0),.al (.int .u8) v_.2]),fun x_=> .ret (.exit 2,[.bj,.own 1],[.bx (.nv 4 o0),.al (.int .u8) x_])⟩⟩]}],i:=cE [(.named 4)] [(.slice .str)] (N.xR N.fuel)}
theorem z74:tu Tryz.prog E 74 (ML E (jX Uc.S) (Uc.L Tryz.f74) 0 6 3 Tryz.f74):=O8 sound mix (S:=Uc.S) ⟨YV,YT,aea,trivial⟩ (L:=Uc.L Tryz.f74) (N:=0) (m:=6) (q:=3) Tryz.func74 rfl (by kernel_rfl) (tT (x:=Uc) ⟨⟨fun _ _ _ _ _=>⟨rfl,fun _=>by show _=_;kernel_rfl⟩,trivial⟩,⟨⟨fun _ _ _ _ _=>⟨rfl,fun _=>by show _=_;kernel_rfl⟩,trivial⟩,trivial⟩⟩) RL
theorem y74:aM Tryz.prog 74 Uc.ins:=vw z74 (fun _=>by show _=_;kernel_rfl)
def Zk:SP:=(74,.pure [(.named 4)] (bz [Uc.ins]))
theorem p74:OK Zk:=aJ Tryz.call74 ⟨y74,trivial⟩
def Yc:cg E:={S:=[P71,Zk],i:=cE [] [.i6] (N.A4 N.fuel)}
theorem acQ:aM Tryz.prog 109 Yc.ins:=go Tryz.func109 rfl ⟨p71,p74,trivial⟩ trivial trivial (by show _=_;kernel_rfl)
def Ru:SP:=(109,.pure [] (bz [Yc.ins]))
theorem R4:OK Ru:=aJ Tryz.call109 ⟨acQ,trivial⟩
def x73:cg E:={S:=[Ru],i:=cE [] [.i6] (N.A0 N.fuel)}
theorem y73:aM Tryz.prog 73 x73.ins:=go Tryz.func73 rfl ⟨R4,trivial⟩ trivial trivial (by show _=_;kernel_rfl)
def P73:SP:=(73,.pure [] (bz [x73.ins]))
theorem p73:OK P73:=aJ Tryz.call73 ⟨y73,trivial⟩
def Ww:cg E:={i:=⟨[.v (.int .u64),.v (.int .u64)],[],fun x y=> .wH (.ret (N.fP x y)) fun x_=> .ret (.ret [.val (.int .u64) x_.1,.val (.int .u64) x_.2],[])⟩}
theorem abc:aM Tryz.prog 278 Ww.ins:=go Tryz.func278 rfl trivial trivial trivial (fun _ _=>by show _=_;kernel_rfl)
def aeW:SP:=(278,.pure [(.int .u64),(.int .u64)] (bz [Ww.ins]))
theorem adi:OK aeW:=aJ Tryz.call278 ⟨abc,trivial⟩
def Vs:SP:=(158,.pure [.slice .str,.int .i64] P1)
theorem aeb:nQ Tryz.prog E Vs.1 Vs.2:=RW (OH adi.2 (fun m=>rfl))
def x72:cg E:={S:=[Vs,S6],i:=cE [.i6] [(.named 1)] N.FN}
theorem y72:aM Tryz.prog 72 x72.ins:=go Tryz.func72 rfl ⟨aeb,YW,trivial⟩ trivial trivial (fun _=>by show _=_;kernel_rfl)
def P72:SP:=(72,.pure [.i6] (bz [x72.ins]))
theorem p72:OK P72:=aJ Tryz.call72 ⟨y72,trivial⟩
noncomputable def B80:List (az E.T)→St E.T→Tree (iR E.T×St E.T):=rK E .str
def Zj:SP:=(80,.full [.data (.slice .str)] false B80)
theorem aeI: ∃R0 C R id o1 o2,Tryz.f80.body=some (.seq R0 (.seq (.seq (.region id #[o1,o2] false) C) R))∧(o1.op= .move (.tmp 0)∧o1.dst=some 3∧o1.guard=none)∧(o2.op= .binOp .eql 24 (.tmp 3) (.const (.slice none 0 0)) 24∧o2.dst=some 4∧o2.guard=none)∧
  ic E Tryz.f80 .str R0 C R (fun xs=>put E (frame E Tryz.f80 [.val (.slice .str) xs]) (some 2) .bj) (fun xs=>put E (put E (put E (put E (frame E Tryz.f80 [.val (.slice .str) xs]) (some 2) .bj) (some 3) (.val (.slice .str) xs)) (some 4) (.val .bool true)) (some 2) .bj) (fun xs n=>put E (put E (put E (put E (put E (put E (put E (frame E Tryz.f80 [.val (.slice .str) xs]) (some 2) .bj) (some 3) (.val (.slice .str) xs)) (some 4) (.val .bool false)) (some 5) .bj) (some 6) (.val (.slice .str) xs)) (some 7) (.own n)) (some 2) (.own n)):=
 ⟨_,_,_,_,_,_,rfl,⟨rfl,rfl,rfl⟩,⟨rfl,rfl,rfl⟩,by
  constructor
  all_goals intros
  all_goals kernel_rfl⟩
theorem p80:OK Zj:=by
 obtain⟨R0,C,R,id,o1,o2,hb,h1,h2,hF⟩:=aeI
 exact⟨Tryz.call80,nN sound mix Tryz.func80 hb h1 h2 ⟨_,Tryz.underlying24⟩ hF⟩
noncomputable def B81:List (az E.T)→St E.T→Tree (iR E.T×St E.T):=rK E (.named 0)
def Zi:SP:=(81,.full [.data (.slice (.named 0))] false B81)
theorem aeH: ∃R0 C R id o1 o2,Tryz.f81.body=some (.seq R0 (.seq (.seq (.region id #[o1,o2] false) C) R))∧(o1.op= .move (.tmp 0)∧o1.dst=some 3∧o1.guard=none)∧(o2.op= .binOp .eql 25 (.tmp 3) (.const (.slice none 0 0)) 25∧o2.dst=some 4∧o2.guard=none)∧
  ic E Tryz.f81 (.named 0) R0 C R (fun xs=>put E (frame E Tryz.f81 [.val (.slice (.named 0)) xs]) (some 2) .bj) (fun xs=>put E (put E (put E (put E (frame E Tryz.f81 [.val (.slice (.named 0)) xs]) (some 2) .bj) (some 3) (.val (.slice (.named 0)) xs)) (some 4) (.val .bool true)) (some 2) .bj) (fun xs n=>put E (put E (put E (put E (put E (put E (put E (frame E Tryz.f81 [.val (.slice (.named 0)) xs]) (some 2) .bj) (some 3) (.val (.slice (.named 0)) xs)) (some 4) (.val .bool false)) (some 5) .bj) (some 6) (.val (.slice (.named 0)) xs)) (some 7) (.own n)) (some 2) (.own n)):=
 ⟨_,_,_,_,_,_,rfl,⟨rfl,rfl,rfl⟩,⟨rfl,rfl,rfl⟩,by
  constructor
  all_goals intros
  all_goals kernel_rfl⟩
theorem p81:OK Zi:=by
 obtain⟨R0,C,R,id,o1,o2,hb,h1,h2,hF⟩:=aeH
 exact⟨Tryz.call81,nN sound mix Tryz.func81 hb h1 h2 ⟨_,Tryz.underlying25⟩ hF⟩
def XN:cg E:={S:=[Zj,Zi],aH:=true,i:=⟨[.v (.named 1)],[],fun d=> .wH (.ret (N.OZ d)) fun x_=> .ret (.ret [.agg 1 [.own 2,.own 3,.iv d.gR,.bv d.Down]],[.dead,.dead,.al .str d.aU,.al (.named 0) d.bC])⟩}
theorem acq:aM Tryz.prog 164 XN.ins:=mD Tryz.func164 rfl ⟨p80,p81,trivial⟩ trivial trivial (fun _=>by show _=_;kernel_rfl)
def Vp:SP:=(164,.full [.data (.named 1)] false (cC [XN.ins]))
theorem YS:OK Vp:=br ok Tryz.call164 ⟨acq,trivial⟩
def XM:cg E:={i:=⟨[.v (.named 1),.iv],[],fun d i=> .wH (N.vI d i) fun x_=> .ret (.ret [.bv x_],[])⟩}
theorem acp:aM Tryz.prog 165 XM.ins:=go Tryz.func165 rfl trivial trivial trivial (fun _ _=>by show _=_;kernel_rfl)
def aa8:SP:=(165,.pure [(.named 1),.i6] (bz [XM.ins]))
theorem ae9:OK aa8:=aJ Tryz.call165 ⟨acp,trivial⟩
def x75:cg E:={S:=[Vp,aa8],i:=cE [(.named 1),.i6,.str] [(.named 1),.bool] N.vJ}
theorem y75:aM Tryz.prog 75 x75.ins:=go Tryz.func75 rfl ⟨YS,ae9,trivial⟩ trivial trivial (fun _ _ _=>by show _=_;kernel_rfl)
def P75:SP:=(75,.pure [(.named 1),.i6,.str] (bz [x75.ins]))
theorem p75:OK P75:=aJ Tryz.call75 ⟨y75,trivial⟩
def XL:cg E:={i:=⟨[.ptr 0 [],.v (.named 0),.iv],[.bx (.agg 17 [.agg 1 [.own 1,.own 2,.iv,.v .bool]]),.al .str,.al (.named 0)],fun p n a b c d=> .opt (N.kH p n (N.dt.mk (N.aN.mk c d a b))) fun x_=> .ret (.ret [],[.bx (.agg 17 [.agg 1 [.own 1,.own 2,.iv x_.d.gR,.bv x_.d.Down]]),.al .str x_.d.aU,.al (.named 0) x_.d.bC])⟩}
theorem aco:aM Tryz.prog 166 XL.ins:=mD Tryz.func166 rfl trivial trivial trivial (fun _ _ _ _ _ _=>by show _=_;kernel_rfl)
def aa7:SP:=(166,.full [.ptr,.data (.named 0),.data .i6] false (cC [XL.ins]))
theorem ae8:OK aa7:=br ok Tryz.call166 ⟨aco,trivial⟩
def x76:cg E:={S:=[Vp,aa7],ls:=[{ks:=[2,4,18,19,20],rs:=[2,3,4],ins:=some [⟨[.ptr 1 [],.ptr 6 [],.v (.slice (.named 0)),.iv,.iv],[.bx (.v (.named 1)),.bx (.agg 1 [.bj,.bj,.iv,.v .bool]),.dead,.dead,.al .str,.al (.named 0),.bx (.agg 17 [.agg 1 [.own 4,.own 5,.iv,.v .bool]])],fun a b c o0 d e f g h j=>⟨(c,(N.aN.mk [] [] d e),(N.dt.mk (N.aN.mk f g h j))),N.rG a b o0,fun v_=>([.ptr 1 [],.ptr 6 [],.val (.slice (.named 0)) a,.iv b,.iv v_.1],[.bx (.nv 1 o0),.bx (g1 v_.2.1),.dead,.dead,.al .str v_.2.2.d.aU,.al (.named 0) v_.2.2.d.bC,.bx (.agg 17 [.agg 1 [.own 4,.own 5,.iv v_.2.2.d.gR,.bv v_.2.2.d.Down]])]),fun x_=> .ret (.exit 0,[.ptr 1 [],.undef,.ptr 6 []],[.bx (.nv 1 o0),.bx (g1 x_.1),.dead,.dead,.al .str x_.2.d.aU,.al (.named 0) x_.2.d.bC,.bx (.agg 17 [.agg 1 [.own 4,.own 5,.iv x_.2.d.gR,.bv x_.2.d.Down]])])⟩⟩]}],i:=cE [(.named 1)] [(.named 1),.bool] (N.vK N.fuel)}
theorem y76:aM Tryz.prog 76 x76.ins:=go Tryz.func76 rfl ⟨YS,ae8,trivial⟩ trivial ⟨⟨fun _ _ _ _ _ _ _ _ _ _=>⟨rfl,fun _=>by show _=_;kernel_rfl⟩,trivial⟩,trivial⟩ (fun _=>by show _=_;kernel_rfl)
def P76:SP:=(76,.pure [(.named 1)] (bz [x76.ins]))
theorem p76:OK P76:=aJ Tryz.call76 ⟨y76,trivial⟩
def x31:cg E:={S:=[P71,P72,P73,Zk,P75,P76],ls:=[{ks:=[0,1,2,9,10,11],rs:=[0,1,2],ins:=some [⟨[.ptr 0 [],.ptr 1 [],.ptr 2 [],.v (.slice .str),.iv,.iv],[.bx (.agg 5 [.agg 1 [.bj,.bj,.iv,.v .bool],.agg 4 [.bj,.bj,.iv]]),.bx (.v (.named 4)),.bx (.v (.named 1))],fun t9 a b c e f s d=>⟨(b,(N.bV.mk (N.aN.mk [] [] c e) (N.aG.mk [] [] f)),d),N.wL t9 a s,fun v_=>([.ptr 0 [],.ptr 1 [],.ptr 2 [],.val (.slice .str) t9,.iv a,.iv v_.1],[.bx (.agg 5 [.agg 1 [.bj,.bj,.iv v_.2.1.D.gR,.bv v_.2.1.D.Down],.agg 4 [.bj,.bj,.iv v_.2.1.S.aS]]),.bx (.nv 4 s),.bx (.nv 1 v_.2.2)]),fun x_=> .ret (.exit 0,[.ptr 0 [],.ptr 1 [],.ptr 2 []],[.bx (.agg 5 [.agg 1 [.bj,.bj,.iv x_.1.D.gR,.bv x_.1.D.Down],.agg 4 [.bj,.bj,.iv x_.1.S.aS]]),.bx (.nv 4 s),.bx (.nv 1 x_.2)])⟩⟩]}],i:=cE [] [(.named 5)] (N.A5 N.fuel)}
theorem y31:aM Tryz.prog 31 x31.ins:=go Tryz.func31 rfl ⟨p71,p72,p73,p74,p75,p76,trivial⟩ trivial ⟨⟨fun _ _ _ _ _ _ _ _=>⟨rfl,fun _=>by show _=_;kernel_rfl⟩,trivial⟩,trivial⟩ (by show _=_;kernel_rfl)
def P31:SP:=(31,.pure [] (bz [x31.ins]))
theorem p31:OK P31:=aJ Tryz.call31 ⟨y31,trivial⟩
def x30:cg E:={ls:=[{ks:=[2,4,5,13,14,15],rs:=[2,4,5],zR:=[.zR (.obj 2) [2] .i6],ins:=some [⟨[.ptr 0 [],.ptr 1 [],.ptr 2 [],.v (.slice (.named 3)),.iv,.iv],[.bx (.v (.named 5)),.bx (.agg 10 [.agg 5 [.agg 1 [.bj,.bj,.iv,.v .bool],.agg 4 [.bj,.bj,.iv]],.agg 8 [.bj,.bj],.bj,.bj,.iv,.iv,.iv,.v .bool,.iv]),.bx (.agg 10 [.v (.named 5),.agg 8 [.bj,.bj],.own 3,.bj,.iv,.iv,.iv,.v .bool,.iv]),.al .i6],fun a b c st d e f g h j k l m n o p q r s=>⟨(c,(N.aI.mk (N.bV.mk (N.aN.mk [] [] d e) (N.aG.mk [] [] f)) (N.b9.mk [] []) [] [] g h j k l),(N.aI.mk m (N.b9.mk [] []) s [] n o p q r)),N.ov a b st,fun v_=>([.ptr 0 [],.ptr 1 [],.ptr 2 [],.val (.slice (.named 3)) a,.iv b,.iv v_.1],[.bx (.nv 5 st),.bx (g10 v_.2.1),.bx (TZ v_.2.2 3),.al .i6 v_.2.2.Seen]),fun x_=> .ret (.exit 0,[.ptr 0 [],.ptr 1 [],.ptr 2 []],[.bx (.nv 5 st),.bx (g10 x_.1),.bx (TZ x_.2 3),.al .i6 x_.2.Seen])⟩⟩]}],i:=cE [(.named 5),.i6] [(.named 10)] (N.qY N.fuel)}
theorem y30:aM Tryz.prog 30 x30.ins:=go Tryz.func30 rfl trivial trivial ⟨⟨fun _ _ _ _ _ _ _ _ _ _ _ _ _ _ _ _ _ _ _=>⟨rfl,fun _=>by show _=_;kernel_rfl⟩,trivial⟩,trivial⟩ (fun _ _=>by show _=_;kernel_rfl)
def P30:SP:=(30,.pure [(.named 5),.i6] (bz [x30.ins]))
theorem p30:OK P30:=aJ Tryz.call30 ⟨y30,trivial⟩
def x12:cg E:={S:=[P30,P31],i:=cE [.i6] [(.named 10)] (N.w7 N.fuel)}
theorem y12:aM Tryz.prog 12 x12.ins:=go Tryz.func12 rfl ⟨p30,p31,trivial⟩ trivial trivial (fun _=>by show _=_;kernel_rfl)
def P12:SP:=(12,.pure [.i6] (bz [x12.ins]))
theorem p12:OK P12:=aJ Tryz.call12 ⟨y12,trivial⟩
def Yh:cg E:={i:=⟨[.iv,.iv],[],fun n a=> .wH (N.xg n a) fun x_=> .ret (.ret [.bv x_],[])⟩}
theorem acV:aM Tryz.prog 103 Yh.ins:=go Tryz.func103 rfl trivial trivial trivial (fun _ _=>by show _=_;kernel_rfl)
def aas:SP:=(103,.pure [.i6,.i6] (bz [Yh.ins]))
theorem aew:OK aas:=aJ Tryz.call103 ⟨acV,trivial⟩
def Yg:cg E:={ls:=[{ks:=[0,3],rs:=[0,2],ins:=some [⟨[.v .str,.iv],[],fun s i=>⟨i,N.kQ s,fun v_=>([.sv s,.iv v_],[]),fun x_=>bf x_ (fun a=> .ret (.ret,[.sv s,.bv false],[])) (fun b=> .ret (.exit 0,[.sv s,.undef],[]))⟩⟩]}],i:=cE [.str] [.bool] (N.ra N.fuel)}
theorem acU:aM Tryz.prog 104 Yg.ins:=go Tryz.func104 rfl trivial trivial ⟨⟨fun _ _=>⟨rfl,fun _=>by show _=_;kernel_rfl⟩,trivial⟩,trivial⟩ (fun _=>by show _=_;kernel_rfl)
def aar:SP:=(104,.pure [.str] (bz [Yg.ins]))
theorem aev:OK aar:=aJ Tryz.call104 ⟨acU,trivial⟩
def Xu:cg E:={ls:=[{ks:=[0,1,5],rs:=[4],ins:=some [⟨[.v (.slice (.named 11)),.v (.slice (.named 11)),.iv],[],fun a b i=>⟨i,N.ir a b,fun v_=>([.val (.slice (.named 11)) a,.val (.slice (.named 11)) b,.iv v_],[]),fun x_=>bf x_ (fun c=> .ret (.ret,[.bv false],[])) (fun d=> .ret (.exit 0,[.undef],[]))⟩⟩]}],i:=cE [(.slice (.named 11)),(.slice (.named 11))] [.bool] (N.nq N.fuel)}
theorem ac5:aM Tryz.prog 184 Xu.ins:=go Tryz.func184 rfl trivial trivial ⟨⟨fun _ _ _=>⟨rfl,fun _=>by show _=_;kernel_rfl⟩,trivial⟩,trivial⟩ (fun _ _=>by show _=_;kernel_rfl)
def Z5:SP:=(184,.pure [(.slice (.named 11)),(.slice (.named 11))] (bz [Xu.ins]))
theorem adV:OK Z5:=aJ Tryz.call184 ⟨ac5,trivial⟩
def Yf:cg E:={S:=[Z5],i:=cE [(.named 12),(.named 12)] [.bool] (N.pN N.fuel)}
theorem acT:aM Tryz.prog 105 Yf.ins:=go Tryz.func105 rfl ⟨adV,trivial⟩ trivial trivial (fun _ _=>by show _=_;kernel_rfl)
def aaq:SP:=(105,.pure [(.named 12),(.named 12)] (bz [Yf.ins]))
theorem aeu:OK aaq:=aJ Tryz.call105 ⟨acT,trivial⟩
def Ye:cg E:={i:=⟨[.v (.named 11)],[],fun w=> .wH (N.pK w) fun x_=> .ret (.ret [.bv x_],[])⟩}
theorem acS:aM Tryz.prog 106 Ye.ins:=go Tryz.func106 rfl trivial trivial trivial (fun _=>by show _=_;kernel_rfl)
def aap:SP:=(106,.pure [(.named 11)] (bz [Ye.ins]))
theorem aet:OK aap:=aJ Tryz.call106 ⟨acS,trivial⟩
def x41:cg E:={S:=[aas,aar,aaq,aap],ls:=[{ks:=[1,3,4,5],rs:=[1,2,3,4],ins:=some [⟨[.ptr 0 [],.ptr 1 [],.v .bool,.iv],[.bx (.v (.named 12)),.bx (.v (.named 12))],fun ok i a x=>⟨(ok,i),N.kS a x,fun v_=>([.ptr 0 [],.ptr 1 [],.bv v_.1,.iv v_.2],[.bx (.nv 12 a),.bx (.nv 12 x)]),fun x_=> .ret (.exit 1,[.ptr 0 [],.undef,.ptr 1 [],.bv x_],[.bx (.nv 12 a),.bx (.nv 12 x)])⟩⟩]}],i:=cE [(.named 12)] [.bool] (N.rf N.fuel)}
theorem y41:aM Tryz.prog 41 x41.ins:=go Tryz.func41 rfl ⟨aew,aev,aeu,aet,trivial⟩ trivial ⟨⟨fun _ _ _ _=>⟨rfl,fun _=>by show _=_;kernel_rfl⟩,trivial⟩,trivial⟩ (fun _=>by show _=_;kernel_rfl)
def P41:SP:=(41,.pure [(.named 12)] (bz [x41.ins]))
theorem p41:OK P41:=aJ Tryz.call41 ⟨y41,trivial⟩
def x67:cg E:={ls:=[{ks:=[1,7,8],rs:=[6,7],ins:=some [⟨[.iv,.own 0,.iv],[.al (.int .u8)],fun v i a=>⟨(i,a),N.Bk v,fun v_=>([.iv v,.own 0,.iv v_.1],[.al (.int .u8) v_.2]),fun x_=> .ret (.exit 0,[.undef,.own 0],[.al (.int .u8) x_])⟩⟩]}],i:=cE [(.slice (.int .u8)),.i6,.i6] [(.slice (.int .u8))] (N.zO N.fuel)}
theorem y67:aM Tryz.prog 67 x67.ins:=go Tryz.func67 rfl trivial trivial ⟨⟨fun _ _ _=>⟨rfl,fun _=>by show _=_;kernel_rfl⟩,trivial⟩,trivial⟩ (fun _ _ _=>by show _=_;kernel_rfl)
def P67:SP:=(67,.pure [(.slice (.int .u8)),.i6,.i6] (bz [x67.ins]))
theorem p67:OK P67:=aJ Tryz.call67 ⟨y67,trivial⟩
def x68:cg E:={i:=cE [(.slice (.int .u8)),.str] [(.slice (.int .u8))] N.xa}
theorem y68:aM Tryz.prog 68 x68.ins:=go Tryz.func68 rfl trivial trivial trivial (fun _ _=>by show _=_;kernel_rfl)
def P68:SP:=(68,.pure [(.slice (.int .u8)),.str] (bz [x68.ins]))
theorem p68:OK P68:=aJ Tryz.call68 ⟨y68,trivial⟩
def XS:cg E:={ls:=[{ks:=[0,3,4],rs:=[2,3],ins:=some [⟨[.v (.slice (.int .u8)),.iv,.iv],[],fun b c i=>⟨(c,i),N.qn N.fuel b,fun v_=>([.val (.slice (.int .u8)) b,.iv v_.1,.iv v_.2],[]),fun x_=> .ret (.exit 0,[.undef,.iv x_],[])⟩⟩]},{ks:=[0,3,4,5],rs:=[0,2,3,4],ins:=some [⟨[.v (.slice (.int .u8)),.iv,.iv,.iv],[],fun b c i k=>⟨(c,k),N.uK b i,fun v_=>([.val (.slice (.int .u8)) b,.iv v_.1,.iv i,.iv v_.2],[]),fun x_=> .ret (.exit 2,[.val (.slice (.int .u8)) b,.undef,.iv x_,.iv i],[])⟩⟩]}],i:=cE [(.slice (.int .u8))] [(.int .u16)] (N.zP N.fuel)}
theorem acw:aM Tryz.prog 156 XS.ins:=go Tryz.func156 rfl trivial trivial ⟨⟨fun _ _ _=>⟨rfl,fun _=>by show _=_;kernel_rfl⟩,trivial⟩,⟨⟨fun _ _ _ _=>⟨rfl,fun _=>by show _=_;kernel_rfl⟩,trivial⟩,trivial⟩⟩ (fun _=>by show _=_;kernel_rfl)
def aab:SP:=(156,.pure [(.slice (.int .u8))] (bz [XS.ins]))
theorem aed:OK aab:=aJ Tryz.call156 ⟨acw,trivial⟩
def x69:cg E:={S:=[aab,P67],i:=cE [(.slice (.int .u8))] [(.slice (.int .u8))] (N.rb N.fuel)}
theorem y69:aM Tryz.prog 69 x69.ins:=go Tryz.func69 rfl ⟨aed,p67,trivial⟩ trivial trivial (fun _=>by show _=_;kernel_rfl)
def P69:SP:=(69,.pure [(.slice (.int .u8))] (bz [x69.ins]))
theorem p69:OK P69:=aJ Tryz.call69 ⟨y69,trivial⟩
def x27:cg E:={S:=[P41,P67,P68,P69],ls:=[{ks:=[1,3,4],rs:=[2,3],ins:=some [⟨[.ptr 0 [],.v (.slice (.int .u8)),.iv],[.bx (.v (.named 12))],fun b i a=>⟨(b,i),N.kR N.fuel a,fun v_=>([.ptr 0 [],.val (.slice (.int .u8)) v_.1,.iv v_.2],[.bx (.nv 12 a)]),fun x_=> .ret (.exit 0,[.undef,.val (.slice (.int .u8)) x_],[.bx (.nv 12 a)])⟩⟩]}],i:=cE [(.named 12)] [(.slice (.int .u8))] (N.re N.fuel)}
theorem y27:aM Tryz.prog 27 x27.ins:=go Tryz.func27 rfl ⟨p41,p67,p68,p69,trivial⟩ trivial ⟨⟨fun _ _ _=>⟨rfl,fun _=>by show _=_;kernel_rfl⟩,trivial⟩,trivial⟩ (fun _=>by show _=_;kernel_rfl)
def P27:SP:=(27,.pure [(.named 12)] (bz [x27.ins]))
theorem p27:OK P27:=aJ Tryz.call27 ⟨y27,trivial⟩
noncomputable def B82:List (az E.T)→St E.T→Tree (iR E.T×St E.T):=rK E (.named 2)
def Zh:SP:=(82,.full [.data (.slice (.named 2))] false B82)
theorem aeG: ∃R0 C R id o1 o2,Tryz.f82.body=some (.seq R0 (.seq (.seq (.region id #[o1,o2] false) C) R))∧(o1.op= .move (.tmp 0)∧o1.dst=some 3∧o1.guard=none)∧(o2.op= .binOp .eql 28 (.tmp 3) (.const (.slice none 0 0)) 28∧o2.dst=some 4∧o2.guard=none)∧
  ic E Tryz.f82 (.named 2) R0 C R (fun xs=>put E (frame E Tryz.f82 [.val (.slice (.named 2)) xs]) (some 2) .bj) (fun xs=>put E (put E (put E (put E (frame E Tryz.f82 [.val (.slice (.named 2)) xs]) (some 2) .bj) (some 3) (.val (.slice (.named 2)) xs)) (some 4) (.val .bool true)) (some 2) .bj) (fun xs n=>put E (put E (put E (put E (put E (put E (put E (frame E Tryz.f82 [.val (.slice (.named 2)) xs]) (some 2) .bj) (some 3) (.val (.slice (.named 2)) xs)) (some 4) (.val .bool false)) (some 5) .bj) (some 6) (.val (.slice (.named 2)) xs)) (some 7) (.own n)) (some 2) (.own n)):=
 ⟨_,_,_,_,_,_,rfl,⟨rfl,rfl,rfl⟩,⟨rfl,rfl,rfl⟩,by
  constructor
  all_goals intros
  all_goals kernel_rfl⟩
theorem p82:OK Zh:=by
 obtain⟨R0,C,R,id,o1,o2,hb,h1,h2,hF⟩:=aeG
 exact⟨Tryz.call82,nN sound mix Tryz.func82 hb h1 h2 ⟨_,Tryz.underlying28⟩ hF⟩
noncomputable def B83:List (az E.T)→St E.T→Tree (iR E.T×St E.T):=rK E (.named 3)
def VG:SP:=(83,.full [.data (.slice (.named 3))] false B83)
theorem aeF: ∃R0 C R id o1 o2,Tryz.f83.body=some (.seq R0 (.seq (.seq (.region id #[o1,o2] false) C) R))∧(o1.op= .move (.tmp 0)∧o1.dst=some 3∧o1.guard=none)∧(o2.op= .binOp .eql 29 (.tmp 3) (.const (.slice none 0 0)) 29∧o2.dst=some 4∧o2.guard=none)∧
  ic E Tryz.f83 (.named 3) R0 C R (fun xs=>put E (frame E Tryz.f83 [.val (.slice (.named 3)) xs]) (some 2) .bj) (fun xs=>put E (put E (put E (put E (frame E Tryz.f83 [.val (.slice (.named 3)) xs]) (some 2) .bj) (some 3) (.val (.slice (.named 3)) xs)) (some 4) (.val .bool true)) (some 2) .bj) (fun xs n=>put E (put E (put E (put E (put E (put E (put E (frame E Tryz.f83 [.val (.slice (.named 3)) xs]) (some 2) .bj) (some 3) (.val (.slice (.named 3)) xs)) (some 4) (.val .bool false)) (some 5) .bj) (some 6) (.val (.slice (.named 3)) xs)) (some 7) (.own n)) (some 2) (.own n)):=
 ⟨_,_,_,_,_,_,rfl,⟨rfl,rfl,rfl⟩,⟨rfl,rfl,rfl⟩,by
  constructor
  all_goals intros
  all_goals kernel_rfl⟩
theorem Yr:OK VG:=by
 obtain⟨R0,C,R,id,o1,o2,hb,h1,h2,hF⟩:=aeF
 exact⟨Tryz.call83,nN sound mix Tryz.func83 hb h1 h2 ⟨_,Tryz.underlying29⟩ hF⟩
noncomputable def B84:List (az E.T)→St E.T→Tree (iR E.T×St E.T):=rK E (.named 6)
def Zg:SP:=(84,.full [.data (.slice (.named 6))] false B84)
theorem aeE: ∃R0 C R id o1 o2,Tryz.f84.body=some (.seq R0 (.seq (.seq (.region id #[o1,o2] false) C) R))∧(o1.op= .move (.tmp 0)∧o1.dst=some 3∧o1.guard=none)∧(o2.op= .binOp .eql 34 (.tmp 3) (.const (.slice none 0 0)) 34∧o2.dst=some 4∧o2.guard=none)∧
  ic E Tryz.f84 (.named 6) R0 C R (fun xs=>put E (frame E Tryz.f84 [.val (.slice (.named 6)) xs]) (some 2) .bj) (fun xs=>put E (put E (put E (put E (frame E Tryz.f84 [.val (.slice (.named 6)) xs]) (some 2) .bj) (some 3) (.val (.slice (.named 6)) xs)) (some 4) (.val .bool true)) (some 2) .bj) (fun xs n=>put E (put E (put E (put E (put E (put E (put E (frame E Tryz.f84 [.val (.slice (.named 6)) xs]) (some 2) .bj) (some 3) (.val (.slice (.named 6)) xs)) (some 4) (.val .bool false)) (some 5) .bj) (some 6) (.val (.slice (.named 6)) xs)) (some 7) (.own n)) (some 2) (.own n)):=
 ⟨_,_,_,_,_,_,rfl,⟨rfl,rfl,rfl⟩,⟨rfl,rfl,rfl⟩,by
  constructor
  all_goals intros
  all_goals kernel_rfl⟩
theorem p84:OK Zg:=by
 obtain⟨R0,C,R,id,o1,o2,hb,h1,h2,hF⟩:=aeE
 exact⟨Tryz.call84,nN sound mix Tryz.func84 hb h1 h2 ⟨_,Tryz.underlying34⟩ hF⟩
noncomputable def B85:List (az E.T)→St E.T→Tree (iR E.T×St E.T):=rK E (.named 7)
def U1:SP:=(85,.full [.data (.slice (.named 7))] false B85)
theorem aeD: ∃R0 C R id o1 o2,Tryz.f85.body=some (.seq R0 (.seq (.seq (.region id #[o1,o2] false) C) R))∧(o1.op= .move (.tmp 0)∧o1.dst=some 3∧o1.guard=none)∧(o2.op= .binOp .eql 35 (.tmp 3) (.const (.slice none 0 0)) 35∧o2.dst=some 4∧o2.guard=none)∧
  ic E Tryz.f85 (.named 7) R0 C R (fun xs=>put E (frame E Tryz.f85 [.val (.slice (.named 7)) xs]) (some 2) .bj) (fun xs=>put E (put E (put E (put E (frame E Tryz.f85 [.val (.slice (.named 7)) xs]) (some 2) .bj) (some 3) (.val (.slice (.named 7)) xs)) (some 4) (.val .bool true)) (some 2) .bj) (fun xs n=>put E (put E (put E (put E (put E (put E (put E (frame E Tryz.f85 [.val (.slice (.named 7)) xs]) (some 2) .bj) (some 3) (.val (.slice (.named 7)) xs)) (some 4) (.val .bool false)) (some 5) .bj) (some 6) (.val (.slice (.named 7)) xs)) (some 7) (.own n)) (some 2) (.own n)):=
 ⟨_,_,_,_,_,_,rfl,⟨rfl,rfl,rfl⟩,⟨rfl,rfl,rfl⟩,by
  constructor
  all_goals intros
  all_goals kernel_rfl⟩
theorem VE:OK U1:=by
 obtain⟨R0,C,R,id,o1,o2,hb,h1,h2,hF⟩:=aeD
 exact⟨Tryz.call85,nN sound mix Tryz.func85 hb h1 h2 ⟨_,Tryz.underlying35⟩ hF⟩
noncomputable def B86:List (az E.T)→St E.T→Tree (iR E.T×St E.T):=rK E (.int .i64)
def P86:SP:=(86,.full [.data (.slice .i6)] false B86)
theorem aeC: ∃R0 C R id o1 o2,Tryz.f86.body=some (.seq R0 (.seq (.seq (.region id #[o1,o2] false) C) R))∧(o1.op= .move (.tmp 0)∧o1.dst=some 3∧o1.guard=none)∧(o2.op= .binOp .eql 38 (.tmp 3) (.const (.slice none 0 0)) 38∧o2.dst=some 4∧o2.guard=none)∧
  ic E Tryz.f86 (.int .i64) R0 C R (fun xs=>put E (frame E Tryz.f86 [.val (.slice (.int .i64)) xs]) (some 2) .bj) (fun xs=>put E (put E (put E (put E (frame E Tryz.f86 [.val (.slice (.int .i64)) xs]) (some 2) .bj) (some 3) (.val (.slice (.int .i64)) xs)) (some 4) (.val .bool true)) (some 2) .bj) (fun xs n=>put E (put E (put E (put E (put E (put E (put E (frame E Tryz.f86 [.val (.slice (.int .i64)) xs]) (some 2) .bj) (some 3) (.val (.slice (.int .i64)) xs)) (some 4) (.val .bool false)) (some 5) .bj) (some 6) (.val (.slice (.int .i64)) xs)) (some 7) (.own n)) (some 2) (.own n)):=
 ⟨_,_,_,_,_,_,rfl,⟨rfl,rfl,rfl⟩,⟨rfl,rfl,rfl⟩,by
  constructor
  all_goals intros
  all_goals kernel_rfl⟩
theorem p86:OK P86:=by
 obtain⟨R0,C,R,id,o1,o2,hb,h1,h2,hF⟩:=aeC
 exact⟨Tryz.call86,nN sound mix Tryz.func86 hb h1 h2 ⟨_,Tryz.underlying38⟩ hF⟩
noncomputable def B87:List (az E.T)→St E.T→Tree (iR E.T×St E.T):=rK E (.named 9)
def P87:SP:=(87,.full [.data (.slice (.named 9))] false B87)
theorem aeB: ∃R0 C R id o1 o2,Tryz.f87.body=some (.seq R0 (.seq (.seq (.region id #[o1,o2] false) C) R))∧(o1.op= .move (.tmp 0)∧o1.dst=some 3∧o1.guard=none)∧(o2.op= .binOp .eql 39 (.tmp 3) (.const (.slice none 0 0)) 39∧o2.dst=some 4∧o2.guard=none)∧
  ic E Tryz.f87 (.named 9) R0 C R (fun xs=>put E (frame E Tryz.f87 [.val (.slice (.named 9)) xs]) (some 2) .bj) (fun xs=>put E (put E (put E (put E (frame E Tryz.f87 [.val (.slice (.named 9)) xs]) (some 2) .bj) (some 3) (.val (.slice (.named 9)) xs)) (some 4) (.val .bool true)) (some 2) .bj) (fun xs n=>put E (put E (put E (put E (put E (put E (put E (frame E Tryz.f87 [.val (.slice (.named 9)) xs]) (some 2) .bj) (some 3) (.val (.slice (.named 9)) xs)) (some 4) (.val .bool false)) (some 5) .bj) (some 6) (.val (.slice (.named 9)) xs)) (some 7) (.own n)) (some 2) (.own n)):=
 ⟨_,_,_,_,_,_,rfl,⟨rfl,rfl,rfl⟩,⟨rfl,rfl,rfl⟩,by
  constructor
  all_goals intros
  all_goals kernel_rfl⟩
theorem p87:OK P87:=by
 obtain⟨R0,C,R,id,o1,o2,hb,h1,h2,hF⟩:=aeB
 exact⟨Tryz.call87,nN sound mix Tryz.func87 hb h1 h2 ⟨_,Tryz.underlying39⟩ hF⟩
def x34:cg E:={S:=[Zj,Zi,Zh,VG,Zg,U1,P86,P87],aH:=true,i:=⟨[.v (.named 10)],[],fun s=> .wH (.ret (N.gz s)) fun x_=> .ret (.ret [.ptr 9 []],[.dead,.al .str x_.Server.aA.D.aU,.al (.named 0) x_.Server.aA.D.bC,.al (.named 2) x_.Server.aA.S.aP,.al (.named 3) x_.Server.aA.S.Marks,.al (.named 6) x_.Server.bd.bF,.al (.named 7) x_.Server.bd.cZ,.al .i6 x_.Server.Seen,.al (.named 9) x_.Server.Told,.bx (QM x_ 1 2 3 4 5 6 7 8)])⟩}
theorem y34:aM Tryz.prog 34 x34.ins:=mD Tryz.func34 rfl ⟨p80,p81,p82,Yr,p84,VE,p86,p87,trivial⟩ trivial trivial (fun _=>by show _=_;kernel_rfl)
def P34:SP:=(34,.full [.data (.named 10)] false (cC [x34.ins]))
theorem p34:OK P34:=br ok Tryz.call34 ⟨y34,trivial⟩
def Wt:cg E:={i:=⟨[.v (.slice (.int .u8)),.iv],[],fun b n=> .opt (N.v7 b n) fun x_=>bf x_ (fun a=> .ret (.ret [.val (.slice (.int .u8)) a],[])) (fun c=> .ret (.panic (.fG 332 (.nv 16 N.fa.mk)),[]))⟩}
theorem ab9:aM Tryz.prog 285 Wt.ins:=go Tryz.func285 rfl trivial trivial trivial (fun _ _=>by show _=_;kernel_rfl)
def U7:SP:=(285,.pure [(.slice (.int .u8)),.i6] (bz [Wt.ins]))
theorem Yw:OK U7:=aJ Tryz.call285 ⟨ab9,trivial⟩
noncomputable def Vz:l8 E:=pV E (jX []) (Ga E 18 [] []) 0 Tryz.f284
theorem Yx:ix Tryz.prog E 284 Vz:=k7 sound mix (S:=[]) trivial (L:=Ga E 18 [] []) (fun _=>rfl) Tryz.call284 Tryz.func284 rfl
def W8:cg E:={S:=[U7],D:=[(284,Vz)],ls:=[{ks:=[4,5,16,17,18],rs:=[4,5],d:=[(284,[.ptr 0 []])],ins:=some [⟨[.iv,.ptr 0 [],.v (.slice (.int .u8)),.iv,.iv],[.bx (.v .bool)],fun v a b c ok=>⟨(v,c),N.oY a b ok,fun v_=>([.iv v_.1,.ptr 0 [],.val (.slice (.int .u8)) a,.iv b,.iv v_.2],[.bx (.bv ok)]),fun x_=> .ret (.exit 0,[.iv x_,.ptr 0 []],[.bx (.bv ok)])⟩⟩]}],i:=cE [(.slice (.int .u8)),.i6] [.i6,.bool] (N.yl N.fuel)}
theorem abJ:aM Tryz.prog 238 W8.ins:=go Tryz.func238 rfl ⟨Yw,trivial⟩ ⟨Yx,trivial⟩ ⟨⟨fun _ _ _ _ _=>⟨rfl,fun _=>by show _=_;kernel_rfl⟩,trivial⟩,trivial⟩ (fun _ _=>by show _=_;kernel_rfl)
def S2:SP:=(238,.pure [(.slice (.int .u8)),.i6] (bz [W8.ins]))
theorem Uw:OK S2:=aJ Tryz.call238 ⟨abJ,trivial⟩
def XJ:cg E:={S:=[S2],i:=⟨[.ptr 0 [],.iv],[.bx (.v (.named 18))],fun n r=> .opt (N.ox N.fuel n r) fun x_=>bf x_ (fun a=> .ret (.ret [.iv a.1],[.bx (.nv 18 a.2)])) (fun b=> .ret (.panic (.fG 207 (.nv 16 N.fa.mk)),[.bx (.nv 18 r)]))⟩}
theorem acm:aM Tryz.prog 169 XJ.ins:=mD Tryz.func169 rfl ⟨Uw,trivial⟩ trivial trivial (fun _ _=>by show _=_;kernel_rfl)
def aa5:SP:=(169,.full [.ptr,.data .i6] false (cC [XJ.ins]))
theorem ae5:OK aa5:=br ok Tryz.call169 ⟨acm,trivial⟩
def W7:cg E:={S:=[U7],D:=[(284,Vz)],i:=cE [(.slice (.int .u8))] [.str,.i6,.bool] N.pX}
theorem abI:aM Tryz.prog 239 W7.ins:=go Tryz.func239 rfl ⟨Yw,trivial⟩ ⟨Yx,trivial⟩ trivial (fun _=>by show _=_;kernel_rfl)
def Vg:SP:=(239,.pure [(.slice (.int .u8))] (bz [W7.ins]))
theorem YG:OK Vg:=aJ Tryz.call239 ⟨abI,trivial⟩
def XI:cg E:={S:=[Vg],i:=⟨[.ptr 0 []],[.bx (.v (.named 18))],fun r=> .opt (N.nw r) fun x_=>bf x_ (fun a=> .ret (.ret [.sv a.1],[.bx (.nv 18 a.2)])) (fun b=> .ret (.panic (.fG 207 (.nv 16 N.fa.mk)),[.bx (.nv 18 r)]))⟩}
theorem ack:aM Tryz.prog 170 XI.ins:=mD Tryz.func170 rfl ⟨YG,trivial⟩ trivial trivial (fun _=>by show _=_;kernel_rfl)
def aa4:SP:=(170,.full [.ptr] false (cC [XI.ins]))
theorem ae4:OK aa4:=br ok Tryz.call170 ⟨ack,trivial⟩
def x89:cg E:={S:=[aa5,aa4],ls:=[{ks:=[0,2,3],rs:=[2],zR:=[.zR (.obj 1) [7] (.named 11)],ins:=some [⟨[.ptr 0 [],.ptr 1 [],.iv],[.bx (.v (.named 18)),.bx (.agg 12 [.iv,.iv,.iv,.iv,.v .str,.iv,.iv,.own 2]),.al (.named 11)],fun n r a b c d e f g h=>⟨(n,r,(N.bp.mk a b c d e f g h)),N.jb N.fuel,fun v_=>([.ptr 0 [],.ptr 1 [],.iv v_.1],[.bx (.nv 18 v_.2.1),.bx (g12 v_.2.2 2),.al (.named 11) v_.2.2.aQ]),fun x_=>bf x_ (fun j=> .ret (.panic (.fG 207 (.nv 16 N.fa.mk)),[.ptr 1 []],[.bx (.nv 18 j.1),.bx (g12 j.2 2),.al (.named 11) j.2.aQ])) (fun k=>bf k (fun l=> .ret (.panic (.fG 207 (.nv 16 N.fa.mk)),[.ptr 1 []],[.bx (.nv 18 l.1),.bx (g12 l.2.1 2),.al (.named 11) l.2.1.aQ,.bx (.agg 11 [.iv l.2.2.nS,.sv l.2.2.B])])) (fun m=> .ret (.exit 0,[.ptr 1 []],[.bx (.nv 18 m.1),.bx (g12 m.2 2),.al (.named 11) m.2.aQ])))⟩⟩]}],i:=⟨[.ptr 0 []],[.bx (.v (.named 18))],fun r=> .opt (N.oy N.fuel r) fun x_=>bf x_ (fun j=> .ret (.ret [.nv 12 j.1],[.bx (.nv 18 j.2)])) (fun k=> .ret (.panic (.fG 207 (.nv 16 N.fa.mk)),[.bx (.nv 18 k)]))⟩}
theorem y89:aM Tryz.prog 89 x89.ins:=mD Tryz.func89 rfl ⟨ae5,ae4,trivial⟩ trivial ⟨⟨fun _ _ _ _ _ _ _ _ _ _=>⟨rfl,fun _=>by show _=_;kernel_rfl⟩,trivial⟩,trivial⟩ (fun _=>by show _=_;kernel_rfl)
def P89:SP:=(89,.full [.ptr] false (cC [x89.ins]))
theorem p89:OK P89:=br ok Tryz.call89 ⟨y89,trivial⟩
def W5:cg E:={i:=⟨[.iv,.iv,.iv],[],fun lo hi v=> .wH (N.zZ lo hi v) fun x_=> .ret (.ret [.bv x_],[])⟩}
theorem abH:aM Tryz.prog 240 W5.ins:=go Tryz.func240 rfl trivial trivial trivial (fun _ _ _=>by show _=_;kernel_rfl)
def Vf:SP:=(240,.pure [.i6,.i6,.i6] (bz [W5.ins]))
theorem YF:OK Vf:=aJ Tryz.call240 ⟨abH,trivial⟩
def WL:cg E:={i:=⟨[.v (.named 11)],[],fun w=> .wH (N.vD w) fun x_=> .ret (.ret [.bv x_],[])⟩}
theorem abt:aM Tryz.prog 254 WL.ins:=go Tryz.func254 rfl trivial trivial trivial (fun _=>by show _=_;kernel_rfl)
def SY:SP:=(254,.pure [(.named 11)] (bz [WL.ins]))
theorem Uu:OK SY:=aJ Tryz.call254 ⟨abt,trivial⟩
def Ws:cg E:={S:=[SY],i:=⟨[.v (.named 11)],[],fun w=> .wH (.ret (N.uS w)) fun x_=> .ret (.ret [.bv x_],[])⟩}
theorem ab8:aM Tryz.prog 286 Ws.ins:=go Tryz.func286 rfl ⟨Uu,trivial⟩ trivial trivial (fun _=>by show _=_;kernel_rfl)
def Zt:SP:=(286,.pure [(.named 11)] (bz [Ws.ins]))
theorem adg:OK Zt:=aJ Tryz.call286 ⟨ab8,trivial⟩
def WM:cg E:={S:=[SY],i:=⟨[.v (.named 11)],[],fun w=> .wH (.ret (N.ft w)) fun x_=> .ret (.ret [.bv x_],[])⟩}
theorem abu:aM Tryz.prog 253 WM.ins:=go Tryz.func253 rfl ⟨Uu,trivial⟩ trivial trivial (fun _=>by show _=_;kernel_rfl)
def ZG:SP:=(253,.pure [(.named 11)] (bz [WM.ins]))
theorem adu:OK ZG:=aJ Tryz.call253 ⟨abu,trivial⟩
def Wn:cg E:={S:=[Zt],ls:=[{ks:=[0,1,7,8],rs:=[4],ins:=some [⟨[.v (.slice (.named 11)),.fn 286 [],.iv,.iv],[],fun s t7 t8=>⟨t8,N.eD s t7,fun v_=>([.val (.slice (.named 11)) s,.fn 286 [],.iv t7,.iv v_],[]),fun x_=>bf x_ (fun a=> .ret (.ret,[.iv a],[])) (fun b=> .ret (.exit 0,[.undef],[]))⟩⟩]}],i:=⟨[.v (.slice (.named 11)),.fn 286 []],[],fun s=> .opt (N.gT N.fuel s) fun x_=> .ret (.ret [.iv x_],[])⟩}
theorem ab3:aM Tryz.prog 292 Wn.ins:=go Tryz.func292 rfl ⟨adg,trivial⟩ trivial ⟨⟨fun _ _ _=>⟨rfl,fun _=>by show _=_;kernel_rfl⟩,trivial⟩,trivial⟩ (fun _=>by show _=_;kernel_rfl)
def Tk:cg E:={S:=[ZG],ls:=[{ks:=[0,1,7,8],rs:=[4],ins:=some [⟨[.v (.slice (.named 11)),.fn 253 [],.iv,.iv],[],fun s t7 t8=>⟨t8,N.jl s t7,fun v_=>([.val (.slice (.named 11)) s,.fn 253 [],.iv t7,.iv v_],[]),fun x_=>bf x_ (fun a=> .ret (.ret,[.iv a],[])) (fun b=> .ret (.exit 0,[.undef],[]))⟩⟩]}],i:=⟨[.v (.slice (.named 11)),.fn 253 []],[],fun s=> .opt (N.fU N.fuel s) fun x_=> .ret (.ret [.iv x_],[])⟩}
theorem VJ:aM Tryz.prog 292 Tk.ins:=go Tryz.func292 rfl ⟨adu,trivial⟩ trivial ⟨⟨fun _ _ _=>⟨rfl,fun _=>by show _=_;kernel_rfl⟩,trivial⟩,trivial⟩ (fun _=>by show _=_;kernel_rfl)
def U4:SP:=(292,.full [.data (.slice (.named 11)),.func] true (cC [Wn.ins,Tk.ins]))
theorem Yu:OK U4:=br ok Tryz.call292 ⟨ab3,VJ,trivial⟩
def WN:cg E:={S:=[U4],i:=⟨[.v (.slice (.named 11)),.fn 286 []],[],fun s=> .opt (N.fK N.fuel s) fun x_=> .ret (.ret [.bv x_],[])⟩}
theorem abv:aM Tryz.prog 252 WN.ins:=go Tryz.func252 rfl ⟨Yu,trivial⟩ trivial trivial (fun _=>by show _=_;kernel_rfl)
def Tp:cg E:={S:=[U4],i:=⟨[.v (.slice (.named 11)),.fn 253 []],[],fun s=> .opt (N.fm N.fuel s) fun x_=> .ret (.ret [.bv x_],[])⟩}
theorem VO:aM Tryz.prog 252 Tp.ins:=go Tryz.func252 rfl ⟨Yu,trivial⟩ trivial trivial (fun _=>by show _=_;kernel_rfl)
def Vd:SP:=(252,.full [.data (.slice (.named 11)),.func] true (cC [WN.ins,Tp.ins]))
theorem YD:OK Vd:=br ok Tryz.call252 ⟨abv,VO,trivial⟩
def WZ:cg E:={S:=[Vf,Rr,Vd],i:=cE [(.named 12)] [(.named 12),.bool] (N.xq N.fuel)}
theorem abG:aM Tryz.prog 241 WZ.ins:=go Tryz.func241 rfl ⟨YF,R2,YD,trivial⟩ trivial trivial (fun _=>by show _=_;kernel_rfl)
def ZO:SP:=(241,.pure [(.named 12)] (bz [WZ.ins]))
theorem adC:OK ZO:=aJ Tryz.call241 ⟨abG,trivial⟩
def Wr:cg E:={ls:=[{ks:=[0,1,12,13],rs:=[4],ins:=some [⟨[.v (.slice (.named 11)),.v (.slice (.named 11)),.iv,.iv],[],fun s1 s2 a b=>⟨b,N.fI s1 s2 a,fun v_=>([.val (.slice (.named 11)) s1,.val (.slice (.named 11)) s2,.iv a,.iv v_],[]),fun x_=>bf x_ (fun c=> .ret (.ret,[.bv false],[])) (fun d=> .ret (.exit 0,[.undef],[]))⟩⟩]}],i:=cE [(.slice (.named 11)),(.slice (.named 11))] [.bool] (N.kf N.fuel)}
theorem ab7:aM Tryz.prog 287 Wr.ins:=go Tryz.func287 rfl trivial trivial ⟨⟨fun _ _ _ _=>⟨rfl,fun _=>by show _=_;kernel_rfl⟩,trivial⟩,trivial⟩ (fun _ _=>by show _=_;kernel_rfl)
def Zs:SP:=(287,.pure [(.slice (.named 11)),(.slice (.named 11))] (bz [Wr.ins]))
theorem adf:OK Zs:=aJ Tryz.call287 ⟨ab7,trivial⟩
def WY:cg E:={S:=[Zs],i:=cE [(.named 12),(.named 12)] [.bool] (N.sS N.fuel)}
theorem abF:aM Tryz.prog 242 WY.ins:=go Tryz.func242 rfl ⟨adf,trivial⟩ trivial trivial (fun _ _=>by show _=_;kernel_rfl)
def ZN:SP:=(242,.pure [(.named 12),(.named 12)] (bz [WY.ins]))
theorem adB:OK ZN:=aJ Tryz.call242 ⟨abF,trivial⟩
def XH:cg E:={S:=[Vf,ZO,ZN],i:=cE [(.named 12)] [.bool] (N.uV N.fuel)}
theorem acj:aM Tryz.prog 171 XH.ins:=go Tryz.func171 rfl ⟨YF,adC,adB,trivial⟩ trivial trivial (fun _=>by show _=_;kernel_rfl)
def aa3:SP:=(171,.pure [(.named 12)] (bz [XH.ins]))
theorem ae3:OK aa3:=aJ Tryz.call171 ⟨acj,trivial⟩
def XP:cg E:={S:=[Rs],ls:=[{ks:=[0,1,2],rs:=[0,6],ins:=some [⟨[.own 0,.iv,.iv],[.al (.int .u8)],fun v n b=>⟨(n,b),N.nP v,fun v_=>([.own 0,.iv v,.iv v_.1],[.al (.int .u8) v_.2]),fun x_=> .ret (.exit 0,[.own 0,.undef],[.al (.int .u8) x_])⟩⟩]}],i:=cE [(.slice (.int .u8)),.i6,.i6] [(.slice (.int .u8))] (N.rN N.fuel)}
theorem acs:aM Tryz.prog 161 XP.ins:=go Tryz.func161 rfl ⟨R3,trivial⟩ trivial ⟨⟨fun _ _ _=>⟨rfl,fun _=>by show _=_;kernel_rfl⟩,trivial⟩,trivial⟩ (fun _ _ _=>by show _=_;kernel_rfl)
def Vq:SP:=(161,.pure [(.slice (.int .u8)),.i6,.i6] (bz [XP.ins]))
theorem YU:OK Vq:=aJ Tryz.call161 ⟨acs,trivial⟩
def XG:cg E:={S:=[Rs],i:=cE [(.slice (.int .u8)),.str] [(.slice (.int .u8))] N.sF}
theorem aci:aM Tryz.prog 172 XG.ins:=go Tryz.func172 rfl ⟨R3,trivial⟩ trivial trivial (fun _ _=>by show _=_;kernel_rfl)
def aa2:SP:=(172,.pure [(.slice (.int .u8)),.str] (bz [XG.ins]))
theorem ae2:OK aa2:=aJ Tryz.call172 ⟨aci,trivial⟩
def WX:cg E:={ls:=[{ks:=[2,6,7,8],rs:=[2],ins:=some [⟨[.v (.int .u16),.v (.slice (.int .u8)),.iv,.iv],[],fun c t6 t7 t8=>⟨(c,t8),N.sE N.fuel t6 t7,fun v_=>([.val (.int .u16) v_.1,.val (.slice (.int .u8)) t6,.iv t7,.iv v_.2],[]),fun x_=> .ret (.exit 0,[.val (.int .u16) x_],[])⟩⟩]},{ks:=[2,6,7,8,16],rs:=[2,6,7,8],ins:=some [⟨[.v (.int .u16),.v (.slice (.int .u8)),.iv,.iv,.iv],[],fun c t6 t7 t8 a=>⟨(c,a),N.yf t6 t7 t8,fun v_=>([.val (.int .u16) v_.1,.val (.slice (.int .u8)) t6,.iv t7,.iv t8,.iv v_.2],[]),fun x_=> .ret (.exit 2,[.val (.int .u16) x_,.val (.slice (.int .u8)) t6,.iv t7,.iv t8],[])⟩⟩]}],i:=cE [(.slice (.int .u8))] [(.int .u16)] (N.C4 N.fuel)}
theorem abE:aM Tryz.prog 243 WX.ins:=go Tryz.func243 rfl trivial trivial ⟨⟨fun _ _ _ _=>⟨rfl,fun _=>by show _=_;kernel_rfl⟩,trivial⟩,⟨⟨fun _ _ _ _ _=>⟨rfl,fun _=>by show _=_;kernel_rfl⟩,trivial⟩,trivial⟩⟩ (fun _=>by show _=_;kernel_rfl)
def ZM:SP:=(243,.pure [(.slice (.int .u8))] (bz [WX.ins]))
theorem adA:OK ZM:=aJ Tryz.call243 ⟨abE,trivial⟩
def XF:cg E:={S:=[Vq,ZM],i:=cE [(.slice (.int .u8))] [(.slice (.int .u8))] (N.uT N.fuel)}
theorem ach:aM Tryz.prog 173 XF.ins:=go Tryz.func173 rfl ⟨YU,adA,trivial⟩ trivial trivial (fun _=>by show _=_;kernel_rfl)
def aa1:SP:=(173,.pure [(.slice (.int .u8))] (bz [XF.ins]))
theorem ae1:OK aa1:=aJ Tryz.call173 ⟨ach,trivial⟩
def x90:cg E:={S:=[Vq,aa3,aa2,aa1],ls:=[{ks:=[3,37,38,39],rs:=[2,3],ins:=some [⟨[.v (.slice (.int .u8)),.v (.slice (.named 11)),.iv,.iv],[.bx (.v (.named 12))],fun b a c d o0=>⟨(b,d),N.ny N.fuel a c o0,fun v_=>([.val (.slice (.int .u8)) v_.1,.val (.slice (.named 11)) a,.iv c,.iv v_.2],[.bx (.nv 12 o0)]),fun x_=> .ret (.exit 0,[.undef,.val (.slice (.int .u8)) x_],[.bx (.nv 12 o0)])⟩⟩]}],i:=cE [(.named 12)] [(.slice (.int .u8))] (N.uU N.fuel)}
theorem y90:aM Tryz.prog 90 x90.ins:=go Tryz.func90 rfl ⟨YU,ae3,ae2,ae1,trivial⟩ trivial ⟨⟨fun _ _ _ _ _=>⟨rfl,fun _=>by show _=_;kernel_rfl⟩,trivial⟩,trivial⟩ (fun _=>by show _=_;kernel_rfl)
def P90:SP:=(90,.pure [(.named 12)] (bz [x90.ins]))
theorem p90:OK P90:=aJ Tryz.call90 ⟨y90,trivial⟩
def XK:cg E:={ls:=[{ks:=[0,1,12,13],rs:=[4],ins:=some [⟨[.v (.slice (.int .u8)),.v (.slice (.int .u8)),.iv,.iv],[],fun s1 s2 a b=>⟨b,N.gj s1 s2 a,fun v_=>([.val (.slice (.int .u8)) s1,.val (.slice (.int .u8)) s2,.iv a,.iv v_],[]),fun x_=>bf x_ (fun c=> .ret (.ret,[.bv false],[])) (fun d=> .ret (.exit 0,[.undef],[]))⟩⟩]}],i:=cE [(.slice (.int .u8)),(.slice (.int .u8))] [.bool] (N.lB N.fuel)}
theorem acn:aM Tryz.prog 168 XK.ins:=go Tryz.func168 rfl trivial trivial ⟨⟨fun _ _ _ _=>⟨rfl,fun _=>by show _=_;kernel_rfl⟩,trivial⟩,trivial⟩ (fun _ _=>by show _=_;kernel_rfl)
def aa6:SP:=(168,.pure [(.slice (.int .u8)),(.slice (.int .u8))] (bz [XK.ins]))
theorem ae6:OK aa6:=aJ Tryz.call168 ⟨acn,trivial⟩
noncomputable def aay:l8 E:=pV E (jX []) (Ga E 18 [] []) 0 Tryz.f167
theorem ae7:ix Tryz.prog E 167 aay:=k7 sound mix (S:=[]) trivial (L:=Ga E 18 [] []) (fun _=>rfl) Tryz.call167 Tryz.func167 rfl
def x88:cg E:={S:=[aa6,P89,P90],D:=[(167,aay)],i:=⟨[.v (.slice (.int .u8)),.fn 89 [],.fn 90 []],[],fun b=> .opt (N.pQ N.fuel b) fun x_=> .ret (.ret [.nv 12 x_.1,.bv x_.2],[])⟩}
theorem y88:aM Tryz.prog 88 x88.ins:=mD Tryz.func88 rfl ⟨ae6,p89,p90,trivial⟩ ⟨ae7,trivial⟩ trivial (fun _=>by show _=_;kernel_rfl)
def P88:SP:=(88,.full [.data (.slice (.int .u8)),.func,.func] false (cC [x88.ins]))
theorem p88:OK P88:=br ok Tryz.call88 ⟨y88,trivial⟩
def x35:cg E:={S:=[P88],i:=cE [(.slice (.int .u8))] [(.named 12),.bool] (N.sR N.fuel)}
theorem y35:aM Tryz.prog 35 x35.ins:=go Tryz.func35 rfl ⟨p88,trivial⟩ trivial trivial (fun _=>by show _=_;kernel_rfl)
def P35:SP:=(35,.pure [(.slice (.int .u8))] (bz [x35.ins]))
theorem p35:OK P35:=aJ Tryz.call35 ⟨y35,trivial⟩
def XE:cg E:={i:=⟨[.v (.slice (.named 3)),.iv],[],fun l a=> .wH (N.qq l a) fun x_=> .ret (.ret [.bv x_],[])⟩}
theorem acg:aM Tryz.prog 174 XE.ins:=go Tryz.func174 rfl trivial trivial trivial (fun _ _=>by show _=_;kernel_rfl)
def Vo:SP:=(174,.pure [(.slice (.named 3)),.i6] (bz [XE.ins]))
theorem YQ:OK Vo:=aJ Tryz.call174 ⟨acg,trivial⟩
def x91:cg E:={S:=[Vo],i:=cE [(.slice (.named 3)),.i6,.i6] [(.named 3),.bool] N.CB}
theorem y91:aM Tryz.prog 91 x91.ins:=go Tryz.func91 rfl ⟨YQ,trivial⟩ trivial trivial (fun _ _ _=>by show _=_;kernel_rfl)
def P91:SP:=(91,.pure [(.slice (.named 3)),.i6,.i6] (bz [x91.ins]))
theorem p91:OK P91:=aJ Tryz.call91 ⟨y91,trivial⟩
def x36:cg E:={S:=[P91],i:=cE [.i6,(.slice .i6),(.slice (.named 9)),(.slice (.named 3)),(.named 12)] [.i6,(.named 9)] N.uB}
theorem y36:aM Tryz.prog 36 x36.ins:=go Tryz.func36 rfl ⟨p91,trivial⟩ trivial trivial (fun _ _ _ _ _=>by show _=_;kernel_rfl)
def P36:SP:=(36,.pure [.i6,(.slice .i6),(.slice (.named 9)),(.slice (.named 3)),(.named 12)] (bz [x36.ins]))
theorem p36:OK P36:=aJ Tryz.call36 ⟨y36,trivial⟩
def XT:cg E:={aH:=true,i:=⟨[.ptr 0 [],.iv,.v (.named 9)],[.bx (se 1 2 3 4 5 6 7 8),.al .str,.al (.named 0),.al (.named 2),.al (.named 3),.al (.named 6),.al (.named 7),.arr .fix .i6,.al (.named 9)],fun a t b c d e f g h j k l m n o p q r=> .opt (N.dE a t (N.ax.mk (N.aI.mk (N.bV.mk (N.aN.mk k l b c) (N.aG.mk m n d)) (N.b9.mk o p) q r e f g h j) [])) fun x_=> .ret (.ret [],[.bx (zo x_ 1 2 3 4 5 6 7 8 10),.al .str x_.Server.aA.D.aU,.al (.named 0) x_.Server.aA.D.bC,.al (.named 2) x_.Server.aA.S.aP,.al (.named 3) x_.Server.aA.S.Marks,.al (.named 6) x_.Server.bd.bF,.al (.named 7) x_.Server.bd.cZ,.arr .fix .i6 x_.Server.Seen,.al (.named 9) x_.Server.Told,.dead,.al (.named 9) x_.told])⟩}
theorem acx:aM Tryz.prog 153 XT.ins:=mD Tryz.func153 rfl trivial trivial trivial (fun _ _ _ _ _ _ _ _ _ _ _ _ _ _ _ _ _ _=>by show _=_;kernel_rfl)
def TG:cg E:={aH:=true,i:=⟨[.ptr 0 [],.iv,.v (.named 9)],[.bx (LP 1 2 3 4),.al (.named 6),.al (.named 7),.arr .fix .i6,.al (.named 9)],fun a t b c d e f g h j k l=> .opt (N.dE a t (N.ax.mk (N.aI.mk b (N.b9.mk h j) k l c d e f g) [])) fun x_=> .ret (.ret [],[.bx (HE x_ 1 2 3 4 6),.al (.named 6) x_.Server.bd.bF,.al (.named 7) x_.Server.bd.cZ,.arr .fix .i6 x_.Server.Seen,.al (.named 9) x_.Server.Told,.dead,.al (.named 9) x_.told])⟩}
theorem V4:aM Tryz.prog 153 TG.ins:=mD Tryz.func153 rfl trivial trivial trivial (fun _ _ _ _ _ _ _ _ _ _ _ _=>by show _=_;kernel_rfl)
def TF:cg E:={aH:=true,i:=⟨[.ptr 0 [],.iv,.v (.named 9)],[.bx (G5 1 2 3 4 5 6),.al .str,.al (.named 0),.arr .fix (.named 2),.al (.named 3),.arr .fix .i6,.al (.named 9)],fun a t b c d e f g h j k l m n o p q=> .opt (N.dE a t (N.ax.mk (N.aI.mk (N.bV.mk (N.aN.mk l m b c) (N.aG.mk n o d)) e p q f g h j k) [])) fun x_=> .ret (.ret [],[.bx (g13 x_ 1 2 3 4 5 6 8),.al .str x_.Server.aA.D.aU,.al (.named 0) x_.Server.aA.D.bC,.arr .fix (.named 2) x_.Server.aA.S.aP,.al (.named 3) x_.Server.aA.S.Marks,.arr .fix .i6 x_.Server.Seen,.al (.named 9) x_.Server.Told,.dead,.al (.named 9) x_.told])⟩}
theorem V3:aM Tryz.prog 153 TF.ins:=mD Tryz.func153 rfl trivial trivial trivial (fun _ _ _ _ _ _ _ _ _ _ _ _ _ _ _ _ _=>by show _=_;kernel_rfl)
def TD:cg E:={aH:=true,i:=⟨[.ptr 0 [],.iv,.v (.named 9)],[.bx (G5 1 2 3 4 5 6),.al .str,.al (.named 0),.al (.named 2),.al (.named 3),.arr .fix .i6,.al (.named 9)],fun a t b c d e f g h j k l m n o p q=> .opt (N.dE a t (N.ax.mk (N.aI.mk (N.bV.mk (N.aN.mk l m b c) (N.aG.mk n o d)) e p q f g h j k) [])) fun x_=> .ret (.ret [],[.bx (g13 x_ 1 2 3 4 5 6 8),.al .str x_.Server.aA.D.aU,.al (.named 0) x_.Server.aA.D.bC,.al (.named 2) x_.Server.aA.S.aP,.al (.named 3) x_.Server.aA.S.Marks,.arr .fix .i6 x_.Server.Seen,.al (.named 9) x_.Server.Told,.dead,.al (.named 9) x_.told])⟩}
theorem V2:aM Tryz.prog 153 TD.ins:=mD Tryz.func153 rfl trivial trivial trivial (fun _ _ _ _ _ _ _ _ _ _ _ _ _ _ _ _ _=>by show _=_;kernel_rfl)
def TC:cg E:={aH:=true,i:=⟨[.ptr 0 [],.iv,.v (.named 9)],[.bx (se 1 2 3 4 5 6 7 8),.al .str,.al (.named 0),.al (.named 2),.al (.named 3),.arr .ba (.named 6),.al (.named 7),.arr .fix .i6,.al (.named 9)],fun a t b c d e f g h j k l m n o p q r=> .opt (N.dE a t (N.ax.mk (N.aI.mk (N.bV.mk (N.aN.mk k l b c) (N.aG.mk m n d)) (N.b9.mk o p) q r e f g h j) [])) fun x_=> .ret (.ret [],[.bx (zo x_ 1 2 3 4 5 6 7 8 10),.al .str x_.Server.aA.D.aU,.al (.named 0) x_.Server.aA.D.bC,.al (.named 2) x_.Server.aA.S.aP,.al (.named 3) x_.Server.aA.S.Marks,.arr .ba (.named 6) x_.Server.bd.bF,.al (.named 7) x_.Server.bd.cZ,.arr .fix .i6 x_.Server.Seen,.al (.named 9) x_.Server.Told,.dead,.al (.named 9) x_.told])⟩}
theorem V1:aM Tryz.prog 153 TC.ins:=mD Tryz.func153 rfl trivial trivial trivial (fun _ _ _ _ _ _ _ _ _ _ _ _ _ _ _ _ _ _=>by show _=_;kernel_rfl)
def TB:cg E:={aH:=true,i:=⟨[.ptr 0 [],.iv,.v (.named 9)],[.bx (LO 1 2),.arr .fix .i6,.al (.named 9)],fun a t b c d e f g h j k=> .opt (N.dE a t (N.ax.mk (N.aI.mk b c j k d e f g h) [])) fun x_=> .ret (.ret [],[.bx (FA x_ 1 2 4),.arr .fix .i6 x_.Server.Seen,.al (.named 9) x_.Server.Told,.dead,.al (.named 9) x_.told])⟩}
theorem V0:aM Tryz.prog 153 TB.ins:=mD Tryz.func153 rfl trivial trivial trivial (fun _ _ _ _ _ _ _ _ _ _ _=>by show _=_;kernel_rfl)
def M1:SP:=(153,.full [.ptr,.data .i6,.data (.named 9)] false (cC [XT.ins,TG.ins,TF.ins,TD.ins,TC.ins,TB.ins]))
theorem Ox:OK M1:=br ok Tryz.call153 ⟨acx,V4,V3,V2,V1,V0,trivial⟩
def x93:cg E:={S:=[M1],aH:=true,i:=⟨[.ptr 0 [],.v (.named 12),.v (.named 9)],[.bx (se 1 2 3 4 5 6 7 8),.al .str,.al (.named 0),.al (.named 2),.al (.named 3),.al (.named 6),.al (.named 7),.arr .fix .i6,.al (.named 9)],fun a t b c d e f g h j k l m n o p q r=> .opt (N.ed a t (N.ax.mk (N.aI.mk (N.bV.mk (N.aN.mk k l b c) (N.aG.mk m n d)) (N.b9.mk o p) q r e f g h j) [])) fun x_=> .ret (.ret [],[.bx (zo x_ 1 2 3 4 5 6 7 8 12),.al .str x_.Server.aA.D.aU,.al (.named 0) x_.Server.aA.D.bC,.al (.named 2) x_.Server.aA.S.aP,.al (.named 3) x_.Server.aA.S.Marks,.al (.named 6) x_.Server.bd.bF,.al (.named 7) x_.Server.bd.cZ,.arr .fix .i6 x_.Server.Seen,.al (.named 9) x_.Server.Told,.dead,.dead,.dead,.al (.named 9) x_.told])⟩}
theorem y93:aM Tryz.prog 93 x93.ins:=mD Tryz.func93 rfl ⟨Ox,trivial⟩ trivial trivial (fun _ _ _ _ _ _ _ _ _ _ _ _ _ _ _ _ _ _=>by show _=_;kernel_rfl)
def Wd:cg E:={S:=[M1],aH:=true,i:=⟨[.ptr 0 [],.v (.named 12),.v (.named 9)],[.bx (LP 1 2 3 4),.al (.named 6),.al (.named 7),.arr .fix .i6,.al (.named 9)],fun a t b c d e f g h j k l=> .opt (N.ed a t (N.ax.mk (N.aI.mk b (N.b9.mk h j) k l c d e f g) [])) fun x_=> .ret (.ret [],[.bx (HE x_ 1 2 3 4 8),.al (.named 6) x_.Server.bd.bF,.al (.named 7) x_.Server.bd.cZ,.arr .fix .i6 x_.Server.Seen,.al (.named 9) x_.Server.Told,.dead,.dead,.dead,.al (.named 9) x_.told])⟩}
theorem aaT:aM Tryz.prog 93 Wd.ins:=mD Tryz.func93 rfl ⟨Ox,trivial⟩ trivial trivial (fun _ _ _ _ _ _ _ _ _ _ _ _=>by show _=_;kernel_rfl)
def Wc:cg E:={S:=[M1],aH:=true,i:=⟨[.ptr 0 [],.v (.named 12),.v (.named 9)],[.bx (G5 1 2 3 4 5 6),.al .str,.al (.named 0),.al (.named 2),.al (.named 3),.arr .fix .i6,.al (.named 9)],fun a t b c d e f g h j k l m n o p q=> .opt (N.ed a t (N.ax.mk (N.aI.mk (N.bV.mk (N.aN.mk l m b c) (N.aG.mk n o d)) e p q f g h j k) [])) fun x_=> .ret (.ret [],[.bx (g13 x_ 1 2 3 4 5 6 10),.al .str x_.Server.aA.D.aU,.al (.named 0) x_.Server.aA.D.bC,.al (.named 2) x_.Server.aA.S.aP,.al (.named 3) x_.Server.aA.S.Marks,.arr .fix .i6 x_.Server.Seen,.al (.named 9) x_.Server.Told,.dead,.dead,.dead,.al (.named 9) x_.told])⟩}
theorem aaS:aM Tryz.prog 93 Wc.ins:=mD Tryz.func93 rfl ⟨Ox,trivial⟩ trivial trivial (fun _ _ _ _ _ _ _ _ _ _ _ _ _ _ _ _ _=>by show _=_;kernel_rfl)
def Wa:cg E:={S:=[M1],aH:=true,i:=⟨[.ptr 0 [],.v (.named 12),.v (.named 9)],[.bx (se 1 2 3 4 5 6 7 8),.al .str,.al (.named 0),.al (.named 2),.al (.named 3),.arr .ba (.named 6),.al (.named 7),.arr .fix .i6,.al (.named 9)],fun a t b c d e f g h j k l m n o p q r=> .opt (N.ed a t (N.ax.mk (N.aI.mk (N.bV.mk (N.aN.mk k l b c) (N.aG.mk m n d)) (N.b9.mk o p) q r e f g h j) [])) fun x_=> .ret (.ret [],[.bx (zo x_ 1 2 3 4 5 6 7 8 12),.al .str x_.Server.aA.D.aU,.al (.named 0) x_.Server.aA.D.bC,.al (.named 2) x_.Server.aA.S.aP,.al (.named 3) x_.Server.aA.S.Marks,.arr .ba (.named 6) x_.Server.bd.bF,.al (.named 7) x_.Server.bd.cZ,.arr .fix .i6 x_.Server.Seen,.al (.named 9) x_.Server.Told,.dead,.dead,.dead,.al (.named 9) x_.told])⟩}
theorem aaR:aM Tryz.prog 93 Wa.ins:=mD Tryz.func93 rfl ⟨Ox,trivial⟩ trivial trivial (fun _ _ _ _ _ _ _ _ _ _ _ _ _ _ _ _ _ _=>by show _=_;kernel_rfl)
def V9:cg E:={S:=[M1],aH:=true,i:=⟨[.ptr 0 [],.v (.named 12),.v (.named 9)],[.bx (LO 1 2),.arr .fix .i6,.al (.named 9)],fun a t b c d e f g h j k=> .opt (N.ed a t (N.ax.mk (N.aI.mk b c j k d e f g h) [])) fun x_=> .ret (.ret [],[.bx (FA x_ 1 2 6),.arr .fix .i6 x_.Server.Seen,.al (.named 9) x_.Server.Told,.dead,.dead,.dead,.al (.named 9) x_.told])⟩}
theorem aaQ:aM Tryz.prog 93 V9.ins:=mD Tryz.func93 rfl ⟨Ox,trivial⟩ trivial trivial (fun _ _ _ _ _ _ _ _ _ _ _=>by show _=_;kernel_rfl)
def T3:SP:=(93,.full [.ptr,.data (.named 12),.data (.named 9)] false (cC [x93.ins,Wd.ins,Wc.ins,Wa.ins,V9.ins]))
theorem Us:OK T3:=br ok Tryz.call93 ⟨y93,aaT,aaS,aaR,aaQ,trivial⟩
def TN:cg E:={S:=[Zh,VG],aH:=true,i:=⟨[.v (.named 4)],[],fun s=> .wH (.ret (N.ER s)) fun x_=> .ret (.ret [.agg 4 [.own 2,.own 3,.iv s.aS]],[.dead,.dead,.al (.named 2) s.aP,.al (.named 3) s.Marks])⟩}
theorem V8:aM Tryz.prog 115 TN.ins:=mD Tryz.func115 rfl ⟨p82,Yr,trivial⟩ trivial trivial (fun _=>by show _=_;kernel_rfl)
def NM:SP:=(115,.full [.data (.named 4)] false (cC [TN.ins]))
theorem Qe:OK NM:=br ok Tryz.call115 ⟨V8,trivial⟩
def Wp:cg E:={S:=[U8],i:=cE [(.slice (.named 2)),.str] [.i6,.bool] (N.vM N.fuel)}
theorem ab5:aM Tryz.prog 290 Wp.ins:=go Tryz.func290 rfl ⟨Yy,trivial⟩ trivial trivial (fun _ _=>by show _=_;kernel_rfl)
def U5:SP:=(290,.pure [(.slice (.named 2)),.str] (bz [Wp.ins]))
theorem Yv:OK U5:=aJ Tryz.call290 ⟨ab5,trivial⟩
def WT:cg E:={S:=[Rr,U5],i:=cE [(.slice (.named 2)),.str] [.i6,.bool] (N.AD N.fuel)}
theorem abA:aM Tryz.prog 247 WT.ins:=go Tryz.func247 rfl ⟨R2,Yv,trivial⟩ trivial trivial (fun _ _=>by show _=_;kernel_rfl)
def ZK:SP:=(247,.pure [(.slice (.named 2)),.str] (bz [WT.ins]))
theorem ady:OK ZK:=aJ Tryz.call247 ⟨abA,trivial⟩
def WS:cg E:={S:=[U5],i:=cE [(.slice (.named 2))] [.i6,.bool] (N.Az N.fuel)}
theorem abz:aM Tryz.prog 248 WS.ins:=go Tryz.func248 rfl ⟨Yv,trivial⟩ trivial trivial (fun _=>by show _=_;kernel_rfl)
def ZJ:SP:=(248,.pure [(.slice (.named 2))] (bz [WS.ins]))
theorem adx:OK ZJ:=aJ Tryz.call248 ⟨abz,trivial⟩
def WV:cg E:={S:=[Rr,ZK,ZJ],i:=⟨[.ptr 0 [],.ptr 3 []],[.bx (.agg 4 [.own 1,.own 2,.iv]),.al (.named 2),.al (.named 3),.bx (.v .str)],fun a b c o3=> .opt (N.pF N.fuel (N.aG.mk b c a) o3) fun x_=>bf x_ (fun d=> .ret (.ret [.nv 3 d.1],[.bx (.agg 4 [.own 1,.own 2,.iv d.2.aS]),.al (.named 2) d.2.aP,.al (.named 3) d.2.Marks,.bx (.sv o3)])) (fun e=> .ret (.panic (.fG 283 (.nv 21 e)),[.bx (.agg 4 [.own 1,.own 2,.iv a]),.al (.named 2) b,.al (.named 3) c,.bx (.sv o3)]))⟩}
theorem abC:aM Tryz.prog 245 WV.ins:=mD Tryz.func245 rfl ⟨R2,ady,adx,trivial⟩ trivial trivial (fun _ _ _ _=>by show _=_;kernel_rfl)
def ZL:SP:=(245,.full [.ptr,.ptr] false (cC [WV.ins]))
theorem adz:OK ZL:=br ok Tryz.call245 ⟨abC,trivial⟩
def Wq:cg E:={S:=[Vo,VG],i:=cE [(.slice (.named 3)),.i6,(.named 3)] [(.slice (.named 3))] N.Ab}
theorem ab6:aM Tryz.prog 289 Wq.ins:=go Tryz.func289 rfl ⟨YQ,Yr,trivial⟩ trivial trivial (fun _ _ _=>by show _=_;kernel_rfl)
def U6:SP:=(289,.pure [(.slice (.named 3)),.i6,(.named 3)] (bz [Wq.ins]))
theorem ade:OK U6:=aJ Tryz.call289 ⟨ab6,trivial⟩
def X6:cg E:={S:=[Zh,VG],i:=⟨[.v (.named 4)],[],fun s=> .wH (.ret (N.ER s)) fun x_=> .ret (.ret [.nv 4 s],[])⟩}
theorem acK:aM Tryz.prog 115 X6.ins:=go Tryz.func115 rfl ⟨p82,Yr,trivial⟩ trivial trivial (fun _=>by show _=_;kernel_rfl)
def Ta:SP:=(115,.pure [(.named 4)] (bz [X6.ins]))
theorem YZ:OK Ta:=aJ Tryz.call115 ⟨acK,trivial⟩
noncomputable def Th:l8 E:=pV E (jX [Ta,U6]) (Ga E 32 [] []) 0 Tryz.f288
theorem Ut:ix Tryz.prog E 288 Th:=k7 sound mix (S:=[Ta,U6]) ⟨YZ,ade,trivial⟩ (L:=Ga E 32 [] []) (fun _=>rfl) Tryz.call288 Tryz.func288 rfl
def WO:cg E:={aH:=true,i:=⟨[.ptr 0 [],.iv],[.bx (.agg 4 [.own 1,.own 2,.iv]),.al (.named 2),.al (.named 3)],fun n a b c=> .opt (N.sL n (N.aG.mk b c a)) fun x_=>bf x_ (fun d=> .ret (.ret [.ptr 1 [.idx (.named 2) d]],[.bx (.agg 4 [.own 1,.own 2,.iv a]),.al (.named 2) b,.al (.named 3) c])) (fun e=> .ret (.panic (.fG 283 (.nv 21 (N.cJ.mk 2))),[.bx (.agg 4 [.own 1,.own 2,.iv a]),.al (.named 2) b,.al (.named 3) c]))⟩}
theorem abw:aM Tryz.prog 251 WO.ins:=mD Tryz.func251 rfl trivial trivial trivial (fun _ _ _ _=>by show _=_;kernel_rfl)
def Ve:SP:=(251,.full [.ptr,.data .i6] false (cC [WO.ins]))
theorem YE:OK Ve:=br ok Tryz.call251 ⟨abw,trivial⟩
noncomputable def aaw:l8 E:=pV E (jX []) (Ga E 21 [] []) 0 Tryz.f312
theorem ad4:ix Tryz.prog E 312 aaw:=k7 sound mix (S:=[]) trivial (L:=Ga E 21 [] []) (fun _=>rfl) Tryz.call312 Tryz.func312 rfl
def Wm:cg E:={S:=[S6,SY],D:=[(312,aaw)],i:=cE [.str,(.named 11)] [.str] N.Ar}
theorem ab2:aM Tryz.prog 293 Wm.ins:=go Tryz.func293 rfl ⟨YW,Uu,trivial⟩ ⟨ad4,trivial⟩ trivial (fun _ _=>by show _=_;kernel_rfl)
def Zq:SP:=(293,.pure [.str,(.named 11)] (bz [Wm.ins]))
theorem ada:OK Zq:=aJ Tryz.call293 ⟨ab2,trivial⟩
def WK:cg E:={S:=[Zq],ls:=[{ks:=[0,7,8,9],rs:=[0,4],ins:=some [⟨[.v .str,.v (.slice (.named 11)),.iv,.iv],[],fun a t7 t8 t9=>⟨(a,t9),N.vE t7 t8,fun v_=>([.sv v_.1,.val (.slice (.named 11)) t7,.iv t8,.iv v_.2],[]),fun x_=> .ret (.exit 0,[.sv x_,.undef],[])⟩⟩]}],i:=cE [.str,(.slice (.named 11))] [.str] (N.As N.fuel)}
theorem abr:aM Tryz.prog 255 WK.ins:=go Tryz.func255 rfl ⟨ada,trivial⟩ trivial ⟨⟨fun _ _ _ _=>⟨rfl,fun _=>by show _=_;kernel_rfl⟩,trivial⟩,trivial⟩ (fun _ _=>by show _=_;kernel_rfl)
def ZF:SP:=(255,.pure [.str,(.slice (.named 11))] (bz [WK.ins]))
theorem adt:OK ZF:=aJ Tryz.call255 ⟨abr,trivial⟩
def WQ:cg E:={S:=[Ve,Vd,ZF],i:=⟨[.ptr 0 [],.ptr 3 [],.ptr 4 []],[.bx (.agg 4 [.own 1,.own 2,.iv]),.al (.named 2),.al (.named 3),.bx (.iv),.bx (.v (.slice (.named 11)))],fun a b c o3 o4=> .opt (N.om N.fuel (N.aG.mk b c a) o3 o4) fun x_=>bf x_ (fun d=> .ret (.ret [.nv 3 d.1],[.bx (.agg 4 [.own 1,.own 2,.iv d.2.aS]),.al (.named 2) d.2.aP,.al (.named 3) d.2.Marks,.bx (.iv o3),.bx (.val (.slice (.named 11)) o4)])) (fun e=> .ret (.panic (.fG 283 (.nv 21 e)),[.bx (.agg 4 [.own 1,.own 2,.iv a]),.al (.named 2) b,.al (.named 3) c,.bx (.iv o3),.bx (.val (.slice (.named 11)) o4)]))⟩}
theorem abx:aM Tryz.prog 250 WQ.ins:=mD Tryz.func250 rfl ⟨YE,YD,adt,trivial⟩ trivial trivial (fun _ _ _ _ _=>by show _=_;kernel_rfl)
def ZH:SP:=(250,.full [.ptr,.ptr,.ptr] false (cC [WQ.ins]))
theorem adv:OK ZH:=br ok Tryz.call250 ⟨abx,trivial⟩
def WG:cg E:={S:=[Ve],i:=⟨[.ptr 0 [],.ptr 3 []],[.bx (.agg 4 [.own 1,.own 2,.iv]),.al (.named 2),.al (.named 3),.bx (.iv)],fun a b c o3=> .opt (N.pG (N.aG.mk b c a) o3) fun x_=>bf x_ (fun d=> .ret (.ret [.nv 3 d.1],[.bx (.agg 4 [.own 1,.own 2,.iv d.2.aS]),.al (.named 2) d.2.aP,.al (.named 3) d.2.Marks,.bx (.iv o3)])) (fun e=> .ret (.panic (.fG 283 (.nv 21 (N.cJ.mk 2))),[.bx (.agg 4 [.own 1,.own 2,.iv a]),.al (.named 2) b,.al (.named 3) c,.bx (.iv o3)]))⟩}
theorem abn:aM Tryz.prog 259 WG.ins:=mD Tryz.func259 rfl ⟨YE,trivial⟩ trivial trivial (fun _ _ _ _=>by show _=_;kernel_rfl)
def ZB:SP:=(259,.full [.ptr,.ptr] false (cC [WG.ins]))
theorem adp:OK ZB:=br ok Tryz.call259 ⟨abn,trivial⟩
def WW:cg E:={S:=[NM,ZL],D:=[(288,Th)],i:=⟨[.v (.named 4),.iv,.iv,.fn 245 [.ptr 0 []]],[.bx (.v .str)],fun s a b o0=> .opt (N.ur N.fuel s a b o0) fun x_=> .ret (.ret [.nv 4 x_.1,.nv 3 x_.2],[.bx (.sv o0)])⟩}
theorem abD:aM Tryz.prog 244 WW.ins:=mD Tryz.func244 rfl ⟨Qe,adz,trivial⟩ ⟨Ut,trivial⟩ trivial (fun _ _ _ _=>by show _=_;kernel_rfl)
def Tr:cg E:={S:=[NM,ZH],D:=[(288,Th)],i:=⟨[.v (.named 4),.iv,.iv,.fn 250 [.ptr 0 [],.ptr 1 []]],[.bx (.iv),.bx (.v (.slice (.named 11)))],fun s a b o0 o1=> .opt (N.qR N.fuel s a b o0 o1) fun x_=> .ret (.ret [.nv 4 x_.1,.nv 3 x_.2],[.bx (.iv o0),.bx (.val (.slice (.named 11)) o1)])⟩}
theorem VQ:aM Tryz.prog 244 Tr.ins:=mD Tryz.func244 rfl ⟨Qe,adv,trivial⟩ ⟨Ut,trivial⟩ trivial (fun _ _ _ _ _=>by show _=_;kernel_rfl)
def Tq:cg E:={S:=[NM,ZB],D:=[(288,Th)],i:=⟨[.v (.named 4),.iv,.iv,.fn 259 [.ptr 0 []]],[.bx (.iv)],fun s a b o0=> .opt (N.qQ s a b o0) fun x_=> .ret (.ret [.nv 4 x_.1,.nv 3 x_.2],[.bx (.iv o0)])⟩}
theorem VP:aM Tryz.prog 244 Tq.ins:=mD Tryz.func244 rfl ⟨Qe,adp,trivial⟩ ⟨Ut,trivial⟩ trivial (fun _ _ _ _=>by show _=_;kernel_rfl)
def S1:SP:=(244,.full [.data (.named 4),.data .i6,.data .i6,.func] false (cC [WW.ins,Tr.ins,Tq.ins]))
theorem Uv:OK S1:=br ok Tryz.call244 ⟨abD,VQ,VP,trivial⟩
def XD:cg E:={S:=[S1],i:=cE [(.named 4),.i6,.i6,.str] [(.named 4),(.named 3)] (N.uw N.fuel)}
theorem acf:aM Tryz.prog 175 XD.ins:=go Tryz.func175 rfl ⟨Uv,trivial⟩ trivial trivial (fun _ _ _ _=>by show _=_;kernel_rfl)
def aa0:SP:=(175,.pure [(.named 4),.i6,.i6,.str] (bz [XD.ins]))
theorem ae0:OK aa0:=aJ Tryz.call175 ⟨acf,trivial⟩
def X9:cg E:={S:=[Zh,VG],i:=⟨[.v (.named 4)],[],fun s=> .wH (.ret (N.LG s)) fun x_=> .ret (.ret [.nv 4 s],[])⟩}
theorem acN:aM Tryz.prog 112 X9.ins:=go Tryz.func112 rfl ⟨p82,Yr,trivial⟩ trivial trivial (fun _=>by show _=_;kernel_rfl)
def aal:SP:=(112,.pure [(.named 4)] (bz [X9.ins]))
theorem aeo:OK aal:=aJ Tryz.call112 ⟨acN,trivial⟩
def Xo:cg E:={ls:=[{ks:=[1,2,3,7,10,11,12],rs:=[1,2,3,6],ins:=some [⟨[.iv,.v (.slice (.named 0)),.ptr 0 [],.iv,.v (.slice (.named 0)),.iv,.iv],[.bx (.v (.named 1))],fun a l b c e f d=>⟨(b,f),N.vk a l c e d,fun v_=>([.iv a,.val (.slice (.named 0)) l,.ptr 0 [],.iv v_.1,.val (.slice (.named 0)) c,.iv e,.iv v_.2],[.bx (.nv 1 d)]),fun x_=>bf x_ (fun g=> .ret (.ret,[.iv a,.val (.slice (.named 0)) l,.ptr 0 [],.bv false],[.bx (.nv 1 d),.bx (.nv 0 g)])) (fun h=> .ret (.exit 0,[.iv a,.val (.slice (.named 0)) l,.ptr 0 [],.undef],[.bx (.nv 1 d)]))⟩⟩]}],i:=cE [(.named 1),.i6,(.slice (.named 0))] [.bool] (N.Aj N.fuel)}
theorem abZ:aM Tryz.prog 194 Xo.ins:=go Tryz.func194 rfl trivial trivial ⟨⟨fun _ _ _ _ _ _ _=>⟨rfl,fun _=>by show _=_;kernel_rfl⟩,trivial⟩,trivial⟩ (fun _ _ _=>by show _=_;kernel_rfl)
def Z1:SP:=(194,.pure [(.named 1),.i6,(.slice (.named 0))] (bz [Xo.ins]))
theorem adP:OK Z1:=aJ Tryz.call194 ⟨abZ,trivial⟩
def Xn:cg E:={i:=⟨[],[],.wH (.ret (N.BE)) fun x_=> .ret (.ret [.val (.slice (.int .u8)) ([0,0,0,0,0,0,0,0,0,0,0,0,0,0,0,0,0,0,0,0,0,0,0,0,0,0,0,0,0,0,0,0])],[])⟩}
theorem abY:aM Tryz.prog 195 Xn.ins:=go Tryz.func195 rfl trivial trivial trivial (by show _=_;kernel_rfl)
def Z0:SP:=(195,.pure [] (bz [Xn.ins]))
theorem adO:OK Z0:=aJ Tryz.call195 ⟨abY,trivial⟩
def WD:cg E:={i:=⟨[.ptr 0 [],.v (.named 1),.v .bool],[.bx (.agg 19 [.agg 1 [.own 1,.own 2,.iv,.v .bool]]),.arr .ba .str,.arr .ba (.named 0)],fun d ok a b c e=> .opt (N.gd d ok (N.bc.mk (N.aN.mk c e a b))) fun x_=>bf x_ (fun f=> .ret (.ret [],[.bx (.nv 19 f),.arr .ba .str c,.arr .ba (.named 0) e])) (fun g=> .ret (.panic (.fG 292 (.nv 16 N.fa.mk)),[.bx (.nv 19 g),.arr .ba .str c,.arr .ba (.named 0) e]))⟩}
theorem abk:aM Tryz.prog 262 WD.ins:=mD Tryz.func262 rfl trivial trivial trivial (fun _ _ _ _ _ _=>by show _=_;kernel_rfl)
def Tn:cg E:={i:=⟨[.ptr 0 [],.v (.named 1),.v .bool],[.bx (.v (.named 19))],fun d ok w=> .opt (N.gd d ok w) fun x_=>bf x_ (fun a=> .ret (.ret [],[.bx (.nv 19 a)])) (fun b=> .ret (.panic (.fG 292 (.nv 16 N.fa.mk)),[.bx (.nv 19 b)]))⟩}
theorem VN:aM Tryz.prog 262 Tn.ins:=mD Tryz.func262 rfl trivial trivial trivial (fun _ _ _=>by show _=_;kernel_rfl)
def Po:SP:=(262,.full [.ptr,.data (.named 1),.data .bool] false (cC [WD.ins,Tn.ins]))
theorem Qd:OK Po:=br ok Tryz.call262 ⟨abk,VN,trivial⟩
def Xr:cg E:={S:=[Po,P75],i:=⟨[.ptr 0 [],.iv,.v .str],[.bx (.agg 19 [.agg 1 [.own 1,.own 2,.iv,.v .bool]]),.al .str,.al (.named 0)],fun i b a c d e=> .opt (N.lH i b (N.bc.mk (N.aN.mk d e a c))) fun x_=>bf x_ (fun f=> .ret (.ret [],[.bx (.nv 19 f.1),.arr .ba .str f.2.1,.arr .ba (.named 0) f.2.2])) (fun g=> .ret (.panic (.fG 292 (.nv 16 N.fa.mk)),[.bx (.nv 19 g.1),.arr .ba .str g.2.1,.arr .ba (.named 0) g.2.2]))⟩}
theorem ac2:aM Tryz.prog 188 Xr.ins:=mD Tryz.func188 rfl ⟨Qd,p75,trivial⟩ trivial trivial (fun _ _ _ _ _ _=>by show _=_;kernel_rfl)
def Tt:cg E:={S:=[Po,P75],i:=⟨[.ptr 0 [],.iv,.v .str],[.bx (.v (.named 19))],fun i b w=> .opt (N.jG i b w) fun x_=>bf x_ (fun a=> .ret (.ret [],[.bx (.nv 19 a)])) (fun c=> .ret (.panic (.fG 292 (.nv 16 N.fa.mk)),[.bx (.nv 19 c)]))⟩}
theorem VS:aM Tryz.prog 188 Tt.ins:=mD Tryz.func188 rfl ⟨Qd,p75,trivial⟩ trivial trivial (fun _ _ _=>by show _=_;kernel_rfl)
def Vl:SP:=(188,.full [.ptr,.data .i6,.data .str] false (cC [Xr.ins,Tt.ins]))
theorem YL:OK Vl:=br ok Tryz.call188 ⟨ac2,VS,trivial⟩
def Xq:cg E:={S:=[Po,P76],i:=⟨[.ptr 0 []],[.bx (.v (.named 19))],fun w=> .opt (N.lI N.fuel w) fun x_=>bf x_ (fun a=> .ret (.ret [],[.bx (.nv 19 a)])) (fun b=> .ret (.panic (.fG 292 (.nv 16 N.fa.mk)),[.bx (.nv 19 b)]))⟩}
theorem ac1:aM Tryz.prog 189 Xq.ins:=mD Tryz.func189 rfl ⟨Qd,p76,trivial⟩ trivial trivial (fun _=>by show _=_;kernel_rfl)
def Vk:SP:=(189,.full [.ptr] false (cC [Xq.ins]))
theorem YK:OK Vk:=br ok Tryz.call189 ⟨ac1,trivial⟩
def Ts:cg E:={aH:=true,i:=⟨[],[],.wH (.ret (N.BE)) fun x_=> .ret (.ret [.own 0],[.al (.int .u8) ([0,0,0,0,0,0,0,0,0,0,0,0,0,0,0,0,0,0,0,0,0,0,0,0,0,0,0,0,0,0,0,0])])⟩}
theorem VR:aM Tryz.prog 195 Ts.ins:=mD Tryz.func195 rfl trivial trivial trivial (by show _=_;kernel_rfl)
def T4:SP:=(195,.full [] false (cC [Ts.ins]))
theorem YJ:OK T4:=br ok Tryz.call195 ⟨VR,trivial⟩
def Xm:cg E:={S:=[T4],ls:=[{ks:=[3,16,17,18],rs:=[2,3],ins:=some [⟨[.own 0,.v (.slice (.named 0)),.iv,.iv],[.al (.int .u8)],fun a c d b=>⟨(d,b),N.s6 a c,fun v_=>([.own 0,.val (.slice (.named 0)) a,.iv c,.iv v_.1],[.al (.int .u8) v_.2]),fun x_=> .ret (.exit 0,[.undef,.own 0],[.al (.int .u8) x_])⟩⟩]}],i:=cE [(.slice (.named 0))] [.str] (N.xN N.fuel)}
theorem abX:aM Tryz.prog 196 Xm.ins:=go Tryz.func196 rfl ⟨YJ,trivial⟩ trivial ⟨⟨fun _ _ _ _=>⟨rfl,fun _=>by show _=_;kernel_rfl⟩,trivial⟩,trivial⟩ (fun _=>by show _=_;kernel_rfl)
def ZZ:SP:=(196,.pure [(.slice (.named 0))] (bz [Xm.ins]))
theorem adN:OK ZZ:=aJ Tryz.call196 ⟨abX,trivial⟩
noncomputable def VA:l8 E:=pV E (jX []) (Ga E 28 [] []) 0 Tryz.f185
theorem YM:ix Tryz.prog E 185 VA:=k7 sound mix (S:=[]) trivial (L:=Ga E 28 [] []) (fun _=>rfl) Tryz.call185 Tryz.func185 rfl
end
end Go.Proofs.YtlejgahbbfeagaaGreatDoor.V

/- The seat's functions, and the nice ones (1). -/
import Derived.Test.YtlejgahbbfeagaaGreatDoorSeat1
import Derived.Test.YtlejgahbbfeagaaGreatDoorSeat3
import Derived.Test.YtlejgahbbfeagaaGreatDoorSeat2
set_option linter.unusedVariables false
set_option maxRecDepth 100000
namespace Go.Proofs.YtlejgahbbfeagaaGreatDoor.V
open Go Go.Proofs.YtlejgahbbfeagaaGreatDoor.D
noncomputable section
@[reducible] def g13 (z:N.ax) (n0 n1 n2 n3 n4 n5 n6:Nat):az E.T:= .agg 13 [.agg 10 [.agg 5 [.agg 1 [.own n0,.own n1,.iv z.Server.aB.D.im,.bv z.Server.aB.D.Down],.agg 4 [.own n2,.own n3,.iv z.Server.aB.S.aP]],.nv 8 z.Server.aY,.own n4,.own n5,.iv z.Server.gD,.iv z.Server.od,.iv z.Server.wM,.bv z.Server.Live,.iv z.Server.fG],.own n6]
@[reducible] def zT (z:N.ax) (n0 n1 n2 n3 n4 n5 n6 n7 n8:Nat):az E.T:= .agg 13 [.agg 10 [.agg 5 [.agg 1 [.own n0,.own n1,.iv z.Server.aB.D.im,.bv z.Server.aB.D.Down],.agg 4 [.own n2,.own n3,.iv z.Server.aB.S.aP]],.agg 8 [.own n4,.own n5],.own n6,.own n7,.iv z.Server.gD,.iv z.Server.od,.iv z.Server.wM,.bv z.Server.Live,.iv z.Server.fG],.own n8]
@[reducible] def sJ (n0 n1 n2 n3 n4 n5 n6 n7:Nat):Sh:= .agg 13 [.agg 10 [.agg 5 [.agg 1 [.own n0,.own n1,.iv,.v .bool],.agg 4 [.own n2,.own n3,.iv]],.agg 8 [.own n4,.own n5],.own n6,.own n7,.iv,.iv,.iv,.v .bool,.iv],.bm]
@[reducible] def yn (z:N.ax) (n0 n1 n2 n3:Nat):az E.T:= .agg 13 [.agg 10 [.nv 5 z.Server.aB,.agg 8 [.own n0,.own n1],.own n2,.own n3,.iv z.Server.gD,.iv z.Server.od,.iv z.Server.wM,.bv z.Server.Live,.iv z.Server.fG],.bm]
@[reducible] def Ga (z:N.ax) (n0 n1 n2:Nat):az E.T:= .agg 13 [.agg 10 [.nv 5 z.Server.aB,.nv 8 z.Server.aY,.own n0,.own n1,.iv z.Server.gD,.iv z.Server.od,.iv z.Server.wM,.bv z.Server.Live,.iv z.Server.fG],.own n2]
@[reducible] def Ij (z:N.ax) (n0 n1 n2 n3 n4:Nat):az E.T:= .agg 13 [.agg 10 [.nv 5 z.Server.aB,.agg 8 [.own n0,.own n1],.own n2,.own n3,.iv z.Server.gD,.iv z.Server.od,.iv z.Server.wM,.bv z.Server.Live,.iv z.Server.fG],.own n4]
@[reducible] def HJ (n0 n1 n2 n3 n4 n5:Nat):Sh:= .agg 13 [.agg 10 [.agg 5 [.agg 1 [.own n0,.own n1,.iv,.v .bool],.agg 4 [.own n2,.own n3,.iv]],.v (.named 8),.own n4,.own n5,.iv,.iv,.iv,.v .bool,.iv],.bm]
@[reducible] def RA (z:N.ax) (n0 n1 n2 n3 n4 n5 n6 n7:Nat):az E.T:= .agg 13 [.agg 10 [.agg 5 [.agg 1 [.own n0,.own n1,.iv z.Server.aB.D.im,.bv z.Server.aB.D.Down],.agg 4 [.own n2,.own n3,.iv z.Server.aB.S.aP]],.agg 8 [.own n4,.own n5],.own n6,.own n7,.iv z.Server.gD,.iv z.Server.od,.iv z.Server.wM,.bv z.Server.Live,.iv z.Server.fG],.bm]
@[reducible] def N7 (n0 n1 n2 n3 n4 n5 n6:Nat):Sh:= .agg 13 [.agg 10 [.agg 5 [.agg 1 [.own n0,.own n1,.iv,.v .bool],.agg 4 [.own n2,.own n3,.iv]],.v (.named 8),.own n4,.own n5,.iv,.iv,.iv,.v .bool,.iv],.own n6]
@[reducible] def g12 (z:N.bf) (n0:Nat):az E.T:= .agg 12 [.iv z.Kind,.iv z.bg,.iv z.aP,.iv z.Seq,.sv z.Name,.iv z.aV,.iv z.Mode,.own n0]
@[reducible] def g1 (z:N.aT):az E.T:= .agg 1 [.bm,.bm,.iv z.im,.bv z.Down]
@[reducible] def g10 (z:N.aG):az E.T:= .agg 10 [.agg 5 [.agg 1 [.bm,.bm,.iv z.aB.D.im,.bv z.aB.D.Down],.agg 4 [.bm,.bm,.iv z.aB.S.aP]],.agg 8 [.bm,.bm],.bm,.bm,.iv z.gD,.iv z.od,.iv z.wM,.bv z.Live,.iv z.fG]
@[reducible] def ML (n0 n1 n2 n3:Nat):Sh:= .agg 13 [.agg 10 [.v (.named 5),.agg 8 [.own n0,.own n1],.own n2,.own n3,.iv,.iv,.iv,.v .bool,.iv],.bm]
@[reducible] def MK (n0 n1:Nat):Sh:= .agg 13 [.agg 10 [.v (.named 5),.v (.named 8),.own n0,.own n1,.iv,.iv,.iv,.v .bool,.iv],.bm]
@[reducible] def Us (z:N.aG) (n0:Nat):az E.T:= .agg 10 [.nv 5 z.aB,.agg 8 [.bm,.bm],.own n0,.bm,.iv z.gD,.iv z.od,.iv z.wM,.bv z.Live,.iv z.fG]
def Yi:cg E:={i:=cu [.i6] [(.slice (.named 3))] N.FP}
theorem ad9:aJ Tryz.prog 157 Yi.ins:=go Tryz.func157 rfl trivial trivial trivial (fun _=>by show _=_;kernel_rfl)
def aaH:SP:=(157,.pure [.i6] (bj [Yi.ins]))
theorem aeX:OK aaH:=aH Tryz.call157 ⟨ad9,trivial⟩
def x71:cg E:={S:=[aaH],i:=cu [] [(.named 4)] N.DR}
theorem y71:aJ Tryz.prog 71 x71.ins:=go Tryz.func71 rfl ⟨aeX,trivial⟩ trivial trivial (by show _=_;kernel_rfl)
def P71:SP:=(71,.pure [] (bj [x71.ins]))
theorem p71:OK P71:=aH Tryz.call71 ⟨y71,trivial⟩
def XG:cg E:={i:=⟨[.iv],[],fun v=> .xa (N.rp v) fun x_=> .ret (.ret [.bv x_],[])⟩}
theorem acx:aJ Tryz.prog 229 XG.ins:=go Tryz.func229 rfl trivial trivial trivial (fun _=>by show _=_;kernel_rfl)
def TD:SP:=(229,.pure [.i6] (bj [XG.ins]))
theorem UY:OK TD:=aH Tryz.call229 ⟨acx,trivial⟩
def Xr:cg E:={ls:=[{ks:=[0,6,7,8],rs:=[0,2],ins:=some [⟨[.v .str,.own 0,.iv,.iv],[.al (.int .u8)],fun a t7 t8 r0=>⟨t8,N.s7 a t7 r0,fun v_=>([.sv a,.own 0,.iv t7,.iv v_],[.al (.int .u8) r0]),fun x_=>ba x_ (fun b=> .ret (.ret,[.sv a,.bv false],[.al (.int .u8) r0])) (fun c=> .ret (.exit 0,[.sv a,.undef],[.al (.int .u8) r0]))⟩⟩]}],i:=cu [.str] [.bool] (N.Du N.fuel)}
theorem acg:aJ Tryz.prog 246 Xr.ins:=go Tryz.func246 rfl trivial trivial ⟨⟨fun _ _ _ _=>⟨rfl,fun _=>by show _=_;kernel_rfl⟩,trivial⟩,trivial⟩ (fun _=>by show _=_;kernel_rfl)
def Sd:SP:=(246,.pure [.str] (bj [Xr.ins]))
theorem SL:OK Sd:=aH Tryz.call246 ⟨acg,trivial⟩
def XE:cg E:={S:=[TD,Sd],i:=cu [(.named 2)] [.bool] (N.pT N.fuel)}
theorem acv:aJ Tryz.prog 231 XE.ins:=go Tryz.func231 rfl ⟨UY,SL,trivial⟩ trivial trivial (fun _=>by show _=_;kernel_rfl)
def aag:SP:=(231,.pure [(.named 2)] (bj [XE.ins]))
theorem aes:OK aag:=aH Tryz.call231 ⟨acv,trivial⟩
def XF:cg E:={i:=⟨[.v (.named 2),.ptr 0 []],[.box true (.v (.named 2))],fun g o0=> .xa (N.rq g o0) fun x_=> .ret (.ret [.bv x_],[.box true (.nv 2 o0)])⟩}
theorem acw:aJ Tryz.prog 230 XF.ins:=go Tryz.func230 rfl trivial trivial trivial (fun _ _=>by show _=_;kernel_rfl)
def aah:SP:=(230,.full [.data (.named 2),.ptr] true (cC [XF.ins]))
theorem aet:OK aah:=bn ok Tryz.call230 ⟨acw,trivial⟩
def WI:cg E:={i:=⟨[.v (.named 2),.ptr 0 []],[.box true (.v .str)],fun f o0=> .xa (.ret (N.l5 f o0)) fun x_=> .ret (.ret [.bv x_],[.box true (.sv o0)])⟩}
theorem abB:aJ Tryz.prog 310 WI.ins:=go Tryz.func310 rfl trivial trivial trivial (fun _ _=>by show _=_;kernel_rfl)
def ZT:SP:=(310,.full [.data (.named 2),.ptr] true (cC [WI.ins]))
theorem adS:OK ZT:=bn ok Tryz.call310 ⟨abB,trivial⟩
def WY:cg E:={S:=[aah],ls:=[{ks:=[0,1,7,8],rs:=[4],ins:=some [⟨[.v (.slice (.named 2)),.fn 230 [.ptr 0 []],.iv,.iv],[.box true (.v (.named 2))],fun s t7 t8 o0=>⟨t8,N.gv s t7 o0,fun v_=>([.val (.slice (.named 2)) s,.fn 230 [.ptr 0 []],.iv t7,.iv v_],[.box true (.nv 2 o0)]),fun x_=>ba x_ (fun a=> .ret (.ret,[.iv a],[.box true (.nv 2 o0)])) (fun b=> .ret (.exit 0,[.undef],[.box true (.nv 2 o0)]))⟩⟩]}],i:=⟨[.v (.slice (.named 2)),.fn 230 [.ptr 0 []]],[.box true (.v (.named 2))],fun s o0=> .opt (N.iF N.fuel s o0) fun x_=> .ret (.ret [.iv x_],[.box true (.nv 2 o0)])⟩}
theorem abQ:aJ Tryz.prog 282 WY.ins:=go Tryz.func282 rfl ⟨aet,trivial⟩ trivial ⟨⟨fun _ _ _ _=>⟨rfl,fun _=>by show _=_;kernel_rfl⟩,trivial⟩,trivial⟩ (fun _ _=>by show _=_;kernel_rfl)
def TZ:cg E:={S:=[ZT],ls:=[{ks:=[0,1,7,8],rs:=[4],ins:=some [⟨[.v (.slice (.named 2)),.fn 310 [.ptr 0 []],.iv,.iv],[.box true (.v .str)],fun s t7 t8 o0=>⟨t8,N.jR s t7 o0,fun v_=>([.val (.slice (.named 2)) s,.fn 310 [.ptr 0 []],.iv t7,.iv v_],[.box true (.sv o0)]),fun x_=>ba x_ (fun a=> .ret (.ret,[.iv a],[.box true (.sv o0)])) (fun b=> .ret (.exit 0,[.undef],[.box true (.sv o0)]))⟩⟩]}],i:=⟨[.v (.slice (.named 2)),.fn 310 [.ptr 0 []]],[.box true (.v .str)],fun s o0=> .opt (N.gw N.fuel s o0) fun x_=> .ret (.ret [.iv x_],[.box true (.sv o0)])⟩}
theorem Wd:aJ Tryz.prog 282 TZ.ins:=go Tryz.func282 rfl ⟨adS,trivial⟩ trivial ⟨⟨fun _ _ _ _=>⟨rfl,fun _=>by show _=_;kernel_rfl⟩,trivial⟩,trivial⟩ (fun _ _=>by show _=_;kernel_rfl)
def Vz:SP:=(282,.full [.data (.slice (.named 2)),.func] true (cC [WY.ins,TZ.ins]))
theorem Y4:OK Vz:=bn ok Tryz.call282 ⟨abQ,Wd,trivial⟩
def XD:cg E:={S:=[Vz],i:=⟨[.v (.slice (.named 2)),.fn 230 [.ptr 0 []]],[.box true (.v (.named 2))],fun s o0=> .opt (N.fX N.fuel s o0) fun x_=> .ret (.ret [.bv x_],[.box true (.nv 2 o0)])⟩}
theorem acu:aJ Tryz.prog 232 XD.ins:=go Tryz.func232 rfl ⟨Y4,trivial⟩ trivial trivial (fun _ _=>by show _=_;kernel_rfl)
def aaf:SP:=(232,.full [.data (.slice (.named 2)),.func] true (cC [XD.ins]))
theorem aer:OK aaf:=bn ok Tryz.call232 ⟨acu,trivial⟩
def XA:cg E:={S:=[TD],i:=⟨[.v (.named 3)],[],fun m=> .xa (N.pS m) fun x_=> .ret (.ret [.bv x_],[])⟩}
theorem acq:aJ Tryz.prog 235 XA.ins:=go Tryz.func235 rfl ⟨UY,trivial⟩ trivial trivial (fun _=>by show _=_;kernel_rfl)
def aac:SP:=(235,.pure [(.named 3)] (bj [XA.ins]))
theorem aeo:OK aac:=aH Tryz.call235 ⟨acq,trivial⟩
def XB:cg E:={S:=[aac],i:=⟨[.v (.named 3)],[],fun m=> .xa (.ret (N.ff m)) fun x_=> .ret (.ret [.bv x_],[])⟩}
theorem acr:aJ Tryz.prog 234 XB.ins:=go Tryz.func234 rfl ⟨aeo,trivial⟩ trivial trivial (fun _=>by show _=_;kernel_rfl)
def aad:SP:=(234,.pure [(.named 3)] (bj [XB.ins]))
theorem aep:OK aad:=aH Tryz.call234 ⟨acr,trivial⟩
def WX:cg E:={S:=[aad],ls:=[{ks:=[0,1,7,8],rs:=[4],ins:=some [⟨[.v (.slice (.named 3)),.fn 234 [],.iv,.iv],[],fun s t7 t8=>⟨t8,N.gu s t7,fun v_=>([.val (.slice (.named 3)) s,.fn 234 [],.iv t7,.iv v_],[]),fun x_=>ba x_ (fun a=> .ret (.ret,[.iv a],[])) (fun b=> .ret (.exit 0,[.undef],[]))⟩⟩]}],i:=⟨[.v (.slice (.named 3)),.fn 234 []],[],fun s=> .opt (N.iE N.fuel s) fun x_=> .ret (.ret [.iv x_],[])⟩}
theorem abP:aJ Tryz.prog 283 WX.ins:=go Tryz.func283 rfl ⟨aep,trivial⟩ trivial ⟨⟨fun _ _ _=>⟨rfl,fun _=>by show _=_;kernel_rfl⟩,trivial⟩,trivial⟩ (fun _=>by show _=_;kernel_rfl)
def Z1:SP:=(283,.full [.data (.slice (.named 3)),.func] true (cC [WX.ins]))
theorem ae1:OK Z1:=bn ok Tryz.call283 ⟨abP,trivial⟩
def XC:cg E:={S:=[Z1],i:=⟨[.v (.slice (.named 3)),.fn 234 []],[],fun s=> .opt (N.fW N.fuel s) fun x_=> .ret (.ret [.bv x_],[])⟩}
theorem acs:aJ Tryz.prog 233 XC.ins:=go Tryz.func233 rfl ⟨ae1,trivial⟩ trivial trivial (fun _=>by show _=_;kernel_rfl)
def aae:SP:=(233,.full [.data (.slice (.named 3)),.func] true (cC [XC.ins]))
theorem aeq:OK aae:=bn ok Tryz.call233 ⟨acs,trivial⟩
def Yh:cg E:={S:=[TD,aag,aaf,aae],ls:=[{ks:=[1,23,24,25],rs:=[1,2],ins:=some [⟨[.ptr 0 [],.v (.slice (.named 2)),.iv,.iv],[.bx (.v (.named 4))],fun a b c s=>⟨c,N.tr N.fuel a b s,fun v_=>([.ptr 0 [],.val (.slice (.named 2)) a,.iv b,.iv v_],[.bx (.nv 4 s)]),fun x_=>ba x_ (fun d=> .ret (.ret,[.ptr 0 [],.bv false],[.bx (.nv 4 s),.bx (.nv 2 d)])) (fun e=> .ret (.exit 0,[.ptr 0 [],.undef],[.bx (.nv 4 s)]))⟩⟩]}],i:=cu [(.named 4)] [.bool] (N.xi N.fuel)}
theorem ad8:aJ Tryz.prog 160 Yh.ins:=go Tryz.func160 rfl ⟨UY,aes,aer,aeq,trivial⟩ trivial ⟨⟨fun _ _ _ _=>⟨rfl,fun _=>by show _=_;kernel_rfl⟩,trivial⟩,trivial⟩ (fun _=>by show _=_;kernel_rfl)
def VS:SP:=(160,.pure [(.named 4)] (bj [Yh.ins]))
theorem Zr:OK VS:=aH Tryz.call160 ⟨ad8,trivial⟩
noncomputable def afV:List (az E.T)→St E.T→Tree (iT E.T×St E.T):=sn E (.int .u8)
def Se:SP:=(236,.full [.data (.slice (.int .u8))] false afV)
theorem ZL: ∃R0 C R id o1 o2,Tryz.f236.body=some (.seq R0 (.seq (.seq (.region id #[o1,o2] false) C) R))∧(o1.op= .move (.tmp 0)∧o1.dst=some 3∧o1.guard=none)∧(o2.op= .binOp .eql 44 (.tmp 3) (.const (.slice none 0 0)) 44∧o2.dst=some 4∧o2.guard=none)∧
  ik E Tryz.f236 (.int .u8) R0 C R (fun xs=>put E (frame E Tryz.f236 [.val (.slice (.int .u8)) xs]) (some 2) .bm) (fun xs=>put E (put E (put E (put E (frame E Tryz.f236 [.val (.slice (.int .u8)) xs]) (some 2) .bm) (some 3) (.val (.slice (.int .u8)) xs)) (some 4) (.val .bool true)) (some 2) .bm) (fun xs n=>put E (put E (put E (put E (put E (put E (put E (frame E Tryz.f236 [.val (.slice (.int .u8)) xs]) (some 2) .bm) (some 3) (.val (.slice (.int .u8)) xs)) (some 4) (.val .bool false)) (some 5) .bm) (some 6) (.val (.slice (.int .u8)) xs)) (some 7) (.own n)) (some 2) (.own n)):=
 ⟨_,_,_,_,_,_,rfl,⟨rfl,rfl,rfl⟩,⟨rfl,rfl,rfl⟩,by
  constructor
  all_goals intros
  all_goals kernel_rfl⟩
theorem SM:OK Se:=by
 obtain⟨R0,C,R,id,o1,o2,hb,h1,h2,hF⟩:=ZL
 exact⟨Tryz.call236,nY sound mix Tryz.func236 hb h1 h2 ⟨_,Tryz.underlying44⟩ hF⟩
def Uc:cg E:={S:=[Se],ls:=[{ks:=[0,1,2],rs:=[0,6],ins:=some [⟨[.own 0,.iv,.iv],[.al (.int .u8)],fun v n b=>⟨(n,b),N.n9 v,fun v_=>([.own 0,.iv v,.iv v_.1],[.al (.int .u8) v_.2]),fun x_=> .ret (.exit 0,[.own 0,.undef],[.al (.int .u8) x_])⟩⟩]}],aM:=true,i:=⟨[.v (.slice (.int .u8)),.iv,.iv],[],fun b v n=> .opt (N.ss N.fuel b v n) fun x_=> .ret (.ret [.own 0],[.al (.int .u8) x_])⟩}
theorem Wr:aJ Tryz.prog 161 Uc.ins:=l4 Tryz.func161 rfl ⟨SM,trivial⟩ trivial ⟨⟨fun _ _ _=>⟨rfl,fun _=>by show _=_;kernel_rfl⟩,trivial⟩,trivial⟩ (fun _ _ _=>by show _=_;kernel_rfl)
def UA:SP:=(161,.full [.data (.slice (.int .u8)),.data .i6,.data .i6] false (cC [Uc.ins]))
theorem Zp:OK UA:=bn ok Tryz.call161 ⟨Wr,trivial⟩
def Ub:cg E:={S:=[Se],aM:=true,i:=⟨[.v (.slice (.int .u8)),.v .str],[],fun b s=> .opt (N.ta b s) fun x_=> .ret (.ret [.own 0],[.al (.int .u8) x_])⟩}
theorem Wq:aJ Tryz.prog 172 Ub.ins:=l4 Tryz.func172 rfl ⟨SM,trivial⟩ trivial trivial (fun _ _=>by show _=_;kernel_rfl)
def Uz:SP:=(172,.full [.data (.slice (.int .u8)),.data .str] false (cC [Ub.ins]))
theorem Zn:OK Uz:=bn ok Tryz.call172 ⟨Wq,trivial⟩
def Yf:cg E:={S:=[Uz],aM:=true,i:=⟨[.v (.slice (.int .u8)),.v .str,.iv],[],fun b s n=> .opt (N.r8 b s n) fun x_=> .ret (.ret [.own 0],[.al (.int .u8) x_])⟩}
theorem ad6:aJ Tryz.prog 162 Yf.ins:=l4 Tryz.func162 rfl ⟨Zn,trivial⟩ trivial trivial (fun _ _ _=>by show _=_;kernel_rfl)
def aaG:SP:=(162,.full [.data (.slice (.int .u8)),.data .str,.data .i6] false (cC [Yf.ins]))
theorem aeV:OK aaG:=bn ok Tryz.call162 ⟨ad6,trivial⟩
def UF:cg E:={S:=[VS,UA,aaG],ls:=[{ks:=[1,2,3,18,19,20],rs:=[1,2,3],iq:=[(3,1)],ins:=some [⟨[.ptr 0 [],.bm,.own 1,.v (.slice (.named 3)),.iv,.iv],[.bx (.v (.named 4)),.al (.int .u8)],fun a c d s b=>⟨(d,b),N.tN N.fuel a c s,fun v_=>([.ptr 0 [],.bm,.own 1,.val (.slice (.named 3)) a,.iv c,.iv v_.1],[.bx (.nv 4 s),.al (.int .u8) v_.2]),fun x_=> .ret (.exit 0,[.ptr 0 [],.bm,.own 1],[.bx (.nv 4 s),.al (.int .u8) x_])⟩⟩]},{ks:=[2,3,39,40,41],rs:=[2,3],iq:=[(3,1)],ins:=some [⟨[.bm,.own 1,.v (.slice (.named 2)),.iv,.iv],[.bx (.v (.named 4)),.al (.int .u8)],fun e f g o0 b=>⟨(g,b),N.tM N.fuel e f o0,fun v_=>([.bm,.own 1,.val (.slice (.named 2)) e,.iv f,.iv v_.1],[.bx (.nv 4 o0),.al (.int .u8) v_.2]),fun x_=> .ret (.exit 2,[.bm,.own 1],[.bx (.nv 4 o0),.al (.int .u8) x_])⟩⟩]}],i:=cu [(.named 4)] [(.slice .str)] (N.ym N.fuel)}
theorem z74:ub Tryz.prog E 74 (NB E (jY UF.S) (UF.L Tryz.f74) 0 6 3 Tryz.f74):=PZ sound mix (S:=UF.S) ⟨Zr,Zp,aeV,trivial⟩ (L:=UF.L Tryz.f74) (N:=0) (m:=6) (q:=3) Tryz.func74 rfl (by kernel_rfl) (uG (x:=UF) ⟨⟨fun _ _ _ _ _=>⟨rfl,fun _=>by show _=_;kernel_rfl⟩,trivial⟩,⟨⟨fun _ _ _ _ _=>⟨rfl,fun _=>by show _=_;kernel_rfl⟩,trivial⟩,trivial⟩⟩) Sx
theorem y74:aJ Tryz.prog 74 UF.ins:=vV z74 (fun _=>by show _=_;kernel_rfl)
def ZR:SP:=(74,.pure [(.named 4)] (bj [UF.ins]))
theorem p74:OK ZR:=aH Tryz.call74 ⟨y74,trivial⟩
def YF:cg E:={S:=[P71,ZR],i:=cu [] [.i6] (N.Bw N.fuel)}
theorem ady:aJ Tryz.prog 109 YF.ins:=go Tryz.func109 rfl ⟨p71,p74,trivial⟩ trivial trivial (by show _=_;kernel_rfl)
def Si:SP:=(109,.pure [] (bj [YF.ins]))
theorem SN:OK Si:=aH Tryz.call109 ⟨ady,trivial⟩
def x73:cg E:={S:=[Si],i:=cu [] [.i6] (N.Bv N.fuel)}
theorem y73:aJ Tryz.prog 73 x73.ins:=go Tryz.func73 rfl ⟨SN,trivial⟩ trivial trivial (by show _=_;kernel_rfl)
def P73:SP:=(73,.pure [] (bj [x73.ins]))
theorem p73:OK P73:=aH Tryz.call73 ⟨y73,trivial⟩
def WZ:cg E:={i:=⟨[.v (.int .u64),.v (.int .u64)],[],fun x y=> .xa (.ret (N.fN x y)) fun x_=> .ret (.ret [.val (.int .u64) x_.1,.val (.int .u64) x_.2],[])⟩}
theorem abR:aJ Tryz.prog 278 WZ.ins:=go Tryz.func278 rfl trivial trivial trivial (fun _ _=>by show _=_;kernel_rfl)
def afQ:SP:=(278,.pure [(.int .u64),(.int .u64)] (bj [WZ.ins]))
theorem ae2:OK afQ:=aH Tryz.call278 ⟨abR,trivial⟩
def VU:SP:=(158,.pure [.slice .str,.int .i64] QO)
theorem aeW:oc Tryz.prog E VU.1 VU.2:=SH (Pw ae2.2 (fun m=>rfl))
def x72:cg E:={S:=[VU,TH],i:=cu [.i6] [(.named 1)] N.Gq}
theorem y72:aJ Tryz.prog 72 x72.ins:=go Tryz.func72 rfl ⟨aeW,Zs,trivial⟩ trivial trivial (fun _=>by show _=_;kernel_rfl)
def P72:SP:=(72,.pure [.i6] (bj [x72.ins]))
theorem p72:OK P72:=aH Tryz.call72 ⟨y72,trivial⟩
noncomputable def B80:List (az E.T)→St E.T→Tree (iT E.T×St E.T):=sn E .str
def ZQ:SP:=(80,.full [.data (.slice .str)] false B80)
theorem afB: ∃R0 C R id o1 o2,Tryz.f80.body=some (.seq R0 (.seq (.seq (.region id #[o1,o2] false) C) R))∧(o1.op= .move (.tmp 0)∧o1.dst=some 3∧o1.guard=none)∧(o2.op= .binOp .eql 24 (.tmp 3) (.const (.slice none 0 0)) 24∧o2.dst=some 4∧o2.guard=none)∧
  ik E Tryz.f80 .str R0 C R (fun xs=>put E (frame E Tryz.f80 [.val (.slice .str) xs]) (some 2) .bm) (fun xs=>put E (put E (put E (put E (frame E Tryz.f80 [.val (.slice .str) xs]) (some 2) .bm) (some 3) (.val (.slice .str) xs)) (some 4) (.val .bool true)) (some 2) .bm) (fun xs n=>put E (put E (put E (put E (put E (put E (put E (frame E Tryz.f80 [.val (.slice .str) xs]) (some 2) .bm) (some 3) (.val (.slice .str) xs)) (some 4) (.val .bool false)) (some 5) .bm) (some 6) (.val (.slice .str) xs)) (some 7) (.own n)) (some 2) (.own n)):=
 ⟨_,_,_,_,_,_,rfl,⟨rfl,rfl,rfl⟩,⟨rfl,rfl,rfl⟩,by
  constructor
  all_goals intros
  all_goals kernel_rfl⟩
theorem p80:OK ZQ:=by
 obtain⟨R0,C,R,id,o1,o2,hb,h1,h2,hF⟩:=afB
 exact⟨Tryz.call80,nY sound mix Tryz.func80 hb h1 h2 ⟨_,Tryz.underlying24⟩ hF⟩
noncomputable def B81:List (az E.T)→St E.T→Tree (iT E.T×St E.T):=sn E (.named 0)
def ZP:SP:=(81,.full [.data (.slice (.named 0))] false B81)
theorem afA: ∃R0 C R id o1 o2,Tryz.f81.body=some (.seq R0 (.seq (.seq (.region id #[o1,o2] false) C) R))∧(o1.op= .move (.tmp 0)∧o1.dst=some 3∧o1.guard=none)∧(o2.op= .binOp .eql 25 (.tmp 3) (.const (.slice none 0 0)) 25∧o2.dst=some 4∧o2.guard=none)∧
  ik E Tryz.f81 (.named 0) R0 C R (fun xs=>put E (frame E Tryz.f81 [.val (.slice (.named 0)) xs]) (some 2) .bm) (fun xs=>put E (put E (put E (put E (frame E Tryz.f81 [.val (.slice (.named 0)) xs]) (some 2) .bm) (some 3) (.val (.slice (.named 0)) xs)) (some 4) (.val .bool true)) (some 2) .bm) (fun xs n=>put E (put E (put E (put E (put E (put E (put E (frame E Tryz.f81 [.val (.slice (.named 0)) xs]) (some 2) .bm) (some 3) (.val (.slice (.named 0)) xs)) (some 4) (.val .bool false)) (some 5) .bm) (some 6) (.val (.slice (.named 0)) xs)) (some 7) (.own n)) (some 2) (.own n)):=
 ⟨_,_,_,_,_,_,rfl,⟨rfl,rfl,rfl⟩,⟨rfl,rfl,rfl⟩,by
  constructor
  all_goals intros
  all_goals kernel_rfl⟩
theorem p81:OK ZP:=by
 obtain⟨R0,C,R,id,o1,o2,hb,h1,h2,hF⟩:=afA
 exact⟨Tryz.call81,nY sound mix Tryz.func81 hb h1 h2 ⟨_,Tryz.underlying25⟩ hF⟩
def Ye:cg E:={S:=[ZQ,ZP],aM:=true,i:=⟨[.v (.named 1)],[],fun d=> .xa (.ret (N.PO d)) fun x_=> .ret (.ret [.agg 1 [.own 2,.own 3,.iv d.im,.bv d.Down]],[.dead,.dead,.al .str d.bz,.al (.named 0) d.bM])⟩}
theorem ad5:aJ Tryz.prog 164 Ye.ins:=l4 Tryz.func164 rfl ⟨p80,p81,trivial⟩ trivial trivial (fun _=>by show _=_;kernel_rfl)
def VQ:SP:=(164,.full [.data (.named 1)] false (cC [Ye.ins]))
theorem Zo:OK VQ:=bn ok Tryz.call164 ⟨ad5,trivial⟩
def Yd:cg E:={i:=⟨[.v (.named 1),.iv],[],fun d i=> .xa (N.wj d i) fun x_=> .ret (.ret [.bv x_],[])⟩}
theorem ad4:aJ Tryz.prog 165 Yd.ins:=go Tryz.func165 rfl trivial trivial trivial (fun _ _=>by show _=_;kernel_rfl)
def aaF:SP:=(165,.pure [(.named 1),.i6] (bj [Yd.ins]))
theorem aeU:OK aaF:=aH Tryz.call165 ⟨ad4,trivial⟩
def x75:cg E:={S:=[VQ,aaF],i:=cu [(.named 1),.i6,.str] [(.named 1),.bool] N.wk}
theorem y75:aJ Tryz.prog 75 x75.ins:=go Tryz.func75 rfl ⟨Zo,aeU,trivial⟩ trivial trivial (fun _ _ _=>by show _=_;kernel_rfl)
def P75:SP:=(75,.pure [(.named 1),.i6,.str] (bj [x75.ins]))
theorem p75:OK P75:=aH Tryz.call75 ⟨y75,trivial⟩
def Yc:cg E:={i:=⟨[.ptr 0 [],.v (.named 0),.iv],[.bx (.agg 17 [.agg 1 [.own 1,.own 2,.iv,.v .bool]]),.al .str,.al (.named 0)],fun p n a b c d=> .opt (N.kI p n (N.dw.mk (N.aT.mk c d a b))) fun x_=> .ret (.ret [],[.bx (.agg 17 [.agg 1 [.own 1,.own 2,.iv x_.d.im,.bv x_.d.Down]]),.al .str x_.d.bz,.al (.named 0) x_.d.bM])⟩}
theorem ad3:aJ Tryz.prog 166 Yc.ins:=l4 Tryz.func166 rfl trivial trivial trivial (fun _ _ _ _ _ _=>by show _=_;kernel_rfl)
def aaE:SP:=(166,.full [.ptr,.data (.named 0),.data .i6] false (cC [Yc.ins]))
theorem aeT:OK aaE:=bn ok Tryz.call166 ⟨ad3,trivial⟩
def x76:cg E:={S:=[VQ,aaE],ls:=[{ks:=[2,4,18,19,20],rs:=[2,3,4],ins:=some [⟨[.ptr 1 [],.ptr 6 [],.v (.slice (.named 0)),.iv,.iv],[.bx (.v (.named 1)),.bx (.agg 1 [.bm,.bm,.iv,.v .bool]),.dead,.dead,.al .str,.al (.named 0),.bx (.agg 17 [.agg 1 [.own 4,.own 5,.iv,.v .bool]])],fun a b c o0 d e f g h j=>⟨(c,(N.aT.mk [] [] d e),(N.dw.mk (N.aT.mk f g h j))),N.sh a b o0,fun v_=>([.ptr 1 [],.ptr 6 [],.val (.slice (.named 0)) a,.iv b,.iv v_.1],[.bx (.nv 1 o0),.bx (g1 v_.2.1),.dead,.dead,.al .str v_.2.2.d.bz,.al (.named 0) v_.2.2.d.bM,.bx (.agg 17 [.agg 1 [.own 4,.own 5,.iv v_.2.2.d.im,.bv v_.2.2.d.Down]])]),fun x_=> .ret (.exit 0,[.ptr 1 [],.undef,.ptr 6 []],[.bx (.nv 1 o0),.bx (g1 x_.1),.dead,.dead,.al .str x_.2.d.bz,.al (.named 0) x_.2.d.bM,.bx (.agg 17 [.agg 1 [.own 4,.own 5,.iv x_.2.d.im,.bv x_.2.d.Down]])])⟩⟩]}],i:=cu [(.named 1)] [(.named 1),.bool] (N.wm N.fuel)}
theorem y76:aJ Tryz.prog 76 x76.ins:=go Tryz.func76 rfl ⟨Zo,aeT,trivial⟩ trivial ⟨⟨fun _ _ _ _ _ _ _ _ _ _=>⟨rfl,fun _=>by show _=_;kernel_rfl⟩,trivial⟩,trivial⟩ (fun _=>by show _=_;kernel_rfl)
def P76:SP:=(76,.pure [(.named 1)] (bj [x76.ins]))
theorem p76:OK P76:=aH Tryz.call76 ⟨y76,trivial⟩
def x31:cg E:={S:=[P71,P72,P73,ZR,P75,P76],ls:=[{ks:=[0,1,2,9,10,11],rs:=[0,1,2],ins:=some [⟨[.ptr 0 [],.ptr 1 [],.ptr 2 [],.v (.slice .str),.iv,.iv],[.bx (.agg 5 [.agg 1 [.bm,.bm,.iv,.v .bool],.agg 4 [.bm,.bm,.iv]]),.bx (.v (.named 4)),.bx (.v (.named 1))],fun t9 a b c e f s d=>⟨(b,(N.bZ.mk (N.aT.mk [] [] c e) (N.aI.mk [] [] f)),d),N.xh t9 a s,fun v_=>([.ptr 0 [],.ptr 1 [],.ptr 2 [],.val (.slice .str) t9,.iv a,.iv v_.1],[.bx (.agg 5 [.agg 1 [.bm,.bm,.iv v_.2.1.D.im,.bv v_.2.1.D.Down],.agg 4 [.bm,.bm,.iv v_.2.1.S.aP]]),.bx (.nv 4 s),.bx (.nv 1 v_.2.2)]),fun x_=> .ret (.exit 0,[.ptr 0 [],.ptr 1 [],.ptr 2 []],[.bx (.agg 5 [.agg 1 [.bm,.bm,.iv x_.1.D.im,.bv x_.1.D.Down],.agg 4 [.bm,.bm,.iv x_.1.S.aP]]),.bx (.nv 4 s),.bx (.nv 1 x_.2)])⟩⟩]}],i:=cu [] [(.named 5)] (N.BA N.fuel)}
theorem y31:aJ Tryz.prog 31 x31.ins:=go Tryz.func31 rfl ⟨p71,p72,p73,p74,p75,p76,trivial⟩ trivial ⟨⟨fun _ _ _ _ _ _ _ _=>⟨rfl,fun _=>by show _=_;kernel_rfl⟩,trivial⟩,trivial⟩ (by show _=_;kernel_rfl)
def P31:SP:=(31,.pure [] (bj [x31.ins]))
theorem p31:OK P31:=aH Tryz.call31 ⟨y31,trivial⟩
def x30:cg E:={ls:=[{ks:=[2,4,5,13,14,15],rs:=[2,4,5],xM:=[.xM (.obj 2) [2] .i6],ins:=some [⟨[.ptr 0 [],.ptr 1 [],.ptr 2 [],.v (.slice (.named 3)),.iv,.iv],[.bx (.v (.named 5)),.bx (.agg 10 [.agg 5 [.agg 1 [.bm,.bm,.iv,.v .bool],.agg 4 [.bm,.bm,.iv]],.agg 8 [.bm,.bm],.bm,.bm,.iv,.iv,.iv,.v .bool,.iv]),.bx (.agg 10 [.v (.named 5),.agg 8 [.bm,.bm],.own 3,.bm,.iv,.iv,.iv,.v .bool,.iv]),.al .i6],fun a b c st d e f g h j k l m n o p q r s=>⟨(c,(N.aG.mk (N.bZ.mk (N.aT.mk [] [] d e) (N.aI.mk [] [] f)) (N.bR.mk [] []) [] [] g h j k l),(N.aG.mk m (N.bR.mk [] []) s [] n o p q r)),N.uk a b st,fun v_=>([.ptr 0 [],.ptr 1 [],.ptr 2 [],.val (.slice (.named 3)) a,.iv b,.iv v_.1],[.bx (.nv 5 st),.bx (g10 v_.2.1),.bx (Us v_.2.2 3),.al .i6 v_.2.2.Seen]),fun x_=> .ret (.exit 0,[.ptr 0 [],.ptr 1 [],.ptr 2 []],[.bx (.nv 5 st),.bx (g10 x_.1),.bx (Us x_.2 3),.al .i6 x_.2.Seen])⟩⟩]}],i:=cu [(.named 5),.i6] [(.named 10)] (N.xz N.fuel)}
theorem y30:aJ Tryz.prog 30 x30.ins:=go Tryz.func30 rfl trivial trivial ⟨⟨fun _ _ _ _ _ _ _ _ _ _ _ _ _ _ _ _ _ _ _=>⟨rfl,fun _=>by show _=_;kernel_rfl⟩,trivial⟩,trivial⟩ (fun _ _=>by show _=_;kernel_rfl)
def P30:SP:=(30,.pure [(.named 5),.i6] (bj [x30.ins]))
theorem p30:OK P30:=aH Tryz.call30 ⟨y30,trivial⟩
def x12:cg E:={S:=[P30,P31],i:=cu [.i6] [(.named 10)] (N.xB N.fuel)}
theorem y12:aJ Tryz.prog 12 x12.ins:=go Tryz.func12 rfl ⟨p30,p31,trivial⟩ trivial trivial (fun _=>by show _=_;kernel_rfl)
def P12:SP:=(12,.pure [.i6] (bj [x12.ins]))
theorem p12:OK P12:=aH Tryz.call12 ⟨y12,trivial⟩
def YK:cg E:={i:=⟨[.iv,.iv],[],fun n a=> .xa (N.xK n a) fun x_=> .ret (.ret [.bv x_],[])⟩}
theorem adD:aJ Tryz.prog 103 YK.ins:=go Tryz.func103 rfl trivial trivial trivial (fun _ _=>by show _=_;kernel_rfl)
def ab1:SP:=(103,.pure [.i6,.i6] (bj [YK.ins]))
theorem afl:OK ab1:=aH Tryz.call103 ⟨adD,trivial⟩
def YJ:cg E:={ls:=[{ks:=[0,3],rs:=[0,2],ins:=some [⟨[.v .str,.iv],[],fun s i=>⟨i,N.kP s,fun v_=>([.sv s,.iv v_],[]),fun x_=>ba x_ (fun a=> .ret (.ret,[.sv s,.bv false],[])) (fun b=> .ret (.exit 0,[.sv s,.undef],[]))⟩⟩]}],i:=cu [.str] [.bool] (N.rD N.fuel)}
theorem adC:aJ Tryz.prog 104 YJ.ins:=go Tryz.func104 rfl trivial trivial ⟨⟨fun _ _=>⟨rfl,fun _=>by show _=_;kernel_rfl⟩,trivial⟩,trivial⟩ (fun _=>by show _=_;kernel_rfl)
def ab0:SP:=(104,.pure [.str] (bj [YJ.ins]))
theorem afk:OK ab0:=aH Tryz.call104 ⟨adC,trivial⟩
def XV:cg E:={ls:=[{ks:=[0,1,5],rs:=[4],ins:=some [⟨[.v (.slice (.named 11)),.v (.slice (.named 11)),.iv],[],fun a b i=>⟨i,N.iw a b,fun v_=>([.val (.slice (.named 11)) a,.val (.slice (.named 11)) b,.iv v_],[]),fun x_=>ba x_ (fun c=> .ret (.ret,[.bv false],[])) (fun d=> .ret (.exit 0,[.undef],[]))⟩⟩]}],i:=cu [(.slice (.named 11)),(.slice (.named 11))] [.bool] (N.nw N.fuel)}
theorem acM:aJ Tryz.prog 184 XV.ins:=go Tryz.func184 rfl trivial trivial ⟨⟨fun _ _ _=>⟨rfl,fun _=>by show _=_;kernel_rfl⟩,trivial⟩,trivial⟩ (fun _ _=>by show _=_;kernel_rfl)
def aas:SP:=(184,.pure [(.slice (.named 11)),(.slice (.named 11))] (bj [XV.ins]))
theorem aeG:OK aas:=aH Tryz.call184 ⟨acM,trivial⟩
def YI:cg E:={S:=[aas],i:=cu [(.named 12),(.named 12)] [.bool] (N.qf N.fuel)}
theorem adB:aJ Tryz.prog 105 YI.ins:=go Tryz.func105 rfl ⟨aeG,trivial⟩ trivial trivial (fun _ _=>by show _=_;kernel_rfl)
def aaZ:SP:=(105,.pure [(.named 12),(.named 12)] (bj [YI.ins]))
theorem afj:OK aaZ:=aH Tryz.call105 ⟨adB,trivial⟩
def YH:cg E:={i:=⟨[.v (.named 11)],[],fun w=> .xa (N.pY w) fun x_=> .ret (.ret [.bv x_],[])⟩}
theorem adA:aJ Tryz.prog 106 YH.ins:=go Tryz.func106 rfl trivial trivial trivial (fun _=>by show _=_;kernel_rfl)
def aaY:SP:=(106,.pure [(.named 11)] (bj [YH.ins]))
theorem afi:OK aaY:=aH Tryz.call106 ⟨adA,trivial⟩
def x41:cg E:={S:=[ab1,ab0,aaZ,aaY],ls:=[{ks:=[1,3,4,5],rs:=[1,2,3,4],ins:=some [⟨[.ptr 0 [],.ptr 1 [],.v .bool,.iv],[.bx (.v (.named 12)),.bx (.v (.named 12))],fun ok i a x=>⟨(ok,i),N.kS a x,fun v_=>([.ptr 0 [],.ptr 1 [],.bv v_.1,.iv v_.2],[.bx (.nv 12 a),.bx (.nv 12 x)]),fun x_=> .ret (.exit 1,[.ptr 0 [],.undef,.ptr 1 [],.bv x_],[.bx (.nv 12 a),.bx (.nv 12 x)])⟩⟩]}],i:=cu [(.named 12)] [.bool] (N.rK N.fuel)}
theorem y41:aJ Tryz.prog 41 x41.ins:=go Tryz.func41 rfl ⟨afl,afk,afj,afi,trivial⟩ trivial ⟨⟨fun _ _ _ _=>⟨rfl,fun _=>by show _=_;kernel_rfl⟩,trivial⟩,trivial⟩ (fun _=>by show _=_;kernel_rfl)
def P41:SP:=(41,.pure [(.named 12)] (bj [x41.ins]))
theorem p41:OK P41:=aH Tryz.call41 ⟨y41,trivial⟩
def x67:cg E:={ls:=[{ks:=[1,7,8],rs:=[6,7],ins:=some [⟨[.iv,.own 0,.iv],[.al (.int .u8)],fun v i a=>⟨(i,a),N.BT v,fun v_=>([.iv v,.own 0,.iv v_.1],[.al (.int .u8) v_.2]),fun x_=> .ret (.exit 0,[.undef,.own 0],[.al (.int .u8) x_])⟩⟩]}],i:=cu [(.slice (.int .u8)),.i6,.i6] [(.slice (.int .u8))] (N.An N.fuel)}
theorem y67:aJ Tryz.prog 67 x67.ins:=go Tryz.func67 rfl trivial trivial ⟨⟨fun _ _ _=>⟨rfl,fun _=>by show _=_;kernel_rfl⟩,trivial⟩,trivial⟩ (fun _ _ _=>by show _=_;kernel_rfl)
def P67:SP:=(67,.pure [(.slice (.int .u8)),.i6,.i6] (bj [x67.ins]))
theorem p67:OK P67:=aH Tryz.call67 ⟨y67,trivial⟩
def x68:cg E:={i:=cu [(.slice (.int .u8)),.str] [(.slice (.int .u8))] N.xF}
theorem y68:aJ Tryz.prog 68 x68.ins:=go Tryz.func68 rfl trivial trivial trivial (fun _ _=>by show _=_;kernel_rfl)
def P68:SP:=(68,.pure [(.slice (.int .u8)),.str] (bj [x68.ins]))
theorem p68:OK P68:=aH Tryz.call68 ⟨y68,trivial⟩
def Yj:cg E:={ls:=[{ks:=[0,3,4],rs:=[2,3],ins:=some [⟨[.v (.slice (.int .u8)),.iv,.iv],[],fun b c i=>⟨(c,i),N.qH N.fuel b,fun v_=>([.val (.slice (.int .u8)) b,.iv v_.1,.iv v_.2],[]),fun x_=> .ret (.exit 0,[.undef,.iv x_],[])⟩⟩]},{ks:=[0,3,4,5],rs:=[0,2,3,4],ins:=some [⟨[.v (.slice (.int .u8)),.iv,.iv,.iv],[],fun b c i k=>⟨(c,k),N.vn b i,fun v_=>([.val (.slice (.int .u8)) b,.iv v_.1,.iv i,.iv v_.2],[]),fun x_=> .ret (.exit 2,[.val (.slice (.int .u8)) b,.undef,.iv x_,.iv i],[])⟩⟩]}],i:=cu [(.slice (.int .u8))] [(.int .u16)] (N.Ao N.fuel)}
theorem ada:aJ Tryz.prog 156 Yj.ins:=go Tryz.func156 rfl trivial trivial ⟨⟨fun _ _ _=>⟨rfl,fun _=>by show _=_;kernel_rfl⟩,trivial⟩,⟨⟨fun _ _ _ _=>⟨rfl,fun _=>by show _=_;kernel_rfl⟩,trivial⟩,trivial⟩⟩ (fun _=>by show _=_;kernel_rfl)
def aaI:SP:=(156,.pure [(.slice (.int .u8))] (bj [Yj.ins]))
theorem aeY:OK aaI:=aH Tryz.call156 ⟨ada,trivial⟩
def x69:cg E:={S:=[aaI,P67],i:=cu [(.slice (.int .u8))] [(.slice (.int .u8))] (N.rF N.fuel)}
theorem y69:aJ Tryz.prog 69 x69.ins:=go Tryz.func69 rfl ⟨aeY,p67,trivial⟩ trivial trivial (fun _=>by show _=_;kernel_rfl)
def P69:SP:=(69,.pure [(.slice (.int .u8))] (bj [x69.ins]))
theorem p69:OK P69:=aH Tryz.call69 ⟨y69,trivial⟩
def x27:cg E:={S:=[P41,P67,P68,P69],ls:=[{ks:=[1,3,4],rs:=[2,3],ins:=some [⟨[.ptr 0 [],.v (.slice (.int .u8)),.iv],[.bx (.v (.named 12))],fun b i a=>⟨(b,i),N.kR N.fuel a,fun v_=>([.ptr 0 [],.val (.slice (.int .u8)) v_.1,.iv v_.2],[.bx (.nv 12 a)]),fun x_=> .ret (.exit 0,[.undef,.val (.slice (.int .u8)) x_],[.bx (.nv 12 a)])⟩⟩]}],i:=cu [(.named 12)] [(.slice (.int .u8))] (N.rJ N.fuel)}
theorem y27:aJ Tryz.prog 27 x27.ins:=go Tryz.func27 rfl ⟨p41,p67,p68,p69,trivial⟩ trivial ⟨⟨fun _ _ _=>⟨rfl,fun _=>by show _=_;kernel_rfl⟩,trivial⟩,trivial⟩ (fun _=>by show _=_;kernel_rfl)
def P27:SP:=(27,.pure [(.named 12)] (bj [x27.ins]))
theorem p27:OK P27:=aH Tryz.call27 ⟨y27,trivial⟩
noncomputable def B82:List (az E.T)→St E.T→Tree (iT E.T×St E.T):=sn E (.named 2)
def ZO:SP:=(82,.full [.data (.slice (.named 2))] false B82)
theorem afz: ∃R0 C R id o1 o2,Tryz.f82.body=some (.seq R0 (.seq (.seq (.region id #[o1,o2] false) C) R))∧(o1.op= .move (.tmp 0)∧o1.dst=some 3∧o1.guard=none)∧(o2.op= .binOp .eql 28 (.tmp 3) (.const (.slice none 0 0)) 28∧o2.dst=some 4∧o2.guard=none)∧
  ik E Tryz.f82 (.named 2) R0 C R (fun xs=>put E (frame E Tryz.f82 [.val (.slice (.named 2)) xs]) (some 2) .bm) (fun xs=>put E (put E (put E (put E (frame E Tryz.f82 [.val (.slice (.named 2)) xs]) (some 2) .bm) (some 3) (.val (.slice (.named 2)) xs)) (some 4) (.val .bool true)) (some 2) .bm) (fun xs n=>put E (put E (put E (put E (put E (put E (put E (frame E Tryz.f82 [.val (.slice (.named 2)) xs]) (some 2) .bm) (some 3) (.val (.slice (.named 2)) xs)) (some 4) (.val .bool false)) (some 5) .bm) (some 6) (.val (.slice (.named 2)) xs)) (some 7) (.own n)) (some 2) (.own n)):=
 ⟨_,_,_,_,_,_,rfl,⟨rfl,rfl,rfl⟩,⟨rfl,rfl,rfl⟩,by
  constructor
  all_goals intros
  all_goals kernel_rfl⟩
theorem p82:OK ZO:=by
 obtain⟨R0,C,R,id,o1,o2,hb,h1,h2,hF⟩:=afz
 exact⟨Tryz.call82,nY sound mix Tryz.func82 hb h1 h2 ⟨_,Tryz.underlying28⟩ hF⟩
noncomputable def B83:List (az E.T)→St E.T→Tree (iT E.T×St E.T):=sn E (.named 3)
def V8:SP:=(83,.full [.data (.slice (.named 3))] false B83)
theorem afy: ∃R0 C R id o1 o2,Tryz.f83.body=some (.seq R0 (.seq (.seq (.region id #[o1,o2] false) C) R))∧(o1.op= .move (.tmp 0)∧o1.dst=some 3∧o1.guard=none)∧(o2.op= .binOp .eql 29 (.tmp 3) (.const (.slice none 0 0)) 29∧o2.dst=some 4∧o2.guard=none)∧
  ik E Tryz.f83 (.named 3) R0 C R (fun xs=>put E (frame E Tryz.f83 [.val (.slice (.named 3)) xs]) (some 2) .bm) (fun xs=>put E (put E (put E (put E (frame E Tryz.f83 [.val (.slice (.named 3)) xs]) (some 2) .bm) (some 3) (.val (.slice (.named 3)) xs)) (some 4) (.val .bool true)) (some 2) .bm) (fun xs n=>put E (put E (put E (put E (put E (put E (put E (frame E Tryz.f83 [.val (.slice (.named 3)) xs]) (some 2) .bm) (some 3) (.val (.slice (.named 3)) xs)) (some 4) (.val .bool false)) (some 5) .bm) (some 6) (.val (.slice (.named 3)) xs)) (some 7) (.own n)) (some 2) (.own n)):=
 ⟨_,_,_,_,_,_,rfl,⟨rfl,rfl,rfl⟩,⟨rfl,rfl,rfl⟩,by
  constructor
  all_goals intros
  all_goals kernel_rfl⟩
theorem YX:OK V8:=by
 obtain⟨R0,C,R,id,o1,o2,hb,h1,h2,hF⟩:=afy
 exact⟨Tryz.call83,nY sound mix Tryz.func83 hb h1 h2 ⟨_,Tryz.underlying29⟩ hF⟩
noncomputable def B84:List (az E.T)→St E.T→Tree (iT E.T×St E.T):=sn E (.named 6)
def ZN:SP:=(84,.full [.data (.slice (.named 6))] false B84)
theorem afx: ∃R0 C R id o1 o2,Tryz.f84.body=some (.seq R0 (.seq (.seq (.region id #[o1,o2] false) C) R))∧(o1.op= .move (.tmp 0)∧o1.dst=some 3∧o1.guard=none)∧(o2.op= .binOp .eql 34 (.tmp 3) (.const (.slice none 0 0)) 34∧o2.dst=some 4∧o2.guard=none)∧
  ik E Tryz.f84 (.named 6) R0 C R (fun xs=>put E (frame E Tryz.f84 [.val (.slice (.named 6)) xs]) (some 2) .bm) (fun xs=>put E (put E (put E (put E (frame E Tryz.f84 [.val (.slice (.named 6)) xs]) (some 2) .bm) (some 3) (.val (.slice (.named 6)) xs)) (some 4) (.val .bool true)) (some 2) .bm) (fun xs n=>put E (put E (put E (put E (put E (put E (put E (frame E Tryz.f84 [.val (.slice (.named 6)) xs]) (some 2) .bm) (some 3) (.val (.slice (.named 6)) xs)) (some 4) (.val .bool false)) (some 5) .bm) (some 6) (.val (.slice (.named 6)) xs)) (some 7) (.own n)) (some 2) (.own n)):=
 ⟨_,_,_,_,_,_,rfl,⟨rfl,rfl,rfl⟩,⟨rfl,rfl,rfl⟩,by
  constructor
  all_goals intros
  all_goals kernel_rfl⟩
theorem p84:OK ZN:=by
 obtain⟨R0,C,R,id,o1,o2,hb,h1,h2,hF⟩:=afx
 exact⟨Tryz.call84,nY sound mix Tryz.func84 hb h1 h2 ⟨_,Tryz.underlying34⟩ hF⟩
noncomputable def B85:List (az E.T)→St E.T→Tree (iT E.T×St E.T):=sn E (.named 7)
def Vs:SP:=(85,.full [.data (.slice (.named 7))] false B85)
theorem afw: ∃R0 C R id o1 o2,Tryz.f85.body=some (.seq R0 (.seq (.seq (.region id #[o1,o2] false) C) R))∧(o1.op= .move (.tmp 0)∧o1.dst=some 3∧o1.guard=none)∧(o2.op= .binOp .eql 35 (.tmp 3) (.const (.slice none 0 0)) 35∧o2.dst=some 4∧o2.guard=none)∧
  ik E Tryz.f85 (.named 7) R0 C R (fun xs=>put E (frame E Tryz.f85 [.val (.slice (.named 7)) xs]) (some 2) .bm) (fun xs=>put E (put E (put E (put E (frame E Tryz.f85 [.val (.slice (.named 7)) xs]) (some 2) .bm) (some 3) (.val (.slice (.named 7)) xs)) (some 4) (.val .bool true)) (some 2) .bm) (fun xs n=>put E (put E (put E (put E (put E (put E (put E (frame E Tryz.f85 [.val (.slice (.named 7)) xs]) (some 2) .bm) (some 3) (.val (.slice (.named 7)) xs)) (some 4) (.val .bool false)) (some 5) .bm) (some 6) (.val (.slice (.named 7)) xs)) (some 7) (.own n)) (some 2) (.own n)):=
 ⟨_,_,_,_,_,_,rfl,⟨rfl,rfl,rfl⟩,⟨rfl,rfl,rfl⟩,by
  constructor
  all_goals intros
  all_goals kernel_rfl⟩
theorem V6:OK Vs:=by
 obtain⟨R0,C,R,id,o1,o2,hb,h1,h2,hF⟩:=afw
 exact⟨Tryz.call85,nY sound mix Tryz.func85 hb h1 h2 ⟨_,Tryz.underlying35⟩ hF⟩
noncomputable def B86:List (az E.T)→St E.T→Tree (iT E.T×St E.T):=sn E (.int .i64)
def P86:SP:=(86,.full [.data (.slice .i6)] false B86)
theorem afv: ∃R0 C R id o1 o2,Tryz.f86.body=some (.seq R0 (.seq (.seq (.region id #[o1,o2] false) C) R))∧(o1.op= .move (.tmp 0)∧o1.dst=some 3∧o1.guard=none)∧(o2.op= .binOp .eql 38 (.tmp 3) (.const (.slice none 0 0)) 38∧o2.dst=some 4∧o2.guard=none)∧
  ik E Tryz.f86 (.int .i64) R0 C R (fun xs=>put E (frame E Tryz.f86 [.val (.slice (.int .i64)) xs]) (some 2) .bm) (fun xs=>put E (put E (put E (put E (frame E Tryz.f86 [.val (.slice (.int .i64)) xs]) (some 2) .bm) (some 3) (.val (.slice (.int .i64)) xs)) (some 4) (.val .bool true)) (some 2) .bm) (fun xs n=>put E (put E (put E (put E (put E (put E (put E (frame E Tryz.f86 [.val (.slice (.int .i64)) xs]) (some 2) .bm) (some 3) (.val (.slice (.int .i64)) xs)) (some 4) (.val .bool false)) (some 5) .bm) (some 6) (.val (.slice (.int .i64)) xs)) (some 7) (.own n)) (some 2) (.own n)):=
 ⟨_,_,_,_,_,_,rfl,⟨rfl,rfl,rfl⟩,⟨rfl,rfl,rfl⟩,by
  constructor
  all_goals intros
  all_goals kernel_rfl⟩
theorem p86:OK P86:=by
 obtain⟨R0,C,R,id,o1,o2,hb,h1,h2,hF⟩:=afv
 exact⟨Tryz.call86,nY sound mix Tryz.func86 hb h1 h2 ⟨_,Tryz.underlying38⟩ hF⟩
noncomputable def B87:List (az E.T)→St E.T→Tree (iT E.T×St E.T):=sn E (.named 9)
def P87:SP:=(87,.full [.data (.slice (.named 9))] false B87)
theorem afu: ∃R0 C R id o1 o2,Tryz.f87.body=some (.seq R0 (.seq (.seq (.region id #[o1,o2] false) C) R))∧(o1.op= .move (.tmp 0)∧o1.dst=some 3∧o1.guard=none)∧(o2.op= .binOp .eql 39 (.tmp 3) (.const (.slice none 0 0)) 39∧o2.dst=some 4∧o2.guard=none)∧
  ik E Tryz.f87 (.named 9) R0 C R (fun xs=>put E (frame E Tryz.f87 [.val (.slice (.named 9)) xs]) (some 2) .bm) (fun xs=>put E (put E (put E (put E (frame E Tryz.f87 [.val (.slice (.named 9)) xs]) (some 2) .bm) (some 3) (.val (.slice (.named 9)) xs)) (some 4) (.val .bool true)) (some 2) .bm) (fun xs n=>put E (put E (put E (put E (put E (put E (put E (frame E Tryz.f87 [.val (.slice (.named 9)) xs]) (some 2) .bm) (some 3) (.val (.slice (.named 9)) xs)) (some 4) (.val .bool false)) (some 5) .bm) (some 6) (.val (.slice (.named 9)) xs)) (some 7) (.own n)) (some 2) (.own n)):=
 ⟨_,_,_,_,_,_,rfl,⟨rfl,rfl,rfl⟩,⟨rfl,rfl,rfl⟩,by
  constructor
  all_goals intros
  all_goals kernel_rfl⟩
theorem p87:OK P87:=by
 obtain⟨R0,C,R,id,o1,o2,hb,h1,h2,hF⟩:=afu
 exact⟨Tryz.call87,nY sound mix Tryz.func87 hb h1 h2 ⟨_,Tryz.underlying39⟩ hF⟩
def x34:cg E:={S:=[ZQ,ZP,ZO,V8,ZN,Vs,P86,P87],aM:=true,i:=⟨[.v (.named 10)],[],fun s=> .xa (.ret (N.gA s)) fun x_=> .ret (.ret [.ptr 9 []],[.dead,.al .str x_.Server.aB.D.bz,.al (.named 0) x_.Server.aB.D.bM,.al (.named 2) x_.Server.aB.S.aQ,.al (.named 3) x_.Server.aB.S.Marks,.al (.named 6) x_.Server.aY.bD,.al (.named 7) x_.Server.aY.cW,.al .i6 x_.Server.Seen,.al (.named 9) x_.Server.Told,.bx (RA x_ 1 2 3 4 5 6 7 8)])⟩}
theorem y34:aJ Tryz.prog 34 x34.ins:=l4 Tryz.func34 rfl ⟨p80,p81,p82,YX,p84,V6,p86,p87,trivial⟩ trivial trivial (fun _=>by show _=_;kernel_rfl)
def P34:SP:=(34,.full [.data (.named 10)] false (cC [x34.ins]))
theorem p34:OK P34:=bn ok Tryz.call34 ⟨y34,trivial⟩
def WW:cg E:={i:=⟨[.v (.slice (.int .u8)),.iv],[],fun b n=> .opt (N.wH b n) fun x_=>ba x_ (fun a=> .ret (.ret [.val (.slice (.int .u8)) a],[])) (fun c=> .ret (.panic (.fD 332 (.nv 16 N.fa.mk)),[]))⟩}
theorem abO:aJ Tryz.prog 285 WW.ins:=go Tryz.func285 rfl trivial trivial trivial (fun _ _=>by show _=_;kernel_rfl)
def Vy:SP:=(285,.pure [(.slice (.int .u8)),.i6] (bj [WW.ins]))
theorem Y2:OK Vy:=aH Tryz.call285 ⟨abO,trivial⟩
noncomputable def V2:l8 E:=ql E (jY []) (GF E 18 [] []) 0 Tryz.f284
theorem Y3:iC Tryz.prog E 284 V2:=k6 sound mix (S:=[]) trivial (L:=GF E 18 [] []) (fun _=>rfl) Tryz.call284 Tryz.func284 rfl
def Xz:cg E:={S:=[Vy],D:=[(284,V2)],ls:=[{ks:=[4,5,16,17,18],rs:=[4,5],d:=[(284,[.ptr 0 []])],ins:=some [⟨[.iv,.ptr 0 [],.v (.slice (.int .u8)),.iv,.iv],[.bx (.v .bool)],fun v a b c ok=>⟨(v,c),N.pr a b ok,fun v_=>([.iv v_.1,.ptr 0 [],.val (.slice (.int .u8)) a,.iv b,.iv v_.2],[.bx (.bv ok)]),fun x_=> .ret (.exit 0,[.iv x_,.ptr 0 []],[.bx (.bv ok)])⟩⟩]}],i:=cu [(.slice (.int .u8)),.i6] [.i6,.bool] (N.yM N.fuel)}
theorem acp:aJ Tryz.prog 238 Xz.ins:=go Tryz.func238 rfl ⟨Y2,trivial⟩ ⟨Y3,trivial⟩ ⟨⟨fun _ _ _ _ _=>⟨rfl,fun _=>by show _=_;kernel_rfl⟩,trivial⟩,trivial⟩ (fun _ _=>by show _=_;kernel_rfl)
def TC:SP:=(238,.pure [(.slice (.int .u8)),.i6] (bj [Xz.ins]))
theorem UX:OK TC:=aH Tryz.call238 ⟨acp,trivial⟩
def Ya:cg E:={S:=[TC],i:=⟨[.ptr 0 [],.iv],[.bx (.v (.named 18))],fun n r=> .opt (N.oN N.fuel n r) fun x_=>ba x_ (fun a=> .ret (.ret [.iv a.1],[.bx (.nv 18 a.2)])) (fun b=> .ret (.panic (.fD 207 (.nv 16 N.fa.mk)),[.bx (.nv 18 r)]))⟩}
theorem ad1:aJ Tryz.prog 169 Ya.ins:=l4 Tryz.func169 rfl ⟨UX,trivial⟩ trivial trivial (fun _ _=>by show _=_;kernel_rfl)
def aaC:SP:=(169,.full [.ptr,.data .i6] false (cC [Ya.ins]))
theorem aeQ:OK aaC:=bn ok Tryz.call169 ⟨ad1,trivial⟩
def Xy:cg E:={S:=[Vy],D:=[(284,V2)],i:=cu [(.slice (.int .u8))] [.str,.i6,.bool] N.qn}
theorem aco:aJ Tryz.prog 239 Xy.ins:=go Tryz.func239 rfl ⟨Y2,trivial⟩ ⟨Y3,trivial⟩ trivial (fun _=>by show _=_;kernel_rfl)
def VH:SP:=(239,.pure [(.slice (.int .u8))] (bj [Xy.ins]))
theorem Zc:OK VH:=aH Tryz.call239 ⟨aco,trivial⟩
def X9:cg E:={S:=[VH],i:=⟨[.ptr 0 []],[.bx (.v (.named 18))],fun r=> .opt (N.nI r) fun x_=>ba x_ (fun a=> .ret (.ret [.sv a.1],[.bx (.nv 18 a.2)])) (fun b=> .ret (.panic (.fD 207 (.nv 16 N.fa.mk)),[.bx (.nv 18 r)]))⟩}
theorem ad0:aJ Tryz.prog 170 X9.ins:=l4 Tryz.func170 rfl ⟨Zc,trivial⟩ trivial trivial (fun _=>by show _=_;kernel_rfl)
def aaB:SP:=(170,.full [.ptr] false (cC [X9.ins]))
theorem aeP:OK aaB:=bn ok Tryz.call170 ⟨ad0,trivial⟩
def x89:cg E:={S:=[aaC,aaB],ls:=[{ks:=[0,2,3],rs:=[2],xM:=[.xM (.obj 1) [7] (.named 11)],ins:=some [⟨[.ptr 0 [],.ptr 1 [],.iv],[.bx (.v (.named 18)),.bx (.agg 12 [.iv,.iv,.iv,.iv,.v .str,.iv,.iv,.own 2]),.al (.named 11)],fun n r a b c d e f g h=>⟨(n,r,(N.bf.mk a b c d e f g h)),N.je N.fuel,fun v_=>([.ptr 0 [],.ptr 1 [],.iv v_.1],[.bx (.nv 18 v_.2.1),.bx (g12 v_.2.2 2),.al (.named 11) v_.2.2.aN]),fun x_=>ba x_ (fun j=> .ret (.panic (.fD 207 (.nv 16 N.fa.mk)),[.ptr 1 []],[.bx (.nv 18 j.1),.bx (g12 j.2 2),.al (.named 11) j.2.aN])) (fun k=>ba k (fun l=> .ret (.panic (.fD 207 (.nv 16 N.fa.mk)),[.ptr 1 []],[.bx (.nv 18 l.1),.bx (g12 l.2.1 2),.al (.named 11) l.2.1.aN,.bx (.agg 11 [.iv l.2.2.og,.sv l.2.2.B])])) (fun m=> .ret (.exit 0,[.ptr 1 []],[.bx (.nv 18 m.1),.bx (g12 m.2 2),.al (.named 11) m.2.aN])))⟩⟩]}],i:=⟨[.ptr 0 []],[.bx (.v (.named 18))],fun r=> .opt (N.oO N.fuel r) fun x_=>ba x_ (fun j=> .ret (.ret [.nv 12 j.1],[.bx (.nv 18 j.2)])) (fun k=> .ret (.panic (.fD 207 (.nv 16 N.fa.mk)),[.bx (.nv 18 k)]))⟩}
theorem y89:aJ Tryz.prog 89 x89.ins:=l4 Tryz.func89 rfl ⟨aeQ,aeP,trivial⟩ trivial ⟨⟨fun _ _ _ _ _ _ _ _ _ _=>⟨rfl,fun _=>by show _=_;kernel_rfl⟩,trivial⟩,trivial⟩ (fun _=>by show _=_;kernel_rfl)
def P89:SP:=(89,.full [.ptr] false (cC [x89.ins]))
theorem p89:OK P89:=bn ok Tryz.call89 ⟨y89,trivial⟩
def Xx:cg E:={i:=⟨[.iv,.iv,.iv],[],fun lo hi v=> .xa (N.Ay lo hi v) fun x_=> .ret (.ret [.bv x_],[])⟩}
theorem acn:aJ Tryz.prog 240 Xx.ins:=go Tryz.func240 rfl trivial trivial trivial (fun _ _ _=>by show _=_;kernel_rfl)
def VG:SP:=(240,.pure [.i6,.i6,.i6] (bj [Xx.ins]))
theorem Zb:OK VG:=aH Tryz.call240 ⟨acn,trivial⟩
def Xj:cg E:={i:=⟨[.v (.named 11)],[],fun w=> .xa (N.v7 w) fun x_=> .ret (.ret [.bv x_],[])⟩}
theorem ac7:aJ Tryz.prog 254 Xj.ins:=go Tryz.func254 rfl trivial trivial trivial (fun _=>by show _=_;kernel_rfl)
def TA:SP:=(254,.pure [(.named 11)] (bj [Xj.ins]))
theorem UU:OK TA:=aH Tryz.call254 ⟨ac7,trivial⟩
def WV:cg E:={S:=[TA],i:=⟨[.v (.named 11)],[],fun w=> .xa (.ret (N.vv w)) fun x_=> .ret (.ret [.bv x_],[])⟩}
theorem abN:aJ Tryz.prog 286 WV.ins:=go Tryz.func286 rfl ⟨UU,trivial⟩ trivial trivial (fun _=>by show _=_;kernel_rfl)
def Z0:SP:=(286,.pure [(.named 11)] (bj [WV.ins]))
theorem ae0:OK Z0:=aH Tryz.call286 ⟨abN,trivial⟩
def Xk:cg E:={S:=[TA],i:=⟨[.v (.named 11)],[],fun w=> .xa (.ret (N.fp w)) fun x_=> .ret (.ret [.bv x_],[])⟩}
theorem ac8:aJ Tryz.prog 253 Xk.ins:=go Tryz.func253 rfl ⟨UU,trivial⟩ trivial trivial (fun _=>by show _=_;kernel_rfl)
def aa3:SP:=(253,.pure [(.named 11)] (bj [Xk.ins]))
theorem aef:OK aa3:=aH Tryz.call253 ⟨ac8,trivial⟩
def WQ:cg E:={S:=[Z0],ls:=[{ks:=[0,1,7,8],rs:=[4],ins:=some [⟨[.v (.slice (.named 11)),.fn 286 [],.iv,.iv],[],fun s t7 t8=>⟨t8,N.eK s t7,fun v_=>([.val (.slice (.named 11)) s,.fn 286 [],.iv t7,.iv v_],[]),fun x_=>ba x_ (fun a=> .ret (.ret,[.iv a],[])) (fun b=> .ret (.exit 0,[.undef],[]))⟩⟩]}],i:=⟨[.v (.slice (.named 11)),.fn 286 []],[],fun s=> .opt (N.gW N.fuel s) fun x_=> .ret (.ret [.iv x_],[])⟩}
theorem abI:aJ Tryz.prog 292 WQ.ins:=go Tryz.func292 rfl ⟨ae0,trivial⟩ trivial ⟨⟨fun _ _ _=>⟨rfl,fun _=>by show _=_;kernel_rfl⟩,trivial⟩,trivial⟩ (fun _=>by show _=_;kernel_rfl)
def TY:cg E:={S:=[aa3],ls:=[{ks:=[0,1,7,8],rs:=[4],ins:=some [⟨[.v (.slice (.named 11)),.fn 253 [],.iv,.iv],[],fun s t7 t8=>⟨t8,N.jq s t7,fun v_=>([.val (.slice (.named 11)) s,.fn 253 [],.iv t7,.iv v_],[]),fun x_=>ba x_ (fun a=> .ret (.ret,[.iv a],[])) (fun b=> .ret (.exit 0,[.undef],[]))⟩⟩]}],i:=⟨[.v (.slice (.named 11)),.fn 253 []],[],fun s=> .opt (N.fT N.fuel s) fun x_=> .ret (.ret [.iv x_],[])⟩}
theorem Wc:aJ Tryz.prog 292 TY.ins:=go Tryz.func292 rfl ⟨aef,trivial⟩ trivial ⟨⟨fun _ _ _=>⟨rfl,fun _=>by show _=_;kernel_rfl⟩,trivial⟩,trivial⟩ (fun _=>by show _=_;kernel_rfl)
def Vv:SP:=(292,.full [.data (.slice (.named 11)),.func] true (cC [WQ.ins,TY.ins]))
theorem Y0:OK Vv:=bn ok Tryz.call292 ⟨abI,Wc,trivial⟩
def Xl:cg E:={S:=[Vv],i:=⟨[.v (.slice (.named 11)),.fn 286 []],[],fun s=> .opt (N.fJ N.fuel s) fun x_=> .ret (.ret [.bv x_],[])⟩}
theorem ac9:aJ Tryz.prog 252 Xl.ins:=go Tryz.func252 rfl ⟨Y0,trivial⟩ trivial trivial (fun _=>by show _=_;kernel_rfl)
def T2:cg E:={S:=[Vv],i:=⟨[.v (.slice (.named 11)),.fn 253 []],[],fun s=> .opt (N.fk N.fuel s) fun x_=> .ret (.ret [.bv x_],[])⟩}
theorem Wh:aJ Tryz.prog 252 T2.ins:=go Tryz.func252 rfl ⟨Y0,trivial⟩ trivial trivial (fun _=>by show _=_;kernel_rfl)
def VE:SP:=(252,.full [.data (.slice (.named 11)),.func] true (cC [Xl.ins,T2.ins]))
theorem Y9:OK VE:=bn ok Tryz.call252 ⟨ac9,Wh,trivial⟩
def Xw:cg E:={S:=[VG,Sd,VE],i:=cu [(.named 12)] [(.named 12),.bool] (N.xS N.fuel)}
theorem acm:aJ Tryz.prog 241 Xw.ins:=go Tryz.func241 rfl ⟨Zb,SL,Y9,trivial⟩ trivial trivial (fun _=>by show _=_;kernel_rfl)
def aab:SP:=(241,.pure [(.named 12)] (bj [Xw.ins]))
theorem aen:OK aab:=aH Tryz.call241 ⟨acm,trivial⟩
def WU:cg E:={ls:=[{ks:=[0,1,12,13],rs:=[4],ins:=some [⟨[.v (.slice (.named 11)),.v (.slice (.named 11)),.iv,.iv],[],fun s1 s2 a b=>⟨b,N.fH s1 s2 a,fun v_=>([.val (.slice (.named 11)) s1,.val (.slice (.named 11)) s2,.iv a,.iv v_],[]),fun x_=>ba x_ (fun c=> .ret (.ret,[.bv false],[])) (fun d=> .ret (.exit 0,[.undef],[]))⟩⟩]}],i:=cu [(.slice (.named 11)),(.slice (.named 11))] [.bool] (N.kh N.fuel)}
theorem abM:aJ Tryz.prog 287 WU.ins:=go Tryz.func287 rfl trivial trivial ⟨⟨fun _ _ _ _=>⟨rfl,fun _=>by show _=_;kernel_rfl⟩,trivial⟩,trivial⟩ (fun _ _=>by show _=_;kernel_rfl)
def ZZ:SP:=(287,.pure [(.slice (.named 11)),(.slice (.named 11))] (bj [WU.ins]))
theorem adZ:OK ZZ:=aH Tryz.call287 ⟨abM,trivial⟩
def Xv:cg E:={S:=[ZZ],i:=cu [(.named 12),(.named 12)] [.bool] (N.tC N.fuel)}
theorem ack:aJ Tryz.prog 242 Xv.ins:=go Tryz.func242 rfl ⟨adZ,trivial⟩ trivial trivial (fun _ _=>by show _=_;kernel_rfl)
def aaa:SP:=(242,.pure [(.named 12),(.named 12)] (bj [Xv.ins]))
theorem aem:OK aaa:=aH Tryz.call242 ⟨ack,trivial⟩
def X8:cg E:={S:=[VG,aab,aaa],i:=cu [(.named 12)] [.bool] (N.vA N.fuel)}
theorem acZ:aJ Tryz.prog 171 X8.ins:=go Tryz.func171 rfl ⟨Zb,aen,aem,trivial⟩ trivial trivial (fun _=>by show _=_;kernel_rfl)
def aaA:SP:=(171,.pure [(.named 12)] (bj [X8.ins]))
theorem aeO:OK aaA:=aH Tryz.call171 ⟨acZ,trivial⟩
def Yg:cg E:={S:=[Se],ls:=[{ks:=[0,1,2],rs:=[0,6],ins:=some [⟨[.own 0,.iv,.iv],[.al (.int .u8)],fun v n b=>⟨(n,b),N.n9 v,fun v_=>([.own 0,.iv v,.iv v_.1],[.al (.int .u8) v_.2]),fun x_=> .ret (.exit 0,[.own 0,.undef],[.al (.int .u8) x_])⟩⟩]}],i:=cu [(.slice (.int .u8)),.i6,.i6] [(.slice (.int .u8))] (N.ss N.fuel)}
theorem ad7:aJ Tryz.prog 161 Yg.ins:=go Tryz.func161 rfl ⟨SM,trivial⟩ trivial ⟨⟨fun _ _ _=>⟨rfl,fun _=>by show _=_;kernel_rfl⟩,trivial⟩,trivial⟩ (fun _ _ _=>by show _=_;kernel_rfl)
def VR:SP:=(161,.pure [(.slice (.int .u8)),.i6,.i6] (bj [Yg.ins]))
theorem Zq:OK VR:=aH Tryz.call161 ⟨ad7,trivial⟩
def X7:cg E:={S:=[Se],i:=cu [(.slice (.int .u8)),.str] [(.slice (.int .u8))] N.ta}
theorem acY:aJ Tryz.prog 172 X7.ins:=go Tryz.func172 rfl ⟨SM,trivial⟩ trivial trivial (fun _ _=>by show _=_;kernel_rfl)
def aaz:SP:=(172,.pure [(.slice (.int .u8)),.str] (bj [X7.ins]))
theorem aeN:OK aaz:=aH Tryz.call172 ⟨acY,trivial⟩
def Xu:cg E:={ls:=[{ks:=[2,6,7,8],rs:=[2],ins:=some [⟨[.v (.int .u16),.v (.slice (.int .u8)),.iv,.iv],[],fun c t6 t7 t8=>⟨(c,t8),N.s9 N.fuel t6 t7,fun v_=>([.val (.int .u16) v_.1,.val (.slice (.int .u8)) t6,.iv t7,.iv v_.2],[]),fun x_=> .ret (.exit 0,[.val (.int .u16) x_],[])⟩⟩]},{ks:=[2,6,7,8,16],rs:=[2,6,7,8],ins:=some [⟨[.v (.int .u16),.v (.slice (.int .u8)),.iv,.iv,.iv],[],fun c t6 t7 t8 a=>⟨(c,a),N.yG t6 t7 t8,fun v_=>([.val (.int .u16) v_.1,.val (.slice (.int .u8)) t6,.iv t7,.iv t8,.iv v_.2],[]),fun x_=> .ret (.exit 2,[.val (.int .u16) x_,.val (.slice (.int .u8)) t6,.iv t7,.iv t8],[])⟩⟩]}],i:=cu [(.slice (.int .u8))] [(.int .u16)] (N.Dz N.fuel)}
theorem acj:aJ Tryz.prog 243 Xu.ins:=go Tryz.func243 rfl trivial trivial ⟨⟨fun _ _ _ _=>⟨rfl,fun _=>by show _=_;kernel_rfl⟩,trivial⟩,⟨⟨fun _ _ _ _ _=>⟨rfl,fun _=>by show _=_;kernel_rfl⟩,trivial⟩,trivial⟩⟩ (fun _=>by show _=_;kernel_rfl)
def aa9:SP:=(243,.pure [(.slice (.int .u8))] (bj [Xu.ins]))
theorem ael:OK aa9:=aH Tryz.call243 ⟨acj,trivial⟩
def X6:cg E:={S:=[VR,aa9],i:=cu [(.slice (.int .u8))] [(.slice (.int .u8))] (N.vw N.fuel)}
theorem acX:aJ Tryz.prog 173 X6.ins:=go Tryz.func173 rfl ⟨Zq,ael,trivial⟩ trivial trivial (fun _=>by show _=_;kernel_rfl)
def aay:SP:=(173,.pure [(.slice (.int .u8))] (bj [X6.ins]))
theorem aeM:OK aay:=aH Tryz.call173 ⟨acX,trivial⟩
def x90:cg E:={S:=[VR,aaA,aaz,aay],ls:=[{ks:=[3,37,38,39],rs:=[2,3],ins:=some [⟨[.v (.slice (.int .u8)),.v (.slice (.named 11)),.iv,.iv],[.bx (.v (.named 12))],fun b a c d o0=>⟨(b,d),N.nJ N.fuel a c o0,fun v_=>([.val (.slice (.int .u8)) v_.1,.val (.slice (.named 11)) a,.iv c,.iv v_.2],[.bx (.nv 12 o0)]),fun x_=> .ret (.exit 0,[.undef,.val (.slice (.int .u8)) x_],[.bx (.nv 12 o0)])⟩⟩]}],i:=cu [(.named 12)] [(.slice (.int .u8))] (N.vz N.fuel)}
theorem y90:aJ Tryz.prog 90 x90.ins:=go Tryz.func90 rfl ⟨Zq,aeO,aeN,aeM,trivial⟩ trivial ⟨⟨fun _ _ _ _ _=>⟨rfl,fun _=>by show _=_;kernel_rfl⟩,trivial⟩,trivial⟩ (fun _=>by show _=_;kernel_rfl)
def P90:SP:=(90,.pure [(.named 12)] (bj [x90.ins]))
theorem p90:OK P90:=aH Tryz.call90 ⟨y90,trivial⟩
def Yb:cg E:={ls:=[{ks:=[0,1,12,13],rs:=[4],ins:=some [⟨[.v (.slice (.int .u8)),.v (.slice (.int .u8)),.iv,.iv],[],fun s1 s2 a b=>⟨b,N.gi s1 s2 a,fun v_=>([.val (.slice (.int .u8)) s1,.val (.slice (.int .u8)) s2,.iv a,.iv v_],[]),fun x_=>ba x_ (fun c=> .ret (.ret,[.bv false],[])) (fun d=> .ret (.exit 0,[.undef],[]))⟩⟩]}],i:=cu [(.slice (.int .u8)),(.slice (.int .u8))] [.bool] (N.lB N.fuel)}
theorem ad2:aJ Tryz.prog 168 Yb.ins:=go Tryz.func168 rfl trivial trivial ⟨⟨fun _ _ _ _=>⟨rfl,fun _=>by show _=_;kernel_rfl⟩,trivial⟩,trivial⟩ (fun _ _=>by show _=_;kernel_rfl)
def aaD:SP:=(168,.pure [(.slice (.int .u8)),(.slice (.int .u8))] (bj [Yb.ins]))
theorem aeR:OK aaD:=aH Tryz.call168 ⟨ad2,trivial⟩
noncomputable def aba:l8 E:=ql E (jY []) (GF E 18 [] []) 0 Tryz.f167
theorem aeS:iC Tryz.prog E 167 aba:=k6 sound mix (S:=[]) trivial (L:=GF E 18 [] []) (fun _=>rfl) Tryz.call167 Tryz.func167 rfl
def x88:cg E:={S:=[aaD,P89,P90],D:=[(167,aba)],i:=⟨[.v (.slice (.int .u8)),.fn 89 [],.fn 90 []],[],fun b=> .opt (N.qh N.fuel b) fun x_=> .ret (.ret [.nv 12 x_.1,.bv x_.2],[])⟩}
theorem y88:aJ Tryz.prog 88 x88.ins:=l4 Tryz.func88 rfl ⟨aeR,p89,p90,trivial⟩ ⟨aeS,trivial⟩ trivial (fun _=>by show _=_;kernel_rfl)
def P88:SP:=(88,.full [.data (.slice (.int .u8)),.func,.func] false (cC [x88.ins]))
theorem p88:OK P88:=bn ok Tryz.call88 ⟨y88,trivial⟩
def x35:cg E:={S:=[P88],i:=cu [(.slice (.int .u8))] [(.named 12),.bool] (N.tz N.fuel)}
theorem y35:aJ Tryz.prog 35 x35.ins:=go Tryz.func35 rfl ⟨p88,trivial⟩ trivial trivial (fun _=>by show _=_;kernel_rfl)
def P35:SP:=(35,.pure [(.slice (.int .u8))] (bj [x35.ins]))
theorem p35:OK P35:=aH Tryz.call35 ⟨y35,trivial⟩
def X5:cg E:={i:=⟨[.v (.slice (.named 3)),.iv],[],fun l a=> .xa (N.qL l a) fun x_=> .ret (.ret [.bv x_],[])⟩}
theorem acW:aJ Tryz.prog 174 X5.ins:=go Tryz.func174 rfl trivial trivial trivial (fun _ _=>by show _=_;kernel_rfl)
def VP:SP:=(174,.pure [(.slice (.named 3)),.i6] (bj [X5.ins]))
theorem Zm:OK VP:=aH Tryz.call174 ⟨acW,trivial⟩
def x91:cg E:={S:=[VP],i:=cu [(.slice (.named 3)),.i6,.i6] [(.named 3),.bool] N.C6}
theorem y91:aJ Tryz.prog 91 x91.ins:=go Tryz.func91 rfl ⟨Zm,trivial⟩ trivial trivial (fun _ _ _=>by show _=_;kernel_rfl)
def P91:SP:=(91,.pure [(.slice (.named 3)),.i6,.i6] (bj [x91.ins]))
theorem p91:OK P91:=aH Tryz.call91 ⟨y91,trivial⟩
def x36:cg E:={S:=[P91],i:=cu [.i6,(.slice .i6),(.slice (.named 9)),(.slice (.named 3)),(.named 12)] [.i6,(.named 9)] N.vg}
theorem y36:aJ Tryz.prog 36 x36.ins:=go Tryz.func36 rfl ⟨p91,trivial⟩ trivial trivial (fun _ _ _ _ _=>by show _=_;kernel_rfl)
def P36:SP:=(36,.pure [.i6,(.slice .i6),(.slice (.named 9)),(.slice (.named 3)),(.named 12)] (bj [x36.ins]))
theorem p36:OK P36:=aH Tryz.call36 ⟨y36,trivial⟩
def Ym:cg E:={aM:=true,i:=⟨[.ptr 0 [],.iv,.v (.named 9)],[.bx (sJ 1 2 3 4 5 6 7 8),.al .str,.al (.named 0),.al (.named 2),.al (.named 3),.al (.named 6),.al (.named 7),.arr .fix .i6,.al (.named 9)],fun a t b c d e f g h j k l m n o p q r=> .opt (N.dI a t (N.ax.mk (N.aG.mk (N.bZ.mk (N.aT.mk k l b c) (N.aI.mk m n d)) (N.bR.mk o p) q r e f g h j) [])) fun x_=> .ret (.ret [],[.bx (zT x_ 1 2 3 4 5 6 7 8 10),.al .str x_.Server.aB.D.bz,.al (.named 0) x_.Server.aB.D.bM,.al (.named 2) x_.Server.aB.S.aQ,.al (.named 3) x_.Server.aB.S.Marks,.al (.named 6) x_.Server.aY.bD,.al (.named 7) x_.Server.aY.cW,.arr .fix .i6 x_.Server.Seen,.al (.named 9) x_.Server.Told,.dead,.al (.named 9) x_.told])⟩}
theorem adf:aJ Tryz.prog 153 Ym.ins:=l4 Tryz.func153 rfl trivial trivial trivial (fun _ _ _ _ _ _ _ _ _ _ _ _ _ _ _ _ _ _=>by show _=_;kernel_rfl)
def Uh:cg E:={aM:=true,i:=⟨[.ptr 0 [],.iv,.v (.named 9)],[.bx (ML 1 2 3 4),.al (.named 6),.al (.named 7),.arr .fix .i6,.al (.named 9)],fun a t b c d e f g h j k l=> .opt (N.dI a t (N.ax.mk (N.aG.mk b (N.bR.mk h j) k l c d e f g) [])) fun x_=> .ret (.ret [],[.bx (Ij x_ 1 2 3 4 6),.al (.named 6) x_.Server.aY.bD,.al (.named 7) x_.Server.aY.cW,.arr .fix .i6 x_.Server.Seen,.al (.named 9) x_.Server.Told,.dead,.al (.named 9) x_.told])⟩}
theorem Ww:aJ Tryz.prog 153 Uh.ins:=l4 Tryz.func153 rfl trivial trivial trivial (fun _ _ _ _ _ _ _ _ _ _ _ _=>by show _=_;kernel_rfl)
def Ug:cg E:={aM:=true,i:=⟨[.ptr 0 [],.iv,.v (.named 9)],[.bx (HJ 1 2 3 4 5 6),.al .str,.al (.named 0),.arr .fix (.named 2),.al (.named 3),.arr .fix .i6,.al (.named 9)],fun a t b c d e f g h j k l m n o p q=> .opt (N.dI a t (N.ax.mk (N.aG.mk (N.bZ.mk (N.aT.mk l m b c) (N.aI.mk n o d)) e p q f g h j k) [])) fun x_=> .ret (.ret [],[.bx (g13 x_ 1 2 3 4 5 6 8),.al .str x_.Server.aB.D.bz,.al (.named 0) x_.Server.aB.D.bM,.arr .fix (.named 2) x_.Server.aB.S.aQ,.al (.named 3) x_.Server.aB.S.Marks,.arr .fix .i6 x_.Server.Seen,.al (.named 9) x_.Server.Told,.dead,.al (.named 9) x_.told])⟩}
theorem Wv:aJ Tryz.prog 153 Ug.ins:=l4 Tryz.func153 rfl trivial trivial trivial (fun _ _ _ _ _ _ _ _ _ _ _ _ _ _ _ _ _=>by show _=_;kernel_rfl)
def Uf:cg E:={aM:=true,i:=⟨[.ptr 0 [],.iv,.v (.named 9)],[.bx (HJ 1 2 3 4 5 6),.al .str,.al (.named 0),.al (.named 2),.al (.named 3),.arr .fix .i6,.al (.named 9)],fun a t b c d e f g h j k l m n o p q=> .opt (N.dI a t (N.ax.mk (N.aG.mk (N.bZ.mk (N.aT.mk l m b c) (N.aI.mk n o d)) e p q f g h j k) [])) fun x_=> .ret (.ret [],[.bx (g13 x_ 1 2 3 4 5 6 8),.al .str x_.Server.aB.D.bz,.al (.named 0) x_.Server.aB.D.bM,.al (.named 2) x_.Server.aB.S.aQ,.al (.named 3) x_.Server.aB.S.Marks,.arr .fix .i6 x_.Server.Seen,.al (.named 9) x_.Server.Told,.dead,.al (.named 9) x_.told])⟩}
theorem Wu:aJ Tryz.prog 153 Uf.ins:=l4 Tryz.func153 rfl trivial trivial trivial (fun _ _ _ _ _ _ _ _ _ _ _ _ _ _ _ _ _=>by show _=_;kernel_rfl)
def Ue:cg E:={aM:=true,i:=⟨[.ptr 0 [],.iv,.v (.named 9)],[.bx (sJ 1 2 3 4 5 6 7 8),.al .str,.al (.named 0),.al (.named 2),.al (.named 3),.arr .bc (.named 6),.al (.named 7),.arr .fix .i6,.al (.named 9)],fun a t b c d e f g h j k l m n o p q r=> .opt (N.dI a t (N.ax.mk (N.aG.mk (N.bZ.mk (N.aT.mk k l b c) (N.aI.mk m n d)) (N.bR.mk o p) q r e f g h j) [])) fun x_=> .ret (.ret [],[.bx (zT x_ 1 2 3 4 5 6 7 8 10),.al .str x_.Server.aB.D.bz,.al (.named 0) x_.Server.aB.D.bM,.al (.named 2) x_.Server.aB.S.aQ,.al (.named 3) x_.Server.aB.S.Marks,.arr .bc (.named 6) x_.Server.aY.bD,.al (.named 7) x_.Server.aY.cW,.arr .fix .i6 x_.Server.Seen,.al (.named 9) x_.Server.Told,.dead,.al (.named 9) x_.told])⟩}
theorem Wt:aJ Tryz.prog 153 Ue.ins:=l4 Tryz.func153 rfl trivial trivial trivial (fun _ _ _ _ _ _ _ _ _ _ _ _ _ _ _ _ _ _=>by show _=_;kernel_rfl)
def Ud:cg E:={aM:=true,i:=⟨[.ptr 0 [],.iv,.v (.named 9)],[.bx (MK 1 2),.arr .fix .i6,.al (.named 9)],fun a t b c d e f g h j k=> .opt (N.dI a t (N.ax.mk (N.aG.mk b c j k d e f g h) [])) fun x_=> .ret (.ret [],[.bx (Ga x_ 1 2 4),.arr .fix .i6 x_.Server.Seen,.al (.named 9) x_.Server.Told,.dead,.al (.named 9) x_.told])⟩}
theorem Ws:aJ Tryz.prog 153 Ud.ins:=l4 Tryz.func153 rfl trivial trivial trivial (fun _ _ _ _ _ _ _ _ _ _ _=>by show _=_;kernel_rfl)
def NR:SP:=(153,.full [.ptr,.data .i6,.data (.named 9)] false (cC [Ym.ins,Uh.ins,Ug.ins,Uf.ins,Ue.ins,Ud.ins]))
theorem Pl:OK NR:=bn ok Tryz.call153 ⟨adf,Ww,Wv,Wu,Wt,Ws,trivial⟩
def x93:cg E:={S:=[NR],aM:=true,i:=⟨[.ptr 0 [],.v (.named 12),.v (.named 9)],[.bx (sJ 1 2 3 4 5 6 7 8),.al .str,.al (.named 0),.al (.named 2),.al (.named 3),.al (.named 6),.al (.named 7),.arr .fix .i6,.al (.named 9)],fun a t b c d e f g h j k l m n o p q r=> .opt (N.ek a t (N.ax.mk (N.aG.mk (N.bZ.mk (N.aT.mk k l b c) (N.aI.mk m n d)) (N.bR.mk o p) q r e f g h j) [])) fun x_=> .ret (.ret [],[.bx (zT x_ 1 2 3 4 5 6 7 8 12),.al .str x_.Server.aB.D.bz,.al (.named 0) x_.Server.aB.D.bM,.al (.named 2) x_.Server.aB.S.aQ,.al (.named 3) x_.Server.aB.S.Marks,.al (.named 6) x_.Server.aY.bD,.al (.named 7) x_.Server.aY.cW,.arr .fix .i6 x_.Server.Seen,.al (.named 9) x_.Server.Told,.dead,.dead,.dead,.al (.named 9) x_.told])⟩}
theorem y93:aJ Tryz.prog 93 x93.ins:=l4 Tryz.func93 rfl ⟨Pl,trivial⟩ trivial trivial (fun _ _ _ _ _ _ _ _ _ _ _ _ _ _ _ _ _ _=>by show _=_;kernel_rfl)
def WE:cg E:={S:=[NR],aM:=true,i:=⟨[.ptr 0 [],.v (.named 12),.v (.named 9)],[.bx (ML 1 2 3 4),.al (.named 6),.al (.named 7),.arr .fix .i6,.al (.named 9)],fun a t b c d e f g h j k l=> .opt (N.ek a t (N.ax.mk (N.aG.mk b (N.bR.mk h j) k l c d e f g) [])) fun x_=> .ret (.ret [],[.bx (Ij x_ 1 2 3 4 8),.al (.named 6) x_.Server.aY.bD,.al (.named 7) x_.Server.aY.cW,.arr .fix .i6 x_.Server.Seen,.al (.named 9) x_.Server.Told,.dead,.dead,.dead,.al (.named 9) x_.told])⟩}
theorem aby:aJ Tryz.prog 93 WE.ins:=l4 Tryz.func93 rfl ⟨Pl,trivial⟩ trivial trivial (fun _ _ _ _ _ _ _ _ _ _ _ _=>by show _=_;kernel_rfl)
def WD:cg E:={S:=[NR],aM:=true,i:=⟨[.ptr 0 [],.v (.named 12),.v (.named 9)],[.bx (HJ 1 2 3 4 5 6),.al .str,.al (.named 0),.al (.named 2),.al (.named 3),.arr .fix .i6,.al (.named 9)],fun a t b c d e f g h j k l m n o p q=> .opt (N.ek a t (N.ax.mk (N.aG.mk (N.bZ.mk (N.aT.mk l m b c) (N.aI.mk n o d)) e p q f g h j k) [])) fun x_=> .ret (.ret [],[.bx (g13 x_ 1 2 3 4 5 6 10),.al .str x_.Server.aB.D.bz,.al (.named 0) x_.Server.aB.D.bM,.al (.named 2) x_.Server.aB.S.aQ,.al (.named 3) x_.Server.aB.S.Marks,.arr .fix .i6 x_.Server.Seen,.al (.named 9) x_.Server.Told,.dead,.dead,.dead,.al (.named 9) x_.told])⟩}
theorem abx:aJ Tryz.prog 93 WD.ins:=l4 Tryz.func93 rfl ⟨Pl,trivial⟩ trivial trivial (fun _ _ _ _ _ _ _ _ _ _ _ _ _ _ _ _ _=>by show _=_;kernel_rfl)
def WC:cg E:={S:=[NR],aM:=true,i:=⟨[.ptr 0 [],.v (.named 12),.v (.named 9)],[.bx (sJ 1 2 3 4 5 6 7 8),.al .str,.al (.named 0),.al (.named 2),.al (.named 3),.arr .bc (.named 6),.al (.named 7),.arr .fix .i6,.al (.named 9)],fun a t b c d e f g h j k l m n o p q r=> .opt (N.ek a t (N.ax.mk (N.aG.mk (N.bZ.mk (N.aT.mk k l b c) (N.aI.mk m n d)) (N.bR.mk o p) q r e f g h j) [])) fun x_=> .ret (.ret [],[.bx (zT x_ 1 2 3 4 5 6 7 8 12),.al .str x_.Server.aB.D.bz,.al (.named 0) x_.Server.aB.D.bM,.al (.named 2) x_.Server.aB.S.aQ,.al (.named 3) x_.Server.aB.S.Marks,.arr .bc (.named 6) x_.Server.aY.bD,.al (.named 7) x_.Server.aY.cW,.arr .fix .i6 x_.Server.Seen,.al (.named 9) x_.Server.Told,.dead,.dead,.dead,.al (.named 9) x_.told])⟩}
theorem abw:aJ Tryz.prog 93 WC.ins:=l4 Tryz.func93 rfl ⟨Pl,trivial⟩ trivial trivial (fun _ _ _ _ _ _ _ _ _ _ _ _ _ _ _ _ _ _=>by show _=_;kernel_rfl)
def WB:cg E:={S:=[NR],aM:=true,i:=⟨[.ptr 0 [],.v (.named 12),.v (.named 9)],[.bx (MK 1 2),.arr .fix .i6,.al (.named 9)],fun a t b c d e f g h j k=> .opt (N.ek a t (N.ax.mk (N.aG.mk b c j k d e f g h) [])) fun x_=> .ret (.ret [],[.bx (Ga x_ 1 2 6),.arr .fix .i6 x_.Server.Seen,.al (.named 9) x_.Server.Told,.dead,.dead,.dead,.al (.named 9) x_.told])⟩}
theorem abv:aJ Tryz.prog 93 WB.ins:=l4 Tryz.func93 rfl ⟨Pl,trivial⟩ trivial trivial (fun _ _ _ _ _ _ _ _ _ _ _=>by show _=_;kernel_rfl)
def Uw:SP:=(93,.full [.ptr,.data (.named 12),.data (.named 9)] false (cC [x93.ins,WE.ins,WD.ins,WC.ins,WB.ins]))
theorem US:OK Uw:=bn ok Tryz.call93 ⟨y93,aby,abx,abw,abv,trivial⟩
def Ul:cg E:={S:=[ZO,V8],aM:=true,i:=⟨[.v (.named 4)],[],fun s=> .xa (.ret (N.Fm s)) fun x_=> .ret (.ret [.agg 4 [.own 2,.own 3,.iv s.aP]],[.dead,.dead,.al (.named 2) s.aQ,.al (.named 3) s.Marks])⟩}
theorem WA:aJ Tryz.prog 115 Ul.ins:=l4 Tryz.func115 rfl ⟨p82,YX,trivial⟩ trivial trivial (fun _=>by show _=_;kernel_rfl)
def OJ:SP:=(115,.full [.data (.named 4)] false (cC [Ul.ins]))
theorem Q2:OK OJ:=bn ok Tryz.call115 ⟨WA,trivial⟩
def WS:cg E:={S:=[Vz],i:=cu [(.slice (.named 2)),.str] [.i6,.bool] (N.wu N.fuel)}
theorem abK:aJ Tryz.prog 290 WS.ins:=go Tryz.func290 rfl ⟨Y4,trivial⟩ trivial trivial (fun _ _=>by show _=_;kernel_rfl)
def Vw:SP:=(290,.pure [(.slice (.named 2)),.str] (bj [WS.ins]))
theorem Y1:OK Vw:=aH Tryz.call290 ⟨abK,trivial⟩
def Xq:cg E:={S:=[Sd,Vw],i:=cu [(.slice (.named 2)),.str] [.i6,.bool] (N.A7 N.fuel)}
theorem acf:aJ Tryz.prog 247 Xq.ins:=go Tryz.func247 rfl ⟨SL,Y1,trivial⟩ trivial trivial (fun _ _=>by show _=_;kernel_rfl)
def aa7:SP:=(247,.pure [(.slice (.named 2)),.str] (bj [Xq.ins]))
theorem aej:OK aa7:=aH Tryz.call247 ⟨acf,trivial⟩
def Xp:cg E:={S:=[Vw],i:=cu [(.slice (.named 2))] [.i6,.bool] (N.A4 N.fuel)}
theorem ace:aJ Tryz.prog 248 Xp.ins:=go Tryz.func248 rfl ⟨Y1,trivial⟩ trivial trivial (fun _=>by show _=_;kernel_rfl)
def aa6:SP:=(248,.pure [(.slice (.named 2))] (bj [Xp.ins]))
theorem aei:OK aa6:=aH Tryz.call248 ⟨ace,trivial⟩
def Xs:cg E:={S:=[Sd,aa7,aa6],i:=⟨[.ptr 0 [],.ptr 3 []],[.bx (.agg 4 [.own 1,.own 2,.iv]),.al (.named 2),.al (.named 3),.bx (.v .str)],fun a b c o3=> .opt (N.pU N.fuel (N.aI.mk b c a) o3) fun x_=>ba x_ (fun d=> .ret (.ret [.nv 3 d.1],[.bx (.agg 4 [.own 1,.own 2,.iv d.2.aP]),.al (.named 2) d.2.aQ,.al (.named 3) d.2.Marks,.bx (.sv o3)])) (fun e=> .ret (.panic (.fD 283 (.nv 21 e)),[.bx (.agg 4 [.own 1,.own 2,.iv a]),.al (.named 2) b,.al (.named 3) c,.bx (.sv o3)]))⟩}
theorem ach:aJ Tryz.prog 245 Xs.ins:=l4 Tryz.func245 rfl ⟨SL,aej,aei,trivial⟩ trivial trivial (fun _ _ _ _=>by show _=_;kernel_rfl)
def aa8:SP:=(245,.full [.ptr,.ptr] false (cC [Xs.ins]))
theorem aek:OK aa8:=bn ok Tryz.call245 ⟨ach,trivial⟩
def WT:cg E:={S:=[VP,V8],i:=cu [(.slice (.named 3)),.i6,(.named 3)] [(.slice (.named 3))] N.AE}
theorem abL:aJ Tryz.prog 289 WT.ins:=go Tryz.func289 rfl ⟨Zm,YX,trivial⟩ trivial trivial (fun _ _ _=>by show _=_;kernel_rfl)
def Vx:SP:=(289,.pure [(.slice (.named 3)),.i6,(.named 3)] (bj [WT.ins]))
theorem adY:OK Vx:=aH Tryz.call289 ⟨abL,trivial⟩
def Yz:cg E:={S:=[ZO,V8],i:=⟨[.v (.named 4)],[],fun s=> .xa (.ret (N.Fm s)) fun x_=> .ret (.ret [.nv 4 s],[])⟩}
theorem ads:aJ Tryz.prog 115 Yz.ins:=go Tryz.func115 rfl ⟨p82,YX,trivial⟩ trivial trivial (fun _=>by show _=_;kernel_rfl)
def TO:SP:=(115,.pure [(.named 4)] (bj [Yz.ins]))
theorem Zv:OK TO:=aH Tryz.call115 ⟨ads,trivial⟩
noncomputable def TV:l8 E:=ql E (jY [TO,Vx]) (GF E 32 [] []) 0 Tryz.f288
theorem UT:iC Tryz.prog E 288 TV:=k6 sound mix (S:=[TO,Vx]) ⟨Zv,adY,trivial⟩ (L:=GF E 32 [] []) (fun _=>rfl) Tryz.call288 Tryz.func288 rfl
def Xm:cg E:={aM:=true,i:=⟨[.ptr 0 [],.iv],[.bx (.agg 4 [.own 1,.own 2,.iv]),.al (.named 2),.al (.named 3)],fun n a b c=> .opt (N.tp n (N.aI.mk b c a)) fun x_=>ba x_ (fun d=> .ret (.ret [.ptr 1 [.idx (.named 2) d]],[.bx (.agg 4 [.own 1,.own 2,.iv a]),.al (.named 2) b,.al (.named 3) c])) (fun e=> .ret (.panic (.fD 283 (.nv 21 (N.cN.mk 2))),[.bx (.agg 4 [.own 1,.own 2,.iv a]),.al (.named 2) b,.al (.named 3) c]))⟩}
theorem aca:aJ Tryz.prog 251 Xm.ins:=l4 Tryz.func251 rfl trivial trivial trivial (fun _ _ _ _=>by show _=_;kernel_rfl)
def VF:SP:=(251,.full [.ptr,.data .i6] false (cC [Xm.ins]))
theorem Za:OK VF:=bn ok Tryz.call251 ⟨aca,trivial⟩
noncomputable def ab8:l8 E:=ql E (jY []) (GF E 21 [] []) 0 Tryz.f312
theorem adQ:iC Tryz.prog E 312 ab8:=k6 sound mix (S:=[]) trivial (L:=GF E 21 [] []) (fun _=>rfl) Tryz.call312 Tryz.func312 rfl
def WO:cg E:={S:=[TH,TA],D:=[(312,ab8)],i:=cu [.str,(.named 11)] [.str] N.AV}
theorem abH:aJ Tryz.prog 293 WO.ins:=go Tryz.func293 rfl ⟨Zs,UU,trivial⟩ ⟨adQ,trivial⟩ trivial (fun _ _=>by show _=_;kernel_rfl)
def ZX:SP:=(293,.pure [.str,(.named 11)] (bj [WO.ins]))
theorem adW:OK ZX:=aH Tryz.call293 ⟨abH,trivial⟩
def Xi:cg E:={S:=[ZX],ls:=[{ks:=[0,7,8,9],rs:=[0,4],ins:=some [⟨[.v .str,.v (.slice (.named 11)),.iv,.iv],[],fun a t7 t8 t9=>⟨(a,t9),N.v8 t7 t8,fun v_=>([.sv v_.1,.val (.slice (.named 11)) t7,.iv t8,.iv v_.2],[]),fun x_=> .ret (.exit 0,[.sv x_,.undef],[])⟩⟩]}],i:=cu [.str,(.slice (.named 11))] [.str] (N.AW N.fuel)}
theorem ac6:aJ Tryz.prog 255 Xi.ins:=go Tryz.func255 rfl ⟨adW,trivial⟩ trivial ⟨⟨fun _ _ _ _=>⟨rfl,fun _=>by show _=_;kernel_rfl⟩,trivial⟩,trivial⟩ (fun _ _=>by show _=_;kernel_rfl)
def aa2:SP:=(255,.pure [.str,(.slice (.named 11))] (bj [Xi.ins]))
theorem aee:OK aa2:=aH Tryz.call255 ⟨ac6,trivial⟩
def Xn:cg E:={S:=[VF,VE,aa2],i:=⟨[.ptr 0 [],.ptr 3 [],.ptr 4 []],[.bx (.agg 4 [.own 1,.own 2,.iv]),.al (.named 2),.al (.named 3),.bx (.iv),.bx (.v (.slice (.named 11)))],fun a b c o3 o4=> .opt (N.oB N.fuel (N.aI.mk b c a) o3 o4) fun x_=>ba x_ (fun d=> .ret (.ret [.nv 3 d.1],[.bx (.agg 4 [.own 1,.own 2,.iv d.2.aP]),.al (.named 2) d.2.aQ,.al (.named 3) d.2.Marks,.bx (.iv o3),.bx (.val (.slice (.named 11)) o4)])) (fun e=> .ret (.panic (.fD 283 (.nv 21 e)),[.bx (.agg 4 [.own 1,.own 2,.iv a]),.al (.named 2) b,.al (.named 3) c,.bx (.iv o3),.bx (.val (.slice (.named 11)) o4)]))⟩}
theorem acb:aJ Tryz.prog 250 Xn.ins:=l4 Tryz.func250 rfl ⟨Za,Y9,aee,trivial⟩ trivial trivial (fun _ _ _ _ _=>by show _=_;kernel_rfl)
def aa4:SP:=(250,.full [.ptr,.ptr,.ptr] false (cC [Xn.ins]))
theorem aeg:OK aa4:=bn ok Tryz.call250 ⟨acb,trivial⟩
def Xe:cg E:={S:=[VF],i:=⟨[.ptr 0 [],.ptr 3 []],[.bx (.agg 4 [.own 1,.own 2,.iv]),.al (.named 2),.al (.named 3),.bx (.iv)],fun a b c o3=> .opt (N.pV (N.aI.mk b c a) o3) fun x_=>ba x_ (fun d=> .ret (.ret [.nv 3 d.1],[.bx (.agg 4 [.own 1,.own 2,.iv d.2.aP]),.al (.named 2) d.2.aQ,.al (.named 3) d.2.Marks,.bx (.iv o3)])) (fun e=> .ret (.panic (.fD 283 (.nv 21 (N.cN.mk 2))),[.bx (.agg 4 [.own 1,.own 2,.iv a]),.al (.named 2) b,.al (.named 3) c,.bx (.iv o3)]))⟩}
theorem ac2:aJ Tryz.prog 259 Xe.ins:=l4 Tryz.func259 rfl ⟨Za,trivial⟩ trivial trivial (fun _ _ _ _=>by show _=_;kernel_rfl)
def Z8:SP:=(259,.full [.ptr,.ptr] false (cC [Xe.ins]))
theorem aea:OK Z8:=bn ok Tryz.call259 ⟨ac2,trivial⟩
def Xt:cg E:={S:=[OJ,aa8],D:=[(288,TV)],i:=⟨[.v (.named 4),.iv,.iv,.fn 245 [.ptr 0 []]],[.bx (.v .str)],fun s a b o0=> .opt (N.uV N.fuel s a b o0) fun x_=> .ret (.ret [.nv 4 x_.1,.nv 3 x_.2],[.bx (.sv o0)])⟩}
theorem aci:aJ Tryz.prog 244 Xt.ins:=l4 Tryz.func244 rfl ⟨Q2,aek,trivial⟩ ⟨UT,trivial⟩ trivial (fun _ _ _ _=>by show _=_;kernel_rfl)
def T4:cg E:={S:=[OJ,aa4],D:=[(288,TV)],i:=⟨[.v (.named 4),.iv,.iv,.fn 250 [.ptr 0 [],.ptr 1 []]],[.bx (.iv),.bx (.v (.slice (.named 11)))],fun s a b o0 o1=> .opt (N.rm N.fuel s a b o0 o1) fun x_=> .ret (.ret [.nv 4 x_.1,.nv 3 x_.2],[.bx (.iv o0),.bx (.val (.slice (.named 11)) o1)])⟩}
theorem Wj:aJ Tryz.prog 244 T4.ins:=l4 Tryz.func244 rfl ⟨Q2,aeg,trivial⟩ ⟨UT,trivial⟩ trivial (fun _ _ _ _ _=>by show _=_;kernel_rfl)
def T3:cg E:={S:=[OJ,Z8],D:=[(288,TV)],i:=⟨[.v (.named 4),.iv,.iv,.fn 259 [.ptr 0 []]],[.bx (.iv)],fun s a b o0=> .opt (N.rl s a b o0) fun x_=> .ret (.ret [.nv 4 x_.1,.nv 3 x_.2],[.bx (.iv o0)])⟩}
theorem Wi:aJ Tryz.prog 244 T3.ins:=l4 Tryz.func244 rfl ⟨Q2,aea,trivial⟩ ⟨UT,trivial⟩ trivial (fun _ _ _ _=>by show _=_;kernel_rfl)
def TB:SP:=(244,.full [.data (.named 4),.data .i6,.data .i6,.func] false (cC [Xt.ins,T4.ins,T3.ins]))
theorem UW:OK TB:=bn ok Tryz.call244 ⟨aci,Wj,Wi,trivial⟩
def X4:cg E:={S:=[TB],i:=cu [(.named 4),.i6,.i6,.str] [(.named 4),(.named 3)] (N.uW N.fuel)}
theorem acV:aJ Tryz.prog 175 X4.ins:=go Tryz.func175 rfl ⟨UW,trivial⟩ trivial trivial (fun _ _ _ _=>by show _=_;kernel_rfl)
def aax:SP:=(175,.pure [(.named 4),.i6,.i6,.str] (bj [X4.ins]))
theorem aeL:OK aax:=aH Tryz.call175 ⟨acV,trivial⟩
def YC:cg E:={S:=[ZO,V8],i:=⟨[.v (.named 4)],[],fun s=> .xa (.ret (N.MC s)) fun x_=> .ret (.ret [.nv 4 s],[])⟩}
theorem adv:aJ Tryz.prog 112 YC.ins:=go Tryz.func112 rfl ⟨p82,YX,trivial⟩ trivial trivial (fun _=>by show _=_;kernel_rfl)
def aaU:SP:=(112,.pure [(.named 4)] (bj [YC.ins]))
theorem afd:OK aaU:=aH Tryz.call112 ⟨adv,trivial⟩
def XP:cg E:={ls:=[{ks:=[1,2,3,7,10,11,12],rs:=[1,2,3,6],ins:=some [⟨[.iv,.v (.slice (.named 0)),.ptr 0 [],.iv,.v (.slice (.named 0)),.iv,.iv],[.bx (.v (.named 1))],fun a l b c e f d=>⟨(b,f),N.vM a l c e d,fun v_=>([.iv a,.val (.slice (.named 0)) l,.ptr 0 [],.iv v_.1,.val (.slice (.named 0)) c,.iv e,.iv v_.2],[.bx (.nv 1 d)]),fun x_=>ba x_ (fun g=> .ret (.ret,[.iv a,.val (.slice (.named 0)) l,.ptr 0 [],.bv false],[.bx (.nv 1 d),.bx (.nv 0 g)])) (fun h=> .ret (.exit 0,[.iv a,.val (.slice (.named 0)) l,.ptr 0 [],.undef],[.bx (.nv 1 d)]))⟩⟩]}],i:=cu [(.named 1),.i6,(.slice (.named 0))] [.bool] (N.AO N.fuel)}
theorem acG:aJ Tryz.prog 194 XP.ins:=go Tryz.func194 rfl trivial trivial ⟨⟨fun _ _ _ _ _ _ _=>⟨rfl,fun _=>by show _=_;kernel_rfl⟩,trivial⟩,trivial⟩ (fun _ _ _=>by show _=_;kernel_rfl)
def aao:SP:=(194,.pure [(.named 1),.i6,(.slice (.named 0))] (bj [XP.ins]))
theorem aeA:OK aao:=aH Tryz.call194 ⟨acG,trivial⟩
def XO:cg E:={i:=⟨[],[],.xa (.ret (N.B8)) fun x_=> .ret (.ret [.val (.slice (.int .u8)) ([0,0,0,0,0,0,0,0,0,0,0,0,0,0,0,0,0,0,0,0,0,0,0,0,0,0,0,0,0,0,0,0])],[])⟩}
theorem acF:aJ Tryz.prog 195 XO.ins:=go Tryz.func195 rfl trivial trivial trivial (by show _=_;kernel_rfl)
def aan:SP:=(195,.pure [] (bj [XO.ins]))
theorem aez:OK aan:=aH Tryz.call195 ⟨acF,trivial⟩
def Xc:cg E:={i:=⟨[.ptr 0 [],.v (.named 1),.v .bool],[.bx (.agg 19 [.agg 1 [.own 1,.own 2,.iv,.v .bool]]),.arr .bc .str,.arr .bc (.named 0)],fun d ok a b c e=> .opt (N.gb d ok (N.bd.mk (N.aT.mk c e a b))) fun x_=>ba x_ (fun f=> .ret (.ret [],[.bx (.nv 19 f),.arr .bc .str c,.arr .bc (.named 0) e])) (fun g=> .ret (.panic (.fD 292 (.nv 16 N.fa.mk)),[.bx (.nv 19 g),.arr .bc .str c,.arr .bc (.named 0) e]))⟩}
theorem abZ:aJ Tryz.prog 262 Xc.ins:=l4 Tryz.func262 rfl trivial trivial trivial (fun _ _ _ _ _ _=>by show _=_;kernel_rfl)
def T1:cg E:={i:=⟨[.ptr 0 [],.v (.named 1),.v .bool],[.bx (.v (.named 19))],fun d ok w=> .opt (N.gb d ok w) fun x_=>ba x_ (fun a=> .ret (.ret [],[.bx (.nv 19 a)])) (fun b=> .ret (.panic (.fD 292 (.nv 16 N.fa.mk)),[.bx (.nv 19 b)]))⟩}
theorem Wg:aJ Tryz.prog 262 T1.ins:=l4 Tryz.func262 rfl trivial trivial trivial (fun _ _ _=>by show _=_;kernel_rfl)
def Qe:SP:=(262,.full [.ptr,.data (.named 1),.data .bool] false (cC [Xc.ins,T1.ins]))
theorem Q1:OK Qe:=bn ok Tryz.call262 ⟨abZ,Wg,trivial⟩
def XS:cg E:={S:=[Qe,P75],i:=⟨[.ptr 0 [],.iv,.v .str],[.bx (.agg 19 [.agg 1 [.own 1,.own 2,.iv,.v .bool]]),.al .str,.al (.named 0)],fun i b a c d e=> .opt (N.lI i b (N.bd.mk (N.aT.mk d e a c))) fun x_=>ba x_ (fun f=> .ret (.ret [],[.bx (.nv 19 f.1),.arr .bc .str f.2.1,.arr .bc (.named 0) f.2.2])) (fun g=> .ret (.panic (.fD 292 (.nv 16 N.fa.mk)),[.bx (.nv 19 g.1),.arr .bc .str g.2.1,.arr .bc (.named 0) g.2.2]))⟩}
theorem acJ:aJ Tryz.prog 188 XS.ins:=l4 Tryz.func188 rfl ⟨Q1,p75,trivial⟩ trivial trivial (fun _ _ _ _ _ _=>by show _=_;kernel_rfl)
def T6:cg E:={S:=[Qe,P75],i:=⟨[.ptr 0 [],.iv,.v .str],[.bx (.v (.named 19))],fun i b w=> .opt (N.jD i b w) fun x_=>ba x_ (fun a=> .ret (.ret [],[.bx (.nv 19 a)])) (fun c=> .ret (.panic (.fD 292 (.nv 16 N.fa.mk)),[.bx (.nv 19 c)]))⟩}
theorem Wl:aJ Tryz.prog 188 T6.ins:=l4 Tryz.func188 rfl ⟨Q1,p75,trivial⟩ trivial trivial (fun _ _ _=>by show _=_;kernel_rfl)
def VM:SP:=(188,.full [.ptr,.data .i6,.data .str] false (cC [XS.ins,T6.ins]))
theorem Zh:OK VM:=bn ok Tryz.call188 ⟨acJ,Wl,trivial⟩
def XR:cg E:={S:=[Qe,P76],i:=⟨[.ptr 0 []],[.bx (.v (.named 19))],fun w=> .opt (N.lJ N.fuel w) fun x_=>ba x_ (fun a=> .ret (.ret [],[.bx (.nv 19 a)])) (fun b=> .ret (.panic (.fD 292 (.nv 16 N.fa.mk)),[.bx (.nv 19 b)]))⟩}
theorem acI:aJ Tryz.prog 189 XR.ins:=l4 Tryz.func189 rfl ⟨Q1,p76,trivial⟩ trivial trivial (fun _=>by show _=_;kernel_rfl)
def VL:SP:=(189,.full [.ptr] false (cC [XR.ins]))
theorem Zg:OK VL:=bn ok Tryz.call189 ⟨acI,trivial⟩
def T5:cg E:={aM:=true,i:=⟨[],[],.xa (.ret (N.B8)) fun x_=> .ret (.ret [.own 0],[.al (.int .u8) ([0,0,0,0,0,0,0,0,0,0,0,0,0,0,0,0,0,0,0,0,0,0,0,0,0,0,0,0,0,0,0,0])])⟩}
theorem Wk:aJ Tryz.prog 195 T5.ins:=l4 Tryz.func195 rfl trivial trivial trivial (by show _=_;kernel_rfl)
def Ux:SP:=(195,.full [] false (cC [T5.ins]))
theorem Zf:OK Ux:=bn ok Tryz.call195 ⟨Wk,trivial⟩
def XN:cg E:={S:=[Ux],ls:=[{ks:=[3,16,17,18],rs:=[2,3],ins:=some [⟨[.own 0,.v (.slice (.named 0)),.iv,.iv],[.al (.int .u8)],fun a c d b=>⟨(d,b),N.tK a c,fun v_=>([.own 0,.val (.slice (.named 0)) a,.iv c,.iv v_.1],[.al (.int .u8) v_.2]),fun x_=> .ret (.exit 0,[.undef,.own 0],[.al (.int .u8) x_])⟩⟩]}],i:=cu [(.slice (.named 0))] [.str] (N.yi N.fuel)}
theorem acE:aJ Tryz.prog 196 XN.ins:=go Tryz.func196 rfl ⟨Zf,trivial⟩ trivial ⟨⟨fun _ _ _ _=>⟨rfl,fun _=>by show _=_;kernel_rfl⟩,trivial⟩,trivial⟩ (fun _=>by show _=_;kernel_rfl)
def aam:SP:=(196,.pure [(.slice (.named 0))] (bj [XN.ins]))
theorem aey:OK aam:=aH Tryz.call196 ⟨acE,trivial⟩
noncomputable def V3:l8 E:=ql E (jY []) (GF E 28 [] []) 0 Tryz.f185
theorem Zi:iC Tryz.prog E 185 V3:=k6 sound mix (S:=[]) trivial (L:=GF E 28 [] []) (fun _=>rfl) Tryz.call185 Tryz.func185 rfl
end
end Go.Proofs.YtlejgahbbfeagaaGreatDoor.V

/- The seat's functions, and the nice ones (2). -/
import Derived.Test.YtlejgahbbfeagaaGreatDoorSeat4
set_option linter.unusedVariables false
set_option maxRecDepth 100000
namespace Go.Proofs.YtlejgahbbfeagaaGreatDoor.V
open Go Go.Proofs.YtlejgahbbfeagaaGreatDoor.D
noncomputable section
def YB:cg E:={S:=[VM,VL,aao,aan,aam,ZQ,ZP],D:=[(185,V3)],ls:=[{ks:=[1,2,6,7,8,54,55,56],rs:=[1,2,6,7,8],d:=[(185,[.ptr 3 [],.ptr 1 [],.ptr 2 []])],ins:=some [⟨[.iv,.v (.slice (.named 0)),.ptr 1 [],.ptr 2 [],.ptr 3 [],.v (.slice (.named 0)),.iv,.iv],[.bx (.v (.named 1)),.bx (.agg 1 [.bm,.bm,.iv,.v .bool]),.bx (.v .bool),.bx (.v (.named 19)),.arr .bc .str,.arr .bc (.named 0)],fun a l b c e o0 f g ok w r4 r5=>⟨(e,(N.aT.mk [] [] f g),w),N.mg a l b c o0 ok r4 r5,fun v_=>([.iv a,.val (.slice (.named 0)) l,.ptr 1 [],.ptr 2 [],.ptr 3 [],.val (.slice (.named 0)) b,.iv c,.iv v_.1],[.bx (.nv 1 o0),.bx (g1 v_.2.1),.bx (.bv ok),.bx (.nv 19 v_.2.2),.arr .bc .str r4,.arr .bc (.named 0) r5]),fun x_=>ba x_ (fun h=> .ret (.panic (.fD 292 (.nv 16 N.fa.mk)),[.iv a,.val (.slice (.named 0)) l,.ptr 1 [],.ptr 2 [],.ptr 3 []],[.bx (.nv 1 o0),.bx (g1 h.1),.bx (.bv ok),.bx (.nv 19 h.2.1),.arr .bc .str r4,.arr .bc (.named 0) r5,.bx (.nv 0 h.2.2)])) (fun j=> .ret (.exit 0,[.iv a,.val (.slice (.named 0)) l,.ptr 1 [],.ptr 2 [],.ptr 3 []],[.bx (.nv 1 o0),.bx (g1 j.1),.bx (.bv ok),.bx (.nv 19 j.2),.arr .bc .str r4,.arr .bc (.named 0) r5]))⟩⟩]},{ks:=[6,7,8,79,80,81],rs:=[6,7,8],d:=[(185,[.ptr 3 [],.ptr 1 [],.ptr 2 []])],ins:=some [⟨[.ptr 1 [],.ptr 2 [],.ptr 3 [],.v (.slice (.named 0)),.iv,.iv],[.bx (.v (.named 1)),.bx (.agg 1 [.bm,.bm,.iv,.v .bool]),.bx (.v .bool),.bx (.v (.named 19)),.arr .bc .str,.arr .bc (.named 0)],fun k m n o0 f g ok w r4 r5=>⟨(n,(N.aT.mk [] [] f g),w),N.me k m o0 ok r4 r5,fun v_=>([.ptr 1 [],.ptr 2 [],.ptr 3 [],.val (.slice (.named 0)) k,.iv m,.iv v_.1],[.bx (.nv 1 o0),.bx (g1 v_.2.1),.bx (.bv ok),.bx (.nv 19 v_.2.2),.arr .bc .str r4,.arr .bc (.named 0) r5]),fun x_=>ba x_ (fun h=> .ret (.panic (.fD 292 (.nv 16 N.fa.mk)),[.ptr 1 [],.ptr 2 [],.ptr 3 []],[.bx (.nv 1 o0),.bx (g1 h.1),.bx (.bv ok),.bx (.nv 19 h.2.1),.arr .bc .str r4,.arr .bc (.named 0) r5,.bx (.nv 0 h.2.2)])) (fun j=> .ret (.exit 2,[.ptr 1 [],.ptr 2 [],.ptr 3 []],[.bx (.nv 1 o0),.bx (g1 j.1),.bx (.bv ok),.bx (.nv 19 j.2),.arr .bc .str r4,.arr .bc (.named 0) r5]))⟩⟩]}],i:=cu [(.named 1),.i6,(.slice (.named 0))] [(.named 1),.bool] (N.tL N.fuel)}
theorem adu:aJ Tryz.prog 113 YB.ins:=go Tryz.func113 rfl ⟨Zh,Zg,aeA,aez,aey,p80,p81,trivial⟩ ⟨Zi,trivial⟩ ⟨⟨fun _ _ _ _ _ _ _ _ _ _ _ _=>⟨rfl,fun _=>by show _=_;kernel_rfl⟩,trivial⟩,⟨⟨fun _ _ _ _ _ _ _ _ _ _=>⟨rfl,fun _=>by show _=_;kernel_rfl⟩,trivial⟩,trivial⟩⟩ (fun _ _ _=>by show _=_;kernel_rfl)
def aaT:SP:=(113,.pure [(.named 1),.i6,(.slice (.named 0))] (bj [YB.ins]))
theorem afc:OK aaT:=aH Tryz.call113 ⟨adu,trivial⟩
def YA:cg E:={ls:=[{ks:=[0,4,7,8,9],rs:=[4],xM:=[.xM (.slot 4) [] (.named 0)],ins:=some [⟨[.v (.slice .str),.own 0,.v (.slice .str),.iv,.iv],[.al (.named 0)],fun a t7 t8 t9 l=>⟨(t9,l),N.r9 a t7 t8,fun v_=>([.val (.slice .str) a,.own 0,.val (.slice .str) t7,.iv t8,.iv v_.1],[.al (.named 0) v_.2]),fun x_=> .ret (.exit 0,[.own 0],[.al (.named 0) x_])⟩⟩]}],i:=cu [(.slice .str),(.slice .str)] [(.slice (.named 0))] (N.vS N.fuel)}
theorem adt:aJ Tryz.prog 114 YA.ins:=go Tryz.func114 rfl trivial trivial ⟨⟨fun _ _ _ _ _=>⟨rfl,fun _=>by show _=_;kernel_rfl⟩,trivial⟩,trivial⟩ (fun _ _=>by show _=_;kernel_rfl)
def aaS:SP:=(114,.pure [(.slice .str),(.slice .str)] (bj [YA.ins]))
theorem afb:OK aaS:=aH Tryz.call114 ⟨adt,trivial⟩
def x43:cg E:={S:=[Si,aaU,aaT,aaS,ZR],i:=cu [(.named 5),(.named 4)] [(.named 5),.bool] (N.rk N.fuel)}
theorem y43:aJ Tryz.prog 43 x43.ins:=go Tryz.func43 rfl ⟨SN,afd,afc,afb,p74,trivial⟩ trivial trivial (fun _ _=>by show _=_;kernel_rfl)
def P43:SP:=(43,.pure [(.named 5),(.named 4)] (bj [x43.ins]))
theorem p43:OK P43:=aH Tryz.call43 ⟨y43,trivial⟩
def X3:cg E:={S:=[P43],i:=⟨[.ptr 0 [],.v (.named 4)],[.bx (sJ 1 2 3 4 5 6 7 8),.al .str,.al (.named 0),.arr .bc (.named 2),.arr .bc (.named 3),.al (.named 6),.al (.named 7),.arr .fix .i6,.al (.named 9)],fun s a b c d e f g h j k l m n o p q=> .opt (N.gj N.fuel s (N.ax.mk (N.aG.mk (N.bZ.mk (N.aT.mk j k a b) (N.aI.mk l m c)) (N.bR.mk n o) p q d e f g h) [])) fun x_=>ba x_ (fun r=> .ret (.ret [],[.bx (yn r.1 5 6 7 8),.arr .bc .str r.2.1,.arr .bc (.named 0) r.2.2,.arr .bc (.named 2) l,.arr .bc (.named 3) m,.al (.named 6) r.1.Server.aY.bD,.al (.named 7) r.1.Server.aY.cW,.arr .fix .i6 r.1.Server.Seen,.al (.named 9) r.1.Server.Told])) (fun t=> .ret (.panic (.fD 213 (.nv 16 N.fa.mk)),[.bx (yn t.1 5 6 7 8),.arr .bc .str t.2.1,.arr .bc (.named 0) t.2.2,.arr .bc (.named 2) l,.arr .bc (.named 3) m,.al (.named 6) t.1.Server.aY.bD,.al (.named 7) t.1.Server.aY.cW,.arr .fix .i6 t.1.Server.Seen,.al (.named 9) t.1.Server.Told]))⟩}
theorem acU:aJ Tryz.prog 176 X3.ins:=l4 Tryz.func176 rfl ⟨p43,trivial⟩ trivial trivial (fun _ _ _ _ _ _ _ _ _ _ _ _ _ _ _ _ _=>by show _=_;kernel_rfl)
def Ua:cg E:={S:=[P43],i:=⟨[.ptr 0 [],.v (.named 4)],[.bx (sJ 1 2 3 4 5 6 7 8),.al .str,.al (.named 0),.arr .bc (.named 2),.arr .bc (.named 3),.arr .bc (.named 6),.al (.named 7),.arr .fix .i6,.al (.named 9)],fun s a b c d e f g h j k l m n o p q=> .opt (N.gj N.fuel s (N.ax.mk (N.aG.mk (N.bZ.mk (N.aT.mk j k a b) (N.aI.mk l m c)) (N.bR.mk n o) p q d e f g h) [])) fun x_=>ba x_ (fun r=> .ret (.ret [],[.bx (yn r.1 5 6 7 8),.arr .bc .str r.2.1,.arr .bc (.named 0) r.2.2,.arr .bc (.named 2) l,.arr .bc (.named 3) m,.arr .bc (.named 6) r.1.Server.aY.bD,.al (.named 7) r.1.Server.aY.cW,.arr .fix .i6 r.1.Server.Seen,.al (.named 9) r.1.Server.Told])) (fun t=> .ret (.panic (.fD 213 (.nv 16 N.fa.mk)),[.bx (yn t.1 5 6 7 8),.arr .bc .str t.2.1,.arr .bc (.named 0) t.2.2,.arr .bc (.named 2) l,.arr .bc (.named 3) m,.arr .bc (.named 6) t.1.Server.aY.bD,.al (.named 7) t.1.Server.aY.cW,.arr .fix .i6 t.1.Server.Seen,.al (.named 9) t.1.Server.Told]))⟩}
theorem Wp:aJ Tryz.prog 176 Ua.ins:=l4 Tryz.func176 rfl ⟨p43,trivial⟩ trivial trivial (fun _ _ _ _ _ _ _ _ _ _ _ _ _ _ _ _ _=>by show _=_;kernel_rfl)
def TG:SP:=(176,.full [.ptr,.data (.named 4)] false (cC [X3.ins,Ua.ins]))
theorem U1:OK TG:=bn ok Tryz.call176 ⟨acU,Wp,trivial⟩
def X2:cg E:={S:=[Uw],aM:=true,i:=⟨[.ptr 0 [],.v (.named 12),.v (.named 3)],[.bx (ML 1 2 3 4),.al (.named 6),.al (.named 7),.arr .fix .i6,.al (.named 9)],fun a m b c d e f g h j k l=> .opt (N.gK a m (N.ax.mk (N.aG.mk b (N.bR.mk h j) k l c d e f g) [])) fun x_=> .ret (.ret [],[.bx (Ij x_ 1 2 3 4 10),.al (.named 6) x_.Server.aY.bD,.al (.named 7) x_.Server.aY.cW,.arr .fix .i6 x_.Server.Seen,.al (.named 9) x_.Server.Told,.dead,.dead,.dead,.dead,.dead,.al (.named 9) x_.told])⟩}
theorem acT:aJ Tryz.prog 177 X2.ins:=l4 Tryz.func177 rfl ⟨US,trivial⟩ trivial trivial (fun _ _ _ _ _ _ _ _ _ _ _ _=>by show _=_;kernel_rfl)
def T9:cg E:={S:=[Uw],aM:=true,i:=⟨[.ptr 0 [],.v (.named 12),.v (.named 3)],[.bx (MK 1 2),.arr .fix .i6,.al (.named 9)],fun a m b c d e f g h j k=> .opt (N.gK a m (N.ax.mk (N.aG.mk b c j k d e f g h) [])) fun x_=> .ret (.ret [],[.bx (Ga x_ 1 2 8),.arr .fix .i6 x_.Server.Seen,.al (.named 9) x_.Server.Told,.dead,.dead,.dead,.dead,.dead,.al (.named 9) x_.told])⟩}
theorem Wo:aJ Tryz.prog 177 T9.ins:=l4 Tryz.func177 rfl ⟨US,trivial⟩ trivial trivial (fun _ _ _ _ _ _ _ _ _ _ _=>by show _=_;kernel_rfl)
def TF:SP:=(177,.full [.ptr,.data (.named 12),.data (.named 3)] false (cC [X2.ins,T9.ins]))
theorem U0:OK TF:=bn ok Tryz.call177 ⟨acT,Wo,trivial⟩
def x94:cg E:={S:=[aax,TG,TF],aM:=true,i:=⟨[.ptr 0 [],.v (.named 12)],[.bx (sJ 1 2 3 4 5 6 7 8),.al .str,.al (.named 0),.al (.named 2),.al (.named 3),.al (.named 6),.al (.named 7),.arr .fix .i6,.al (.named 9)],fun a b c d e f g h j k l m n o p q r=> .opt (N.lC N.fuel a (N.ax.mk (N.aG.mk (N.bZ.mk (N.aT.mk k l b c) (N.aI.mk m n d)) (N.bR.mk o p) q r e f g h j) [])) fun x_=>ba x_ (fun s=> .ret (.ret [],[.bx (Ij s.1 5 6 7 8 17),.arr .bc .str s.2.1,.arr .bc (.named 0) s.2.2.1,.arr .bc (.named 2) s.2.2.2.1,.arr .bc (.named 3) s.2.2.2.2,.al (.named 6) s.1.Server.aY.bD,.al (.named 7) s.1.Server.aY.cW,.arr .fix .i6 s.1.Server.Seen,.al (.named 9) s.1.Server.Told,.dead,.dead,.dead,.dead,.dead,.dead,.dead,.dead,.al (.named 9) s.1.told])) (fun t=> .ret (.panic (.fD 213 (.nv 16 N.fa.mk)),[.bx (yn t.1 5 6 7 8),.arr .bc .str t.2.1,.arr .bc (.named 0) t.2.2.1,.arr .bc (.named 2) t.2.2.2.1,.arr .bc (.named 3) t.2.2.2.2,.al (.named 6) t.1.Server.aY.bD,.al (.named 7) t.1.Server.aY.cW,.arr .fix .i6 t.1.Server.Seen,.al (.named 9) t.1.Server.Told,.dead,.dead,.dead]))⟩}
theorem y94:aJ Tryz.prog 94 x94.ins:=l4 Tryz.func94 rfl ⟨aeL,U1,U0,trivial⟩ trivial trivial (fun _ _ _ _ _ _ _ _ _ _ _ _ _ _ _ _ _=>by show _=_;kernel_rfl)
def P94:SP:=(94,.full [.ptr,.data (.named 12)] false (cC [x94.ins]))
theorem p94:OK P94:=bn ok Tryz.call94 ⟨y94,trivial⟩
def Yn:cg E:={i:=⟨[.ptr 0 [],.iv],[.bx (sJ 1 2 3 4 5 6 7 8),.al .str,.al (.named 0),.al (.named 2),.al (.named 3),.al (.named 6),.al (.named 7),.arr .fix .i6,.al (.named 9)],fun n a b c d e f g h j k l m o p q r=> .opt (N.ir n (N.ax.mk (N.aG.mk (N.bZ.mk (N.aT.mk j k a b) (N.aI.mk l m c)) (N.bR.mk o p) q r d e f g h) [])) fun x_=> .ret (.ret [.bv x_],[.bx (.agg 13 [.agg 10 [.agg 5 [.agg 1 [.own 1,.own 2,.iv a,.bv b],.agg 4 [.own 3,.own 4,.iv c]],.agg 8 [.own 5,.own 6],.own 7,.own 8,.iv d,.iv e,.iv f,.bv g,.iv h],.bm]),.al .str j,.al (.named 0) k,.al (.named 2) l,.al (.named 3) m,.al (.named 6) o,.al (.named 7) p,.arr .fix .i6 q,.al (.named 9) r])⟩}
theorem adg:aJ Tryz.prog 152 Yn.ins:=l4 Tryz.func152 rfl trivial trivial trivial (fun _ _ _ _ _ _ _ _ _ _ _ _ _ _ _ _ _=>by show _=_;kernel_rfl)
def Ui:cg E:={i:=⟨[.ptr 0 [],.iv],[.bx (HJ 1 2 3 4 5 6),.al .str,.al (.named 0),.al (.named 2),.al (.named 3),.arr .fix .i6,.al (.named 9)],fun n a b c d e f g h j k l m o p q=> .opt (N.ir n (N.ax.mk (N.aG.mk (N.bZ.mk (N.aT.mk k l a b) (N.aI.mk m o c)) d p q e f g h j) [])) fun x_=> .ret (.ret [.bv x_],[.bx (.agg 13 [.agg 10 [.agg 5 [.agg 1 [.own 1,.own 2,.iv a,.bv b],.agg 4 [.own 3,.own 4,.iv c]],.nv 8 d,.own 5,.own 6,.iv e,.iv f,.iv g,.bv h,.iv j],.bm]),.al .str k,.al (.named 0) l,.al (.named 2) m,.al (.named 3) o,.arr .fix .i6 p,.al (.named 9) q])⟩}
theorem Wx:aJ Tryz.prog 152 Ui.ins:=l4 Tryz.func152 rfl trivial trivial trivial (fun _ _ _ _ _ _ _ _ _ _ _ _ _ _ _ _=>by show _=_;kernel_rfl)
def TJ:SP:=(152,.full [.ptr,.data .i6] false (cC [Yn.ins,Ui.ins]))
theorem U2:OK TJ:=bn ok Tryz.call152 ⟨adg,Wx,trivial⟩
def W8:cg E:={i:=⟨[.v (.named 6),.ptr 0 []],[.box true (.iv)],fun x o0=> .xa (.ret (N.eR x o0)) fun x_=> .ret (.ret [.bv x_],[.box true (.iv o0)])⟩}
theorem abU:aJ Tryz.prog 273 W8.ins:=go Tryz.func273 rfl trivial trivial trivial (fun _ _=>by show _=_;kernel_rfl)
def VA:SP:=(273,.full [.data (.named 6),.ptr] true (cC [W8.ins]))
theorem Y5:OK VA:=bn ok Tryz.call273 ⟨abU,trivial⟩
def WN:cg E:={i:=⟨[.v (.named 6),.ptr 0 [],.ptr 1 []],[.box true (.iv),.box true (.iv)],fun x o0 o1=> .xa (N.qi x o0 o1) fun x_=> .ret (.ret [.bv x_],[.box true (.iv o0),.box true (.iv o1)])⟩}
theorem abG:aJ Tryz.prog 294 WN.ins:=go Tryz.func294 rfl trivial trivial trivial (fun _ _ _=>by show _=_;kernel_rfl)
def Vu:SP:=(294,.full [.data (.named 6),.ptr,.ptr] true (cC [WN.ins]))
theorem YZ:OK Vu:=bn ok Tryz.call294 ⟨abG,trivial⟩
def WK:cg E:={S:=[VA],ls:=[{ks:=[0,1,7,8],rs:=[4],ins:=some [⟨[.v (.slice (.named 6)),.fn 273 [.ptr 0 []],.iv,.iv],[.box true (.iv)],fun s t7 t8 o0=>⟨t8,N.kc s t7 o0,fun v_=>([.val (.slice (.named 6)) s,.fn 273 [.ptr 0 []],.iv t7,.iv v_],[.box true (.iv o0)]),fun x_=>ba x_ (fun a=> .ret (.ret,[.iv a],[.box true (.iv o0)])) (fun b=> .ret (.exit 0,[.undef],[.box true (.iv o0)]))⟩⟩]}],i:=⟨[.v (.slice (.named 6)),.fn 273 [.ptr 0 []]],[.box true (.iv)],fun s o0=> .opt (N.gY N.fuel s o0) fun x_=> .ret (.ret [.iv x_],[.box true (.iv o0)])⟩}
theorem abD:aJ Tryz.prog 304 WK.ins:=go Tryz.func304 rfl ⟨Y5,trivial⟩ trivial ⟨⟨fun _ _ _ _=>⟨rfl,fun _=>by show _=_;kernel_rfl⟩,trivial⟩,trivial⟩ (fun _ _=>by show _=_;kernel_rfl)
def TX:cg E:={S:=[Vu],ls:=[{ks:=[0,1,7,8],rs:=[4],ins:=some [⟨[.v (.slice (.named 6)),.fn 294 [.ptr 0 [],.ptr 1 []],.iv,.iv],[.box true (.iv),.box true (.iv)],fun s t7 t8 o0 o1=>⟨t8,N.jr s t7 o0 o1,fun v_=>([.val (.slice (.named 6)) s,.fn 294 [.ptr 0 [],.ptr 1 []],.iv t7,.iv v_],[.box true (.iv o0),.box true (.iv o1)]),fun x_=>ba x_ (fun a=> .ret (.ret,[.iv a],[.box true (.iv o0),.box true (.iv o1)])) (fun b=> .ret (.exit 0,[.undef],[.box true (.iv o0),.box true (.iv o1)]))⟩⟩]}],i:=⟨[.v (.slice (.named 6)),.fn 294 [.ptr 0 [],.ptr 1 []]],[.box true (.iv),.box true (.iv)],fun s o0 o1=> .opt (N.fU N.fuel s o0 o1) fun x_=> .ret (.ret [.iv x_],[.box true (.iv o0),.box true (.iv o1)])⟩}
theorem Wa:aJ Tryz.prog 304 TX.ins:=go Tryz.func304 rfl ⟨YZ,trivial⟩ trivial ⟨⟨fun _ _ _ _ _=>⟨rfl,fun _=>by show _=_;kernel_rfl⟩,trivial⟩,trivial⟩ (fun _ _ _=>by show _=_;kernel_rfl)
def Vt:SP:=(304,.full [.data (.slice (.named 6)),.func] true (cC [WK.ins,TX.ins]))
theorem YY:OK Vt:=bn ok Tryz.call304 ⟨abD,Wa,trivial⟩
def Mr:cg E:={S:=[VA,Vt],ls:=[{ks:=[0,1,4,5,6],rs:=[0,4,5],ins:=some [⟨[.own 0,.fn 273 [.ptr 1 []],.bm,.iv,.iv],[.al (.named 6),.bx (.iv)],fun i j s o1=>⟨(i,j,s),N.jS o1,fun v_=>([.own 0,.fn 273 [.ptr 1 []],.bm,.iv v_.1,.iv v_.2.1],[.al (.named 6) v_.2.2,.bx (.iv o1)]),fun x_=> .ret (.exit 0,[.own 0,.bm,.iv x_.1],[.al (.named 6) x_.2,.bx (.iv o1)])⟩⟩]}],aM:=true,i:=⟨[.own 0,.fn 273 [.ptr 1 []]],[.al (.named 6),.bx (.iv)],fun r0 o1=> .opt (N.gx N.fuel o1 r0) fun x_=> .ret (.ret [.own 0],[.al (.named 6) x_,.bx (.iv o1)])⟩}
theorem abV:aJ Tryz.prog 272 Mr.ins:=vV (B:=Fh (Gy E (jY Mr.S) (Mr.L Tryz.f272) 4 (.named 6) Tryz.f272)) (EI ok (Dx sound mix (S:=Mr.S) ⟨Y5,YY,trivial⟩ (L:=Mr.L Tryz.f272) (m:=4) (TL:=34) (TE:=72) Tryz.func272 rfl (by kernel_rfl) (uG (x:=Mr) ⟨⟨fun _ _ _ _=>⟨rfl,fun _=>by show _=_;kernel_rfl⟩,trivial⟩,trivial⟩) Tryz.underlying34 rfl (fun h=>nomatch h) N0)) (fun _ _=>by show _=_;kernel_rfl)
def E9:cg E:={S:=[Vu,Vt],ls:=[{ks:=[0,1,4,5,6],rs:=[0,4,5],ins:=some [⟨[.own 0,.fn 294 [.ptr 1 [],.ptr 2 []],.bm,.iv,.iv],[.al (.named 6),.bx (.iv),.bx (.iv)],fun i j s o1 o2=>⟨(i,j,s),N.iQ o1 o2,fun v_=>([.own 0,.fn 294 [.ptr 1 [],.ptr 2 []],.bm,.iv v_.1,.iv v_.2.1],[.al (.named 6) v_.2.2,.bx (.iv o1),.bx (.iv o2)]),fun x_=> .ret (.exit 0,[.own 0,.bm,.iv x_.1],[.al (.named 6) x_.2,.bx (.iv o1),.bx (.iv o2)])⟩⟩]}],aM:=true,i:=⟨[.own 0,.fn 294 [.ptr 1 [],.ptr 2 []]],[.al (.named 6),.bx (.iv),.bx (.iv)],fun r0 o1 o2=> .opt (N.fI N.fuel o1 o2 r0) fun x_=> .ret (.ret [.own 0],[.al (.named 6) x_,.bx (.iv o1),.bx (.iv o2)])⟩}
theorem We:aJ Tryz.prog 272 E9.ins:=vV (B:=Fh (Gy E (jY E9.S) (E9.L Tryz.f272) 4 (.named 6) Tryz.f272)) (EI ok (Dx sound mix (S:=E9.S) ⟨YZ,YY,trivial⟩ (L:=E9.L Tryz.f272) (m:=4) (TL:=34) (TE:=72) Tryz.func272 rfl (by kernel_rfl) (uG (x:=E9) ⟨⟨fun _ _ _ _ _=>⟨rfl,fun _=>by show _=_;kernel_rfl⟩,trivial⟩,trivial⟩) Tryz.underlying34 rfl (fun h=>nomatch h) N0)) (fun _ _ _=>by show _=_;kernel_rfl)
def VB:SP:=(272,.full [.ptr,.func] false (cC [Mr.ins,E9.ins]))
theorem Y6:OK VB:=bn ok Tryz.call272 ⟨abV,We,trivial⟩
def XM:cg E:={S:=[VB,ZN],i:=cu [(.slice (.named 6)),.i6] [(.slice (.named 6))] (N.tG N.fuel)}
theorem acD:aJ Tryz.prog 216 XM.ins:=go Tryz.func216 rfl ⟨Y6,p84,trivial⟩ trivial trivial (fun _ _=>by show _=_;kernel_rfl)
def aal:SP:=(216,.pure [(.slice (.named 6)),.i6] (bj [XM.ins]))
theorem aex:OK aal:=aH Tryz.call216 ⟨acD,trivial⟩
def Yt:cg E:={S:=[aal,Vs],i:=cu [(.named 8),.i6] [(.named 8)] (N.tW N.fuel)}
theorem adm:aJ Tryz.prog 144 Yt.ins:=go Tryz.func144 rfl ⟨aex,V6,trivial⟩ trivial trivial (fun _ _=>by show _=_;kernel_rfl)
def aaN:SP:=(144,.pure [(.named 8),.i6] (bj [Yt.ins]))
theorem af5:OK aaN:=aH Tryz.call144 ⟨adm,trivial⟩
def WJ:cg E:={i:=⟨[.iv],[],fun x=> .xa (.ret (N.l6 x)) fun x_=> .ret (.ret [.bv x_],[])⟩}
theorem abC:aJ Tryz.prog 307 WJ.ins:=go Tryz.func307 rfl trivial trivial trivial (fun _=>by show _=_;kernel_rfl)
def ZU:SP:=(307,.pure [.i6] (bj [WJ.ins]))
theorem adT:OK ZU:=aH Tryz.call307 ⟨abC,trivial⟩
def W5:cg E:={S:=[ZU],i:=⟨[.iv,.iv],[],fun x y=> .xa (N.nX x y) fun x_=> .ret (.ret [.iv x_],[])⟩}
theorem abS:aJ Tryz.prog 276 W5.ins:=go Tryz.func276 rfl ⟨adT,trivial⟩ trivial trivial (fun _ _=>by show _=_;kernel_rfl)
def Z2:SP:=(276,.pure [.i6,.i6] (bj [W5.ins]))
theorem ae3:OK Z2:=aH Tryz.call276 ⟨abS,trivial⟩
def W7:cg E:={ls:=[{ks:=[3,6,7,8],rs:=[2,3],ins:=some [⟨[.iv,.v (.slice .i6),.iv,.iv],[],fun a t6 t7 t8=>⟨t8,N.yH a t6 t7,fun v_=>([.iv a,.val (.slice .i6) t6,.iv t7,.iv v_],[]),fun x_=>ba x_ (fun b=> .ret (.ret,[.iv b,.iv a],[])) (fun c=> .ret (.exit 0,[.undef,.iv a],[]))⟩⟩]}],i:=cu [(.slice .i6)] [.i6] (N.wC N.fuel)}
theorem abT:aJ Tryz.prog 275 W7.ins:=go Tryz.func275 rfl trivial trivial ⟨⟨fun _ _ _ _=>⟨rfl,fun _=>by show _=_;kernel_rfl⟩,trivial⟩,trivial⟩ (fun _=>by show _=_;kernel_rfl)
def Z3:SP:=(275,.pure [(.slice .i6)] (bj [W7.ins]))
theorem ae4:OK Z3:=aH Tryz.call275 ⟨abT,trivial⟩
def XH:cg E:={S:=[Z3,Z2],i:=cu [(.named 6),(.named 6)] [.i6] (N.tF N.fuel)}
theorem acy:aJ Tryz.prog 222 XH.ins:=go Tryz.func222 rfl ⟨ae4,ae3,trivial⟩ trivial trivial (fun _ _=>by show _=_;kernel_rfl)
def aai:SP:=(222,.pure [(.named 6),(.named 6)] (bj [XH.ins]))
theorem aeu:OK aai:=aH Tryz.call222 ⟨acy,trivial⟩
def XI:cg E:={S:=[aai],ls:=[{ks:=[0,2,4,8,9,10],rs:=[0,2,4,6,7,8,9],ins:=some [⟨[.v (.slice (.named 6)),.fn 222 [],.ptr 0 [],.iv,.iv,.iv],[.bx (.v (.named 6))],fun x n i j a=>⟨(i,j),N.eC N.fuel x n a,fun v_=>([.val (.slice (.named 6)) x,.fn 222 [],.ptr 0 [],.iv n,.iv v_.1,.iv v_.2],[.bx (.nv 6 a)]),fun x_=> .ret (.exit 0,[.val (.slice (.named 6)) x,.fn 222 [],.ptr 0 [],.undef,.undef,.iv n,.iv x_],[.bx (.nv 6 a)])⟩⟩]}],i:=⟨[.v (.slice (.named 6)),.v (.named 6),.fn 222 []],[],fun x a=> .opt (N.e8 N.fuel x a) fun x_=> .ret (.ret [.iv x_.1,.bv x_.2],[])⟩}
theorem acz:aJ Tryz.prog 221 XI.ins:=go Tryz.func221 rfl ⟨aeu,trivial⟩ trivial ⟨⟨fun _ _ _ _ _=>⟨rfl,fun _=>by show _=_;kernel_rfl⟩,trivial⟩,trivial⟩ (fun _ _=>by show _=_;kernel_rfl)
def VI:SP:=(221,.full [.data (.slice (.named 6)),.data (.named 6),.func] true (cC [XI.ins]))
theorem Zd:OK VI:=bn ok Tryz.call221 ⟨acz,trivial⟩
def Yo:cg E:={S:=[VI],i:=cu [(.slice (.named 6)),.i6,.i6,.i6] [.i6] (N.tH N.fuel)}
theorem adh:aJ Tryz.prog 151 Yo.ins:=go Tryz.func151 rfl ⟨Zd,trivial⟩ trivial trivial (fun _ _ _ _=>by show _=_;kernel_rfl)
def TM:SP:=(151,.pure [(.slice (.named 6)),.i6,.i6,.i6] (bj [Yo.ins]))
theorem U3:OK TM:=aH Tryz.call151 ⟨adh,trivial⟩
def XJ:cg E:={S:=[TM],ls:=[{ks:=[0,1,2,3,4,10,14,15,16],rs:=[10],xM:=[.xM (.slot 10) [] .i6],ins:=some [⟨[.v (.slice (.named 6)),.iv,.iv,.iv,.iv,.own 0,.v (.slice (.named 6)),.iv,.iv],[.al .i6],fun l a b c d e f g h=>⟨(g,h),N.qj N.fuel l a b c d e f,fun v_=>([.val (.slice (.named 6)) l,.iv a,.iv b,.iv c,.iv d,.own 0,.val (.slice (.named 6)) e,.iv f,.iv v_.1],[.al .i6 v_.2]),fun x_=> .ret (.exit 0,[.own 0],[.al .i6 x_])⟩⟩]}],i:=cu [(.slice (.named 6)),.i6,.i6,.i6,.i6] [(.slice .i6)] (N.tJ N.fuel)}
theorem acA:aJ Tryz.prog 219 XJ.ins:=go Tryz.func219 rfl ⟨U3,trivial⟩ trivial ⟨⟨fun _ _ _ _ _ _ _ _ _=>⟨rfl,fun _=>by show _=_;kernel_rfl⟩,trivial⟩,trivial⟩ (fun _ _ _ _ _=>by show _=_;kernel_rfl)
def VJ:SP:=(219,.pure [(.slice (.named 6)),.i6,.i6,.i6,.i6] (bj [XJ.ins]))
theorem Ze:OK VJ:=aH Tryz.call219 ⟨acA,trivial⟩
def Yp:cg E:={S:=[VJ],i:=cu [(.named 8),.i6,(.named 7)] [(.slice .i6)] (N.qN N.fuel)}
theorem adi:aJ Tryz.prog 149 Yp.ins:=go Tryz.func149 rfl ⟨Ze,trivial⟩ trivial trivial (fun _ _ _=>by show _=_;kernel_rfl)
def VV:SP:=(149,.pure [(.named 8),.i6,(.named 7)] (bj [Yp.ins]))
theorem Zt:OK VV:=aH Tryz.call149 ⟨adi,trivial⟩
def XL:cg E:={ls:=[{ks:=[1,2,9,10,11],rs:=[6],ins:=some [⟨[.iv,.iv,.v (.slice (.named 7)),.iv,.iv],[],fun a b t9 c d=>⟨d,N.rV a b t9 c,fun v_=>([.iv a,.iv b,.val (.slice (.named 7)) t9,.iv c,.iv v_],[]),fun x_=>ba x_ (fun e=> .ret (.ret,[.bv e.1],[.bx (.nv 7 e.2)])) (fun f=> .ret (.exit 0,[.undef],[]))⟩⟩]}],i:=cu [(.slice (.named 7)),.i6,.i6] [.bool] (N.vE N.fuel)}
theorem acC:aJ Tryz.prog 217 XL.ins:=go Tryz.func217 rfl trivial trivial ⟨⟨fun _ _ _ _ _=>⟨rfl,fun _=>by show _=_;kernel_rfl⟩,trivial⟩,trivial⟩ (fun _ _ _=>by show _=_;kernel_rfl)
def aak:SP:=(217,.pure [(.slice (.named 7)),.i6,.i6] (bj [XL.ins]))
theorem aew:OK aak:=aH Tryz.call217 ⟨acC,trivial⟩
def Yr:cg E:={S:=[VV,aak],i:=cu [(.named 8),.i6,(.named 7)] [.bool] (N.A8 N.fuel)}
theorem adk:aJ Tryz.prog 147 Yr.ins:=go Tryz.func147 rfl ⟨Zt,aew,trivial⟩ trivial trivial (fun _ _ _=>by show _=_;kernel_rfl)
def aaM:SP:=(147,.pure [(.named 8),.i6,(.named 7)] (bj [Yr.ins]))
theorem af4:OK aaM:=aH Tryz.call147 ⟨adk,trivial⟩
def x45:cg E:={i:=⟨[.iv,.iv],[],fun a b=> .xa (N.yJ a b) fun x_=> .ret (.ret [.iv x_],[])⟩}
theorem y45:aJ Tryz.prog 45 x45.ins:=go Tryz.func45 rfl trivial trivial trivial (fun _ _=>by show _=_;kernel_rfl)
def P45:SP:=(45,.pure [.i6,.i6] (bj [x45.ins]))
theorem p45:OK P45:=aH Tryz.call45 ⟨y45,trivial⟩
def Z4:SP:=(274,.full [.ptr,.data .i6,.data (.slice (.named 6))] false (Nb E (.named 6)))
theorem Vr:4=E.size (.named 6):=rfl
theorem ae5:OK Z4:=⟨Tryz.call274,U9 sound (TL:=34) (TE:=72) (TI:=3) (z0:=Option.get (fo E depth (.named 6)) rfl) Tryz.underlying34 rfl rfl (fun h=>nomatch h) rfl (by decide) (Vr▸⟨Lb,fun g n c i vb voff vc h1 h2 h3 h4 w W1 W2 k1 k2 cA cB tA tB fA fB ha hb hA hf c1 c2=>Jz g n c i vb voff vc h1 h2 h3 h4 w W1 W2 k1 k2 ha hb hA hf c1 c2,JA⟩)⟩
def XK:cg E:={S:=[VI,Z4,ZN],i:=cu [(.slice (.named 6)),(.named 6)] [(.slice (.named 6))] (N.tI N.fuel)}
theorem acB:aJ Tryz.prog 218 XK.ins:=go Tryz.func218 rfl ⟨Zd,ae5,p84,trivial⟩ trivial trivial (fun _ _=>by show _=_;kernel_rfl)
def aaj:SP:=(218,.pure [(.slice (.named 6)),(.named 6)] (bj [XK.ins]))
theorem aev:OK aaj:=aH Tryz.call218 ⟨acB,trivial⟩
def Xd:cg E:={i:=⟨[.v (.named 7),.ptr 0 []],[.box true (.iv)],fun w o0=> .xa (.ret (N.fL w o0)) fun x_=> .ret (.ret [.bv x_],[.box true (.iv o0)])⟩}
theorem ac0:aJ Tryz.prog 261 Xd.ins:=go Tryz.func261 rfl trivial trivial trivial (fun _ _=>by show _=_;kernel_rfl)
def VC:SP:=(261,.full [.data (.named 7),.ptr] true (cC [Xd.ins]))
theorem Y7:OK VC:=bn ok Tryz.call261 ⟨ac0,trivial⟩
def WH:cg E:={i:=⟨[.v (.named 7),.ptr 0 []],[.box true (.iv)],fun w o0=> .xa (.ret (N.lX w o0)) fun x_=> .ret (.ret [.bv x_],[.box true (.iv o0)])⟩}
theorem abA:aJ Tryz.prog 311 WH.ins:=go Tryz.func311 rfl trivial trivial trivial (fun _ _=>by show _=_;kernel_rfl)
def ZS:SP:=(311,.full [.data (.named 7),.ptr] true (cC [WH.ins]))
theorem adR:OK ZS:=bn ok Tryz.call311 ⟨abA,trivial⟩
def Xg:cg E:={i:=⟨[.v (.named 7),.ptr 0 [],.ptr 1 []],[.box true (.iv),.box true (.iv)],fun w o0 o1=> .xa (N.iH w o0 o1) fun x_=> .ret (.ret [.bv x_],[.box true (.iv o0),.box true (.iv o1)])⟩}
theorem ac4:aJ Tryz.prog 257 Xg.ins:=go Tryz.func257 rfl trivial trivial trivial (fun _ _ _=>by show _=_;kernel_rfl)
def aa0:SP:=(257,.full [.data (.named 7),.ptr,.ptr] true (cC [Xg.ins]))
theorem aec:OK aa0:=bn ok Tryz.call257 ⟨ac4,trivial⟩
def Ys:cg E:={S:=[VC],ls:=[{ks:=[0,1,7,8],rs:=[4],ins:=some [⟨[.v (.slice (.named 7)),.fn 261 [.ptr 0 []],.iv,.iv],[.box true (.iv)],fun s t7 t8 o0=>⟨t8,N.ll s t7 o0,fun v_=>([.val (.slice (.named 7)) s,.fn 261 [.ptr 0 []],.iv t7,.iv v_],[.box true (.iv o0)]),fun x_=>ba x_ (fun a=> .ret (.ret,[.iv a],[.box true (.iv o0)])) (fun b=> .ret (.exit 0,[.undef],[.box true (.iv o0)]))⟩⟩]}],i:=⟨[.v (.slice (.named 7)),.fn 261 [.ptr 0 []]],[.box true (.iv)],fun s o0=> .opt (N.iD N.fuel s o0) fun x_=> .ret (.ret [.iv x_],[.box true (.iv o0)])⟩}
theorem adl:aJ Tryz.prog 145 Ys.ins:=go Tryz.func145 rfl ⟨Y7,trivial⟩ trivial ⟨⟨fun _ _ _ _=>⟨rfl,fun _=>by show _=_;kernel_rfl⟩,trivial⟩,trivial⟩ (fun _ _=>by show _=_;kernel_rfl)
def Uk:cg E:={S:=[ZS],ls:=[{ks:=[0,1,7,8],rs:=[4],ins:=some [⟨[.v (.slice (.named 7)),.fn 311 [.ptr 0 []],.iv,.iv],[.box true (.iv)],fun s t7 t8 o0=>⟨t8,N.jO s t7 o0,fun v_=>([.val (.slice (.named 7)) s,.fn 311 [.ptr 0 []],.iv t7,.iv v_],[.box true (.iv o0)]),fun x_=>ba x_ (fun a=> .ret (.ret,[.iv a],[.box true (.iv o0)])) (fun b=> .ret (.exit 0,[.undef],[.box true (.iv o0)]))⟩⟩]}],i:=⟨[.v (.slice (.named 7)),.fn 311 [.ptr 0 []]],[.box true (.iv)],fun s o0=> .opt (N.gr N.fuel s o0) fun x_=> .ret (.ret [.iv x_],[.box true (.iv o0)])⟩}
theorem Wz:aJ Tryz.prog 145 Uk.ins:=go Tryz.func145 rfl ⟨adR,trivial⟩ trivial ⟨⟨fun _ _ _ _=>⟨rfl,fun _=>by show _=_;kernel_rfl⟩,trivial⟩,trivial⟩ (fun _ _=>by show _=_;kernel_rfl)
def Uj:cg E:={S:=[aa0],ls:=[{ks:=[0,1,7,8],rs:=[4],ins:=some [⟨[.v (.slice (.named 7)),.fn 257 [.ptr 0 [],.ptr 1 []],.iv,.iv],[.box true (.iv),.box true (.iv)],fun s t7 t8 o0 o1=>⟨t8,N.jN s t7 o0 o1,fun v_=>([.val (.slice (.named 7)) s,.fn 257 [.ptr 0 [],.ptr 1 []],.iv t7,.iv v_],[.box true (.iv o0),.box true (.iv o1)]),fun x_=>ba x_ (fun a=> .ret (.ret,[.iv a],[.box true (.iv o0),.box true (.iv o1)])) (fun b=> .ret (.exit 0,[.undef],[.box true (.iv o0),.box true (.iv o1)]))⟩⟩]}],i:=⟨[.v (.slice (.named 7)),.fn 257 [.ptr 0 [],.ptr 1 []]],[.box true (.iv),.box true (.iv)],fun s o0 o1=> .opt (N.gq N.fuel s o0 o1) fun x_=> .ret (.ret [.iv x_],[.box true (.iv o0),.box true (.iv o1)])⟩}
theorem Wy:aJ Tryz.prog 145 Uj.ins:=go Tryz.func145 rfl ⟨aec,trivial⟩ trivial ⟨⟨fun _ _ _ _ _=>⟨rfl,fun _=>by show _=_;kernel_rfl⟩,trivial⟩,trivial⟩ (fun _ _ _=>by show _=_;kernel_rfl)
def TN:SP:=(145,.full [.data (.slice (.named 7)),.func] true (cC [Ys.ins,Uk.ins,Uj.ins]))
theorem U4:OK TN:=bn ok Tryz.call145 ⟨adl,Wz,Wy,trivial⟩
def Ms:cg E:={S:=[TN,VC],ls:=[{ks:=[0,1,4,5,6],rs:=[0,4,5],ins:=some [⟨[.own 0,.fn 261 [.ptr 1 []],.bm,.iv,.iv],[.al (.named 7),.bx (.iv)],fun i j s o1=>⟨(i,j,s),N.kj o1,fun v_=>([.own 0,.fn 261 [.ptr 1 []],.bm,.iv v_.1,.iv v_.2.1],[.al (.named 7) v_.2.2,.bx (.iv o1)]),fun x_=> .ret (.exit 0,[.own 0,.bm,.iv x_.1],[.al (.named 7) x_.2,.bx (.iv o1)])⟩⟩]}],aM:=true,i:=⟨[.own 0,.fn 261 [.ptr 1 []]],[.al (.named 7),.bx (.iv)],fun r0 o1=> .opt (N.hH N.fuel o1 r0) fun x_=> .ret (.ret [.own 0],[.al (.named 7) x_,.bx (.iv o1)])⟩}
theorem ac1:aJ Tryz.prog 260 Ms.ins:=vV (B:=Fh (Gy E (jY Ms.S) (Ms.L Tryz.f260) 4 (.named 7) Tryz.f260)) (EI ok (Dx sound mix (S:=Ms.S) ⟨U4,Y7,trivial⟩ (L:=Ms.L Tryz.f260) (m:=4) (TL:=35) (TE:=86) Tryz.func260 rfl (by kernel_rfl) (uG (x:=Ms) ⟨⟨fun _ _ _ _=>⟨rfl,fun _=>by show _=_;kernel_rfl⟩,trivial⟩,trivial⟩) Tryz.underlying35 rfl (fun h=>nomatch h) Sy)) (fun _ _=>by show _=_;kernel_rfl)
def VD:SP:=(260,.full [.ptr,.func] false (cC [Ms.ins]))
theorem Y8:OK VD:=bn ok Tryz.call260 ⟨ac1,trivial⟩
def XW:cg E:={S:=[VD,Vs],i:=cu [(.slice (.named 7)),.i6] [(.slice (.named 7))] (N.sV N.fuel)}
theorem acN:aJ Tryz.prog 183 XW.ins:=go Tryz.func183 rfl ⟨Y8,V6,trivial⟩ trivial trivial (fun _ _=>by show _=_;kernel_rfl)
def VN:SP:=(183,.pure [(.slice (.named 7)),.i6] (bj [XW.ins]))
theorem Zk:OK VN:=aH Tryz.call183 ⟨acN,trivial⟩
def Yq:cg E:={S:=[VN,aaj,P45],i:=cu [(.named 8),.i6,(.named 7)] [(.named 8)] (N.yz N.fuel)}
theorem adj:aJ Tryz.prog 148 Yq.ins:=go Tryz.func148 rfl ⟨Zk,aev,p45,trivial⟩ trivial trivial (fun _ _ _=>by show _=_;kernel_rfl)
def aaL:SP:=(148,.pure [(.named 8),.i6,(.named 7)] (bj [Yq.ins]))
theorem af3:OK aaL:=aH Tryz.call148 ⟨adj,trivial⟩
def WR:cg E:={S:=[TN],i:=cu [(.slice (.named 7)),.i6] [.i6] (N.vD N.fuel)}
theorem abJ:aJ Tryz.prog 291 WR.ins:=go Tryz.func291 rfl ⟨U4,trivial⟩ trivial trivial (fun _ _=>by show _=_;kernel_rfl)
def ZY:SP:=(291,.pure [(.slice (.named 7)),.i6] (bj [WR.ins]))
theorem adX:OK ZY:=aH Tryz.call291 ⟨abJ,trivial⟩
def T8:cg E:={S:=[VD,Vs],aM:=true,i:=⟨[.v (.slice (.named 7)),.iv],[],fun l a=> .opt (N.sV N.fuel l a) fun x_=> .ret (.ret [.own 1],[.dead,.al (.named 7) x_])⟩}
theorem Wn:aJ Tryz.prog 183 T8.ins:=l4 Tryz.func183 rfl ⟨Y8,V6,trivial⟩ trivial trivial (fun _ _=>by show _=_;kernel_rfl)
def Uy:SP:=(183,.full [.data (.slice (.named 7)),.data .i6] false (cC [T8.ins]))
theorem Zj:OK Uy:=bn ok Tryz.call183 ⟨Wn,trivial⟩
def Xo:cg E:={S:=[Uy,ZY,Vs],i:=cu [(.slice (.named 7)),(.named 7)] [(.slice (.named 7)),.bool] (N.AH N.fuel)}
theorem acd:aJ Tryz.prog 249 Xo.ins:=go Tryz.func249 rfl ⟨Zj,adX,V6,trivial⟩ trivial trivial (fun _ _=>by show _=_;kernel_rfl)
def aa5:SP:=(249,.pure [(.slice (.named 7)),(.named 7)] (bj [Xo.ins]))
theorem aeh:OK aa5:=aH Tryz.call249 ⟨acd,trivial⟩
def X1:cg E:={S:=[aaN,aaM,aaL,VV,aa5],i:=cu [(.named 8),.i6,(.named 7)] [(.named 8),.bool,(.slice .i6),.i6] (N.A9 N.fuel)}
theorem acS:aJ Tryz.prog 178 X1.ins:=go Tryz.func178 rfl ⟨af5,af4,af3,Zt,aeh,trivial⟩ trivial trivial (fun _ _ _=>by show _=_;kernel_rfl)
def aaw:SP:=(178,.pure [(.named 8),.i6,(.named 7)] (bj [X1.ins]))
theorem aeK:OK aaw:=aH Tryz.call178 ⟨acS,trivial⟩
def x64:cg E:={S:=[TM,TJ,NR],aM:=true,i:=⟨[.ptr 0 [],.v (.named 7)],[.bx (HJ 1 2 3 4 5 6),.al .str,.al (.named 0),.al (.named 2),.al (.named 3),.arr .fix .i6,.al (.named 9)],fun w a b c d e f g h j k l m n o p=> .opt (N.mo N.fuel w (N.ax.mk (N.aG.mk (N.bZ.mk (N.aT.mk k l a b) (N.aI.mk m n c)) d o p e f g h j) [])) fun x_=>ba x_ (fun q=> .ret (.ret [],[.bx (g13 q 1 2 3 4 5 6 10),.al .str q.Server.aB.D.bz,.al (.named 0) q.Server.aB.D.bM,.al (.named 2) q.Server.aB.S.aQ,.al (.named 3) q.Server.aB.S.Marks,.arr .fix .i6 q.Server.Seen,.al (.named 9) q.Server.Told,.dead,.dead,.dead,.al (.named 9) q.told])) (fun r=> .ret (.ret [],[.bx (g13 r 1 2 3 4 5 6 11),.al .str r.Server.aB.D.bz,.al (.named 0) r.Server.aB.D.bM,.al (.named 2) r.Server.aB.S.aQ,.al (.named 3) r.Server.aB.S.Marks,.arr .fix .i6 r.Server.Seen,.al (.named 9) r.Server.Told,.dead,.dead,.dead,.dead,.al (.named 9) r.told]))⟩}
theorem y64:aJ Tryz.prog 64 x64.ins:=l4 Tryz.func64 rfl ⟨U3,U2,Pl,trivial⟩ trivial trivial (fun _ _ _ _ _ _ _ _ _ _ _ _ _ _ _ _=>by show _=_;kernel_rfl)
def P64:SP:=(64,.full [.ptr,.data (.named 7)] false (cC [x64.ins]))
theorem p64:OK P64:=bn ok Tryz.call64 ⟨y64,trivial⟩
def x65:cg E:={i:=⟨[.ptr 0 [],.iv,.iv],[.bx (N7 1 2 3 4 5 6 7),.al .str,.al (.named 0),.al (.named 2),.al (.named 3),.arr .fix .i6,.al (.named 9),.al (.named 9)],fun a b c d e f g h j k l m n o p q r s=> .opt (N.lE a b (N.ax.mk (N.aG.mk (N.bZ.mk (N.aT.mk m n c d) (N.aI.mk o p e)) f q r g h j k l) s)) fun x_=> .ret (.ret [],[.bx (g13 x_ 1 2 3 4 5 6 7),.al .str x_.Server.aB.D.bz,.al (.named 0) x_.Server.aB.D.bM,.al (.named 2) x_.Server.aB.S.aQ,.al (.named 3) x_.Server.aB.S.Marks,.arr .fix .i6 x_.Server.Seen,.al (.named 9) x_.Server.Told,.al (.named 9) x_.told])⟩}
theorem y65:aJ Tryz.prog 65 x65.ins:=l4 Tryz.func65 rfl trivial trivial trivial (fun _ _ _ _ _ _ _ _ _ _ _ _ _ _ _ _ _ _=>by show _=_;kernel_rfl)
def WG:cg E:={aM:=true,i:=⟨[.ptr 0 [],.iv,.iv],[.bx (HJ 1 2 3 4 5 6),.al .str,.al (.named 0),.al (.named 2),.al (.named 3),.arr .fix .i6,.al (.named 9)],fun a b c d e f g h j k l m n o p q r=> .xa (.ret (N.zu a b (N.ax.mk (N.aG.mk (N.bZ.mk (N.aT.mk m n c d) (N.aI.mk o p e)) f q r g h j k l) []))) fun x_=> .ret (.ret [],[.bx (g13 x_ 1 2 3 4 5 6 7),.al .str x_.Server.aB.D.bz,.al (.named 0) x_.Server.aB.D.bM,.al (.named 2) x_.Server.aB.S.aQ,.al (.named 3) x_.Server.aB.S.Marks,.arr .fix .i6 x_.Server.Seen,.al (.named 9) x_.Server.Told,.al (.named 9) x_.told])⟩}
theorem abz:aJ Tryz.prog 65 WG.ins:=l4 Tryz.func65 rfl trivial trivial trivial (fun _ _ _ _ _ _ _ _ _ _ _ _ _ _ _ _ _=>by show _=_;kernel_rfl)
def P65:SP:=(65,.full [.ptr,.data .i6,.data .i6] false (cC [x65.ins,WG.ins]))
theorem p65:OK P65:=bn ok Tryz.call65 ⟨y65,abz,trivial⟩
def x95:cg E:={S:=[TJ,aaw,P64,P65,Uw],ls:=[{ks:=[0,3,64,65,66],xM:=[.xM (.obj 0) [1] (.named 9)],ins:=some [⟨[.ptr 0 [],.ptr 9 [],.v (.slice .i6),.iv,.iv],[.bx (N7 1 2 3 4 7 8 15),.al .str,.al (.named 0),.al (.named 2),.al (.named 3),.arr .bc (.named 6),.arr .bc (.named 7),.arr .fix .i6,.al (.named 9),.bx (.v (.named 12)),.bx (.v (.named 7)),.bx (.v (.named 8)),.dead,.dead,.dead,.al (.named 9)],fun b c d e f g h j k l m n o p q r r5 r6 s t a u v w=>⟨(d,(N.ax.mk (N.aG.mk (N.bZ.mk (N.aT.mk o p e f) (N.aI.mk q r g)) h s t j k l m n) w)),N.oz b c a u v r5 r6,fun v_=>([.ptr 0 [],.ptr 9 [],.val (.slice .i6) b,.iv c,.iv v_.1],[.bx (g13 v_.2 1 2 3 4 7 8 15),.al .str v_.2.Server.aB.D.bz,.al (.named 0) v_.2.Server.aB.D.bM,.al (.named 2) v_.2.Server.aB.S.aQ,.al (.named 3) v_.2.Server.aB.S.Marks,.arr .bc (.named 6) r5,.arr .bc (.named 7) r6,.arr .fix .i6 v_.2.Server.Seen,.al (.named 9) v_.2.Server.Told,.bx (.nv 12 a),.bx (.nv 7 u),.bx (.nv 8 v),.dead,.dead,.dead,.al (.named 9) v_.2.told]),fun x_=> .ret (.exit 1,[],[.bx (g13 x_ 1 2 3 4 7 8 15),.al .str x_.Server.aB.D.bz,.al (.named 0) x_.Server.aB.D.bM,.al (.named 2) x_.Server.aB.S.aQ,.al (.named 3) x_.Server.aB.S.Marks,.arr .bc (.named 6) r5,.arr .bc (.named 7) r6,.arr .fix .i6 x_.Server.Seen,.al (.named 9) x_.Server.Told,.bx (.nv 12 a),.bx (.nv 7 u),.bx (.nv 8 v),.dead,.dead,.dead,.al (.named 9) x_.told])⟩⟩,⟨[.ptr 0 [],.ptr 9 [],.v (.slice .i6),.iv,.iv],[.bx (N7 1 2 3 4 7 8 16),.al .str,.al (.named 0),.al (.named 2),.al (.named 3),.arr .bc (.named 6),.arr .bc (.named 7),.arr .fix .i6,.al (.named 9),.bx (.v (.named 12)),.bx (.v (.named 7)),.bx (.v (.named 8)),.dead,.dead,.dead,.dead,.al (.named 9)],fun b c d e f g h j k l m n o p q r r5 r6 s t a u v x=>⟨(d,(N.ax.mk (N.aG.mk (N.bZ.mk (N.aT.mk o p e f) (N.aI.mk q r g)) h s t j k l m n) x)),N.oy b c a u v r5 r6,fun v_=>([.ptr 0 [],.ptr 9 [],.val (.slice .i6) b,.iv c,.iv v_.1],[.bx (g13 v_.2 1 2 3 4 7 8 16),.al .str v_.2.Server.aB.D.bz,.al (.named 0) v_.2.Server.aB.D.bM,.al (.named 2) v_.2.Server.aB.S.aQ,.al (.named 3) v_.2.Server.aB.S.Marks,.arr .bc (.named 6) r5,.arr .bc (.named 7) r6,.arr .fix .i6 v_.2.Server.Seen,.al (.named 9) v_.2.Server.Told,.bx (.nv 12 a),.bx (.nv 7 u),.bx (.nv 8 v),.dead,.dead,.dead,.dead,.al (.named 9) v_.2.told]),fun x_=> .ret (.exit 1,[],[.bx (g13 x_ 1 2 3 4 7 8 16),.al .str x_.Server.aB.D.bz,.al (.named 0) x_.Server.aB.D.bM,.al (.named 2) x_.Server.aB.S.aQ,.al (.named 3) x_.Server.aB.S.Marks,.arr .bc (.named 6) r5,.arr .bc (.named 7) r6,.arr .fix .i6 x_.Server.Seen,.al (.named 9) x_.Server.Told,.bx (.nv 12 a),.bx (.nv 7 u),.bx (.nv 8 v),.dead,.dead,.dead,.dead,.al (.named 9) x_.told])⟩⟩,⟨[.ptr 0 [],.ptr 9 [],.v (.slice .i6),.iv,.iv],[.bx (N7 1 2 3 4 7 8 12),.al .str,.al (.named 0),.al (.named 2),.al (.named 3),.arr .bc (.named 6),.arr .bc (.named 7),.arr .fix .i6,.al (.named 9),.bx (.v (.named 12)),.bx (.v (.named 7)),.bx (.v (.named 8)),.al (.named 9)],fun b c d e f g h j k l m n o p q r r5 r6 s t a u v y=>⟨(d,(N.ax.mk (N.aG.mk (N.bZ.mk (N.aT.mk o p e f) (N.aI.mk q r g)) h s t j k l m n) y)),N.ox b c a u v r5 r6,fun v_=>([.ptr 0 [],.ptr 9 [],.val (.slice .i6) b,.iv c,.iv v_.1],[.bx (g13 v_.2 1 2 3 4 7 8 12),.al .str v_.2.Server.aB.D.bz,.al (.named 0) v_.2.Server.aB.D.bM,.al (.named 2) v_.2.Server.aB.S.aQ,.al (.named 3) v_.2.Server.aB.S.Marks,.arr .bc (.named 6) r5,.arr .bc (.named 7) r6,.arr .fix .i6 v_.2.Server.Seen,.al (.named 9) v_.2.Server.Told,.bx (.nv 12 a),.bx (.nv 7 u),.bx (.nv 8 v),.al (.named 9) v_.2.told]),fun x_=> .ret (.exit 1,[],[.bx (g13 x_ 1 2 3 4 7 8 12),.al .str x_.Server.aB.D.bz,.al (.named 0) x_.Server.aB.D.bM,.al (.named 2) x_.Server.aB.S.aQ,.al (.named 3) x_.Server.aB.S.Marks,.arr .bc (.named 6) r5,.arr .bc (.named 7) r6,.arr .fix .i6 x_.Server.Seen,.al (.named 9) x_.Server.Told,.bx (.nv 12 a),.bx (.nv 7 u),.bx (.nv 8 v),.al (.named 9) x_.told])⟩⟩]}],aM:=true,i:=⟨[.ptr 0 [],.v (.named 12)],[.bx (sJ 1 2 3 4 5 6 7 8),.al .str,.al (.named 0),.al (.named 2),.al (.named 3),.al (.named 6),.al (.named 7),.arr .fix .i6,.al (.named 9)],fun a e f g j k l m n o p q r z aa s t=> .opt (N.lD N.fuel a (N.ax.mk (N.aG.mk (N.bZ.mk (N.aT.mk o p e f) (N.aI.mk q r g)) (N.bR.mk z aa) s t j k l m n) [])) fun x_=>ba x_ (fun ab=> .ret (.ret [],[.bx (zT ab 1 2 3 4 5 6 7 8 13),.al .str ab.Server.aB.D.bz,.al (.named 0) ab.Server.aB.D.bM,.al (.named 2) ab.Server.aB.S.aQ,.al (.named 3) ab.Server.aB.S.Marks,.al (.named 6) ab.Server.aY.bD,.al (.named 7) ab.Server.aY.cW,.arr .fix .i6 ab.Server.Seen,.al (.named 9) ab.Server.Told,.dead,.dead,.dead,.dead,.al (.named 9) ab.told])) (fun ac=>ba ac (fun ad=> .ret (.ret [],[.bx (g13 ad.1 1 2 3 4 7 8 12),.al .str ad.1.Server.aB.D.bz,.al (.named 0) ad.1.Server.aB.D.bM,.al (.named 2) ad.1.Server.aB.S.aQ,.al (.named 3) ad.1.Server.aB.S.Marks,.arr .bc (.named 6) ad.2.1,.arr .bc (.named 7) ad.2.2,.arr .fix .i6 ad.1.Server.Seen,.al (.named 9) ad.1.Server.Told,.dead,.dead,.dead,.al (.named 9) ad.1.told])) (fun ae=>ba ae (fun af=> .ret (.ret [],[.bx (g13 af.1 1 2 3 4 7 8 15),.al .str af.1.Server.aB.D.bz,.al (.named 0) af.1.Server.aB.D.bM,.al (.named 2) af.1.Server.aB.S.aQ,.al (.named 3) af.1.Server.aB.S.Marks,.arr .bc (.named 6) af.2.1,.arr .bc (.named 7) af.2.2,.arr .fix .i6 af.1.Server.Seen,.al (.named 9) af.1.Server.Told,.dead,.dead,.dead,.dead,.dead,.dead,.al (.named 9) af.1.told])) (fun ag=> .ret (.ret [],[.bx (g13 ag.1 1 2 3 4 7 8 16),.al .str ag.1.Server.aB.D.bz,.al (.named 0) ag.1.Server.aB.D.bM,.al (.named 2) ag.1.Server.aB.S.aQ,.al (.named 3) ag.1.Server.aB.S.Marks,.arr .bc (.named 6) ag.2.1,.arr .bc (.named 7) ag.2.2,.arr .fix .i6 ag.1.Server.Seen,.al (.named 9) ag.1.Server.Told,.dead,.dead,.dead,.dead,.dead,.dead,.dead,.al (.named 9) ag.1.told]))))⟩}
theorem y95:aJ Tryz.prog 95 x95.ins:=l4 Tryz.func95 rfl ⟨U2,aeK,p64,p65,US,trivial⟩ trivial ⟨⟨fun _ _ _ _ _ _ _ _ _ _ _ _ _ _ _ _ _ _ _ _ _ _ _ _=>⟨rfl,fun _=>by show _=_;kernel_rfl⟩,fun _ _ _ _ _ _ _ _ _ _ _ _ _ _ _ _ _ _ _ _ _ _ _ _=>⟨rfl,fun _=>by show _=_;kernel_rfl⟩,fun _ _ _ _ _ _ _ _ _ _ _ _ _ _ _ _ _ _ _ _ _ _ _ _=>⟨rfl,fun _=>by show _=_;kernel_rfl⟩,trivial⟩,trivial⟩ (fun _ _ _ _ _ _ _ _ _ _ _ _ _ _ _ _ _=>by show _=_;kernel_rfl)
def P95:SP:=(95,.full [.ptr,.data (.named 12)] false (cC [x95.ins]))
theorem p95:OK P95:=bn ok Tryz.call95 ⟨y95,trivial⟩
def X0:cg E:={S:=[TB],i:=cu [(.named 4),.i6,.i6,.i6,(.slice (.named 11))] [(.named 4),(.named 3)] (N.tt N.fuel)}
theorem acR:aJ Tryz.prog 179 X0.ins:=go Tryz.func179 rfl ⟨UW,trivial⟩ trivial trivial (fun _ _ _ _ _=>by show _=_;kernel_rfl)
def aav:SP:=(179,.pure [(.named 4),.i6,.i6,.i6,(.slice (.named 11))] (bj [X0.ins]))
theorem aeJ:OK aav:=aH Tryz.call179 ⟨acR,trivial⟩
def x96:cg E:={S:=[TM,TJ,TG,TF,aav,Uw],aM:=true,i:=⟨[.ptr 0 [],.v (.named 12)],[.bx (sJ 1 2 3 4 5 6 7 8),.al .str,.al (.named 0),.al (.named 2),.al (.named 3),.al (.named 6),.al (.named 7),.arr .fix .i6,.al (.named 9)],fun a b c d e f g h j k l m n o p q r=> .opt (N.jB N.fuel a (N.ax.mk (N.aG.mk (N.bZ.mk (N.aT.mk k l b c) (N.aI.mk m n d)) (N.bR.mk o p) q r e f g h j) [])) fun x_=>ba x_ (fun s=> .ret (.ret [],[.bx (zT s 1 2 3 4 5 6 7 8 13),.al .str s.Server.aB.D.bz,.al (.named 0) s.Server.aB.D.bM,.al (.named 2) s.Server.aB.S.aQ,.al (.named 3) s.Server.aB.S.Marks,.al (.named 6) s.Server.aY.bD,.al (.named 7) s.Server.aY.cW,.arr .fix .i6 s.Server.Seen,.al (.named 9) s.Server.Told,.dead,.dead,.dead,.dead,.al (.named 9) s.told])) (fun t=>ba t (fun u=> .ret (.ret [],[.bx (Ij u.1 5 6 7 8 17),.arr .bc .str u.2.1,.arr .bc (.named 0) u.2.2.1,.arr .bc (.named 2) u.2.2.2.1,.arr .bc (.named 3) u.2.2.2.2,.al (.named 6) u.1.Server.aY.bD,.al (.named 7) u.1.Server.aY.cW,.arr .fix .i6 u.1.Server.Seen,.al (.named 9) u.1.Server.Told,.dead,.dead,.dead,.dead,.dead,.dead,.dead,.dead,.al (.named 9) u.1.told])) (fun v=> .ret (.panic (.fD 213 (.nv 16 N.fa.mk)),[.bx (yn v.1 5 6 7 8),.arr .bc .str v.2.1,.arr .bc (.named 0) v.2.2.1,.arr .bc (.named 2) v.2.2.2.1,.arr .bc (.named 3) v.2.2.2.2,.al (.named 6) v.1.Server.aY.bD,.al (.named 7) v.1.Server.aY.cW,.arr .fix .i6 v.1.Server.Seen,.al (.named 9) v.1.Server.Told,.dead,.dead,.dead])))⟩}
theorem y96:aJ Tryz.prog 96 x96.ins:=l4 Tryz.func96 rfl ⟨U3,U2,U1,U0,aeJ,US,trivial⟩ trivial trivial (fun _ _ _ _ _ _ _ _ _ _ _ _ _ _ _ _ _=>by show _=_;kernel_rfl)
def P96:SP:=(96,.full [.ptr,.data (.named 12)] false (cC [x96.ins]))
theorem p96:OK P96:=bn ok Tryz.call96 ⟨y96,trivial⟩
def Xh:cg E:={S:=[VB,ZN],i:=cu [(.slice (.named 6)),.i6,.i6] [(.slice (.named 6))] (N.vG N.fuel)}
theorem ac5:aJ Tryz.prog 256 Xh.ins:=go Tryz.func256 rfl ⟨Y6,p84,trivial⟩ trivial trivial (fun _ _ _=>by show _=_;kernel_rfl)
def aa1:SP:=(256,.pure [(.slice (.named 6)),.i6,.i6] (bj [Xh.ins]))
theorem aed:OK aa1:=aH Tryz.call256 ⟨ac5,trivial⟩
def XZ:cg E:={S:=[aa1,Vs],i:=cu [(.named 8),.i6,.i6] [(.named 8)] (N.yA N.fuel)}
theorem acQ:aJ Tryz.prog 180 XZ.ins:=go Tryz.func180 rfl ⟨aed,V6,trivial⟩ trivial trivial (fun _ _ _=>by show _=_;kernel_rfl)
def VO:SP:=(180,.pure [(.named 8),.i6,.i6] (bj [XZ.ins]))
theorem Zl:OK VO:=aH Tryz.call180 ⟨acQ,trivial⟩
def x97:cg E:={S:=[VO,Uw,P96],aM:=true,i:=⟨[.ptr 0 [],.v (.named 12)],[.bx (sJ 1 2 3 4 5 6 7 8),.al .str,.al (.named 0),.al (.named 2),.al (.named 3),.al (.named 6),.al (.named 7),.arr .fix .i6,.al (.named 9)],fun a b c d e f g h j k l m n o p q r=> .opt (N.iG N.fuel a (N.ax.mk (N.aG.mk (N.bZ.mk (N.aT.mk k l b c) (N.aI.mk m n d)) (N.bR.mk o p) q r e f g h j) [])) fun x_=>ba x_ (fun s=> .ret (.ret [],[.bx (g13 s.1 1 2 3 4 7 8 13),.al .str s.1.Server.aB.D.bz,.al (.named 0) s.1.Server.aB.D.bM,.al (.named 2) s.1.Server.aB.S.aQ,.al (.named 3) s.1.Server.aB.S.Marks,.arr .bc (.named 6) s.2.1,.arr .bc (.named 7) s.2.2,.arr .fix .i6 s.1.Server.Seen,.al (.named 9) s.1.Server.Told,.dead,.dead,.dead,.dead,.al (.named 9) s.1.told])) (fun t=>ba t (fun u=> .ret (.ret [],[.bx (g13 u.1 1 2 3 4 7 8 14),.al .str u.1.Server.aB.D.bz,.al (.named 0) u.1.Server.aB.D.bM,.al (.named 2) u.1.Server.aB.S.aQ,.al (.named 3) u.1.Server.aB.S.Marks,.arr .bc (.named 6) u.2.1,.arr .bc (.named 7) u.2.2,.arr .fix .i6 u.1.Server.Seen,.al (.named 9) u.1.Server.Told,.dead,.dead,.dead,.dead,.dead,.al (.named 9) u.1.told])) (fun v=>ba v (fun w=> .ret (.ret [],[.bx (Ga w.1 7 8 18),.arr .bc .str w.2.1,.arr .bc (.named 0) w.2.2.1,.arr .bc (.named 2) w.2.2.2.1,.arr .bc (.named 3) w.2.2.2.2.1,.arr .bc (.named 6) w.2.2.2.2.2.1,.arr .bc (.named 7) w.2.2.2.2.2.2,.arr .fix .i6 w.1.Server.Seen,.al (.named 9) w.1.Server.Told,.dead,.dead,.dead,.dead,.dead,.dead,.dead,.dead,.dead,.al (.named 9) w.1.told])) (fun x=> .ret (.panic (.fD 213 (.nv 16 N.fa.mk)),[.bx (yn x.1 5 6 7 8),.arr .bc .str x.2.1,.arr .bc (.named 0) x.2.2.1,.arr .bc (.named 2) x.2.2.2.1,.arr .bc (.named 3) x.2.2.2.2,.al (.named 6) x.1.Server.aY.bD,.al (.named 7) x.1.Server.aY.cW,.arr .fix .i6 x.1.Server.Seen,.al (.named 9) x.1.Server.Told,.dead,.dead,.dead,.dead]))))⟩}
theorem y97:aJ Tryz.prog 97 x97.ins:=l4 Tryz.func97 rfl ⟨Zl,US,p96,trivial⟩ trivial trivial (fun _ _ _ _ _ _ _ _ _ _ _ _ _ _ _ _ _=>by show _=_;kernel_rfl)
def P97:SP:=(97,.full [.ptr,.data (.named 12)] false (cC [x97.ins]))
theorem p97:OK P97:=bn ok Tryz.call97 ⟨y97,trivial⟩
def Xf:cg E:={S:=[TN],i:=⟨[.v (.slice (.named 7)),.fn 257 [.ptr 0 [],.ptr 1 []]],[.box true (.iv),.box true (.iv)],fun s o0 o1=> .opt (N.fV N.fuel s o0 o1) fun x_=> .ret (.ret [.bv x_],[.box true (.iv o0),.box true (.iv o1)])⟩}
theorem ac3:aJ Tryz.prog 258 Xf.ins:=go Tryz.func258 rfl ⟨U4,trivial⟩ trivial trivial (fun _ _ _=>by show _=_;kernel_rfl)
def Z9:SP:=(258,.full [.data (.slice (.named 7)),.func] true (cC [Xf.ins]))
theorem aeb:OK Z9:=bn ok Tryz.call258 ⟨ac3,trivial⟩
def XY:cg E:={S:=[VJ,Z9],i:=⟨[.ptr 0 [],.iv,.iv],[.bx (sJ 1 2 3 4 5 6 7 8),.al .str,.al (.named 0),.al (.named 2),.al (.named 3),.al (.named 6),.al (.named 7),.arr .fix .i6,.al (.named 9)],fun a b c d e f g h j k l m n o p q r s=> .opt (N.kn N.fuel a b (N.ax.mk (N.aG.mk (N.bZ.mk (N.aT.mk l m c d) (N.aI.mk n o e)) (N.bR.mk p q) r s f g h j k) [])) fun x_=> .ret (.ret [.bv x_.1],[.bx (RA x_.2 1 2 3 4 5 6 7 8),.al .str x_.2.Server.aB.D.bz,.al (.named 0) x_.2.Server.aB.D.bM,.al (.named 2) x_.2.Server.aB.S.aQ,.al (.named 3) x_.2.Server.aB.S.Marks,.arr .bc (.named 6) x_.2.Server.aY.bD,.al (.named 7) x_.2.Server.aY.cW,.arr .fix .i6 x_.2.Server.Seen,.al (.named 9) x_.2.Server.Told])⟩}
theorem acP:aJ Tryz.prog 181 XY.ins:=l4 Tryz.func181 rfl ⟨Ze,aeb,trivial⟩ trivial trivial (fun _ _ _ _ _ _ _ _ _ _ _ _ _ _ _ _ _ _=>by show _=_;kernel_rfl)
def aau:SP:=(181,.full [.ptr,.data .i6,.data .i6] false (cC [XY.ins]))
theorem aeI:OK aau:=bn ok Tryz.call181 ⟨acP,trivial⟩
def XX:cg E:={S:=[TB],i:=cu [(.named 4),.i6,.i6,.i6] [(.named 4),(.named 3)] N.uY}
theorem acO:aJ Tryz.prog 182 XX.ins:=go Tryz.func182 rfl ⟨UW,trivial⟩ trivial trivial (fun _ _ _ _=>by show _=_;kernel_rfl)
def aat:SP:=(182,.pure [(.named 4),.i6,.i6,.i6] (bj [XX.ins]))
theorem aeH:OK aat:=aH Tryz.call182 ⟨acO,trivial⟩
def x98:cg E:={S:=[TG,TF,VO,aau,aat,VN,Uw],aM:=true,i:=⟨[.ptr 0 [],.v (.named 12)],[.bx (sJ 1 2 3 4 5 6 7 8),.al .str,.al (.named 0),.al (.named 2),.al (.named 3),.al (.named 6),.al (.named 7),.arr .fix .i6,.al (.named 9)],fun a b c d e f g h j k l m n o p q r=> .opt (N.mq N.fuel a (N.ax.mk (N.aG.mk (N.bZ.mk (N.aT.mk k l b c) (N.aI.mk m n d)) (N.bR.mk o p) q r e f g h j) [])) fun x_=>ba x_ (fun s=> .ret (.ret [],[.bx (zT s 1 2 3 4 5 6 7 8 13),.al .str s.Server.aB.D.bz,.al (.named 0) s.Server.aB.D.bM,.al (.named 2) s.Server.aB.S.aQ,.al (.named 3) s.Server.aB.S.Marks,.arr .bc (.named 6) s.Server.aY.bD,.al (.named 7) s.Server.aY.cW,.arr .fix .i6 s.Server.Seen,.al (.named 9) s.Server.Told,.dead,.dead,.dead,.dead,.al (.named 9) s.told])) (fun t=>ba t (fun u=> .ret (.ret [],[.bx (Ga u.1 7 8 17),.arr .bc .str u.2.1,.arr .bc (.named 0) u.2.2.1,.arr .bc (.named 2) u.2.2.2.1,.arr .bc (.named 3) u.2.2.2.2.1,.arr .bc (.named 6) u.2.2.2.2.2.1,.arr .bc (.named 7) u.2.2.2.2.2.2,.arr .fix .i6 u.1.Server.Seen,.al (.named 9) u.1.Server.Told,.dead,.dead,.dead,.dead,.dead,.dead,.dead,.dead,.al (.named 9) u.1.told])) (fun v=> .ret (.panic (.fD 213 (.nv 16 N.fa.mk)),[.bx (yn v.1 5 6 7 8),.arr .bc .str v.2.1,.arr .bc (.named 0) v.2.2.1,.arr .bc (.named 2) v.2.2.2.1,.arr .bc (.named 3) v.2.2.2.2,.arr .bc (.named 6) v.1.Server.aY.bD,.al (.named 7) v.1.Server.aY.cW,.arr .fix .i6 v.1.Server.Seen,.al (.named 9) v.1.Server.Told,.dead,.dead,.dead])))⟩}
theorem y98:aJ Tryz.prog 98 x98.ins:=l4 Tryz.func98 rfl ⟨U1,U0,Zl,aeI,aeH,Zk,US,trivial⟩ trivial trivial (fun _ _ _ _ _ _ _ _ _ _ _ _ _ _ _ _ _=>by show _=_;kernel_rfl)
def P98:SP:=(98,.full [.ptr,.data (.named 12)] false (cC [x98.ins]))
theorem p98:OK P98:=bn ok Tryz.call98 ⟨y98,trivial⟩
noncomputable def B92:l8 E:=ql E (jY []) (GF E 23 [] []) 0 Tryz.f92
theorem p92:iC Tryz.prog E 92 B92:=k6 sound mix (S:=[]) trivial (L:=GF E 23 [] []) (fun _=>rfl) Tryz.call92 Tryz.func92 rfl
def x37:cg E:={S:=[Uw,P94,P95,P96,P97,P98],D:=[(92,B92)],aM:=true,i:=⟨[.ptr 0 [],.v (.named 12)],[.bx (sJ 1 2 3 4 5 6 7 8),.al .str,.al (.named 0),.al (.named 2),.al (.named 3),.al (.named 6),.al (.named 7),.arr .fix .i6,.al (.named 9)],fun a b c d e f g h j k l m n o p q r=> .opt (N.km N.fuel a (N.ax.mk (N.aG.mk (N.bZ.mk (N.aT.mk k l b c) (N.aI.mk m n d)) (N.bR.mk o p) q r e f g h j) [])) fun x_=>ba x_ (fun s=> .ret (.ret [],[.bx (RA s 1 2 3 4 5 6 7 8),.al .str s.Server.aB.D.bz,.al (.named 0) s.Server.aB.D.bM,.al (.named 2) s.Server.aB.S.aQ,.al (.named 3) s.Server.aB.S.Marks,.al (.named 6) s.Server.aY.bD,.al (.named 7) s.Server.aY.cW,.arr .fix .i6 s.Server.Seen,.al (.named 9) s.Server.Told,.dead])) (fun t=>ba t (fun u=> .ret (.ret [],[.bx (zT u 1 2 3 4 5 6 7 8 13),.al .str u.Server.aB.D.bz,.al (.named 0) u.Server.aB.D.bM,.al (.named 2) u.Server.aB.S.aQ,.al (.named 3) u.Server.aB.S.Marks,.al (.named 6) u.Server.aY.bD,.al (.named 7) u.Server.aY.cW,.arr .fix .i6 u.Server.Seen,.al (.named 9) u.Server.Told,.dead,.dead,.dead,.dead,.al (.named 9) u.told])) (fun v=>ba v (fun w=> .ret (.ret [],[.bx (zT w 1 2 3 4 5 6 7 8 14),.al .str w.Server.aB.D.bz,.al (.named 0) w.Server.aB.D.bM,.al (.named 2) w.Server.aB.S.aQ,.al (.named 3) w.Server.aB.S.Marks,.arr .bc (.named 6) w.Server.aY.bD,.al (.named 7) w.Server.aY.cW,.arr .fix .i6 w.Server.Seen,.al (.named 9) w.Server.Told,.dead,.dead,.dead,.dead,.dead,.al (.named 9) w.told])) (fun x=>ba x (fun y=> .ret (.ret [],[.bx (zT y 1 2 3 4 5 6 7 8 14),.al .str y.Server.aB.D.bz,.al (.named 0) y.Server.aB.D.bM,.al (.named 2) y.Server.aB.S.aQ,.al (.named 3) y.Server.aB.S.Marks,.al (.named 6) y.Server.aY.bD,.al (.named 7) y.Server.aY.cW,.arr .fix .i6 y.Server.Seen,.al (.named 9) y.Server.Told,.dead,.dead,.dead,.dead,.dead,.al (.named 9) y.told])) (fun z=>ba z (fun aa=> .ret (.ret [],[.bx (g13 aa.1 1 2 3 4 7 8 13),.al .str aa.1.Server.aB.D.bz,.al (.named 0) aa.1.Server.aB.D.bM,.al (.named 2) aa.1.Server.aB.S.aQ,.al (.named 3) aa.1.Server.aB.S.Marks,.arr .bc (.named 6) aa.2.1,.arr .bc (.named 7) aa.2.2,.arr .fix .i6 aa.1.Server.Seen,.al (.named 9) aa.1.Server.Told,.dead,.dead,.dead,.dead,.al (.named 9) aa.1.told])) (fun ab=>ba ab (fun ac=> .ret (.ret [],[.bx (g13 ac.1 1 2 3 4 7 8 14),.al .str ac.1.Server.aB.D.bz,.al (.named 0) ac.1.Server.aB.D.bM,.al (.named 2) ac.1.Server.aB.S.aQ,.al (.named 3) ac.1.Server.aB.S.Marks,.arr .bc (.named 6) ac.2.1,.arr .bc (.named 7) ac.2.2,.arr .fix .i6 ac.1.Server.Seen,.al (.named 9) ac.1.Server.Told,.dead,.dead,.dead,.dead,.dead,.al (.named 9) ac.1.told])) (fun ad=>ba ad (fun ae=> .ret (.ret [],[.bx (g13 ae.1 1 2 3 4 7 8 15),.al .str ae.1.Server.aB.D.bz,.al (.named 0) ae.1.Server.aB.D.bM,.al (.named 2) ae.1.Server.aB.S.aQ,.al (.named 3) ae.1.Server.aB.S.Marks,.arr .bc (.named 6) ae.2.1,.arr .bc (.named 7) ae.2.2,.arr .fix .i6 ae.1.Server.Seen,.al (.named 9) ae.1.Server.Told,.dead,.dead,.dead,.dead,.dead,.dead,.al (.named 9) ae.1.told])) (fun af=>ba af (fun ag=> .ret (.ret [],[.bx (g13 ag.1 1 2 3 4 7 8 16),.al .str ag.1.Server.aB.D.bz,.al (.named 0) ag.1.Server.aB.D.bM,.al (.named 2) ag.1.Server.aB.S.aQ,.al (.named 3) ag.1.Server.aB.S.Marks,.arr .bc (.named 6) ag.2.1,.arr .bc (.named 7) ag.2.2,.arr .fix .i6 ag.1.Server.Seen,.al (.named 9) ag.1.Server.Told,.dead,.dead,.dead,.dead,.dead,.dead,.dead,.al (.named 9) ag.1.told])) (fun ah=>ba ah (fun ai=> .ret (.ret [],[.bx (g13 ai.1 1 2 3 4 7 8 17),.al .str ai.1.Server.aB.D.bz,.al (.named 0) ai.1.Server.aB.D.bM,.al (.named 2) ai.1.Server.aB.S.aQ,.al (.named 3) ai.1.Server.aB.S.Marks,.arr .bc (.named 6) ai.2.1,.arr .bc (.named 7) ai.2.2,.arr .fix .i6 ai.1.Server.Seen,.al (.named 9) ai.1.Server.Told,.dead,.dead,.dead,.dead,.dead,.dead,.dead,.dead,.al (.named 9) ai.1.told])) (fun aj=>ba aj (fun ak=> .ret (.ret [],[.bx (yn ak.1 5 6 7 8),.arr .bc .str ak.2.1,.arr .bc (.named 0) ak.2.2.1,.arr .bc (.named 2) ak.2.2.2.1,.arr .bc (.named 3) ak.2.2.2.2,.arr .bc (.named 6) ak.1.Server.aY.bD,.al (.named 7) ak.1.Server.aY.cW,.arr .fix .i6 ak.1.Server.Seen,.al (.named 9) ak.1.Server.Told,.dead,.dead,.dead,.dead])) (fun al=>ba al (fun am=> .ret (.ret [],[.bx (yn am.1 5 6 7 8),.arr .bc .str am.2.1,.arr .bc (.named 0) am.2.2.1,.arr .bc (.named 2) am.2.2.2.1,.arr .bc (.named 3) am.2.2.2.2,.al (.named 6) am.1.Server.aY.bD,.al (.named 7) am.1.Server.aY.cW,.arr .fix .i6 am.1.Server.Seen,.al (.named 9) am.1.Server.Told,.dead,.dead,.dead,.dead])) (fun an=>ba an (fun ao=> .ret (.ret [],[.bx (yn ao.1 5 6 7 8),.arr .bc .str ao.2.1,.arr .bc (.named 0) ao.2.2.1,.arr .bc (.named 2) ao.2.2.2.1,.arr .bc (.named 3) ao.2.2.2.2,.al (.named 6) ao.1.Server.aY.bD,.al (.named 7) ao.1.Server.aY.cW,.arr .fix .i6 ao.1.Server.Seen,.al (.named 9) ao.1.Server.Told,.dead,.dead,.dead,.dead,.dead])) (fun ap=>ba ap (fun aq=> .ret (.ret [],[.bx (Ij aq.1 5 6 7 8 18),.arr .bc .str aq.2.1,.arr .bc (.named 0) aq.2.2.1,.arr .bc (.named 2) aq.2.2.2.1,.arr .bc (.named 3) aq.2.2.2.2,.al (.named 6) aq.1.Server.aY.bD,.al (.named 7) aq.1.Server.aY.cW,.arr .fix .i6 aq.1.Server.Seen,.al (.named 9) aq.1.Server.Told,.dead,.dead,.dead,.dead,.dead,.dead,.dead,.dead,.dead,.al (.named 9) aq.1.told])) (fun ar=>ba ar (fun au=> .ret (.ret [],[.bx (Ga au.1 7 8 18),.arr .bc .str au.2.1,.arr .bc (.named 0) au.2.2.1,.arr .bc (.named 2) au.2.2.2.1,.arr .bc (.named 3) au.2.2.2.2.1,.arr .bc (.named 6) au.2.2.2.2.2.1,.arr .bc (.named 7) au.2.2.2.2.2.2,.arr .fix .i6 au.1.Server.Seen,.al (.named 9) au.1.Server.Told,.dead,.dead,.dead,.dead,.dead,.dead,.dead,.dead,.dead,.al (.named 9) au.1.told])) (fun av=> .ret (.ret [],[.bx (Ga av.1 7 8 19),.arr .bc .str av.2.1,.arr .bc (.named 0) av.2.2.1,.arr .bc (.named 2) av.2.2.2.1,.arr .bc (.named 3) av.2.2.2.2.1,.arr .bc (.named 6) av.2.2.2.2.2.1,.arr .bc (.named 7) av.2.2.2.2.2.2,.arr .fix .i6 av.1.Server.Seen,.al (.named 9) av.1.Server.Told,.dead,.dead,.dead,.dead,.dead,.dead,.dead,.dead,.dead,.dead,.al (.named 9) av.1.told])))))))))))))))⟩}
theorem y37:aJ Tryz.prog 37 x37.ins:=l4 Tryz.func37 rfl ⟨US,p94,p95,p96,p97,p98,trivial⟩ ⟨p92,trivial⟩ trivial (fun _ _ _ _ _ _ _ _ _ _ _ _ _ _ _ _ _=>by show _=_;kernel_rfl)
def P37:SP:=(37,.full [.ptr,.data (.named 12)] false (cC [x37.ins]))
theorem p37:OK P37:=bn ok Tryz.call37 ⟨y37,trivial⟩
def x14:cg E:={S:=[P34,P35,P36,P37],i:=cu [(.named 10),(.slice (.int .u8))] [(.named 10),(.slice (.named 9))] (N.ry N.fuel)}
theorem y14:aJ Tryz.prog 14 x14.ins:=go Tryz.func14 rfl ⟨p34,p35,p36,p37,trivial⟩ trivial trivial (fun _ _=>by show _=_;kernel_rfl)
def P14:SP:=(14,.pure [(.named 10),(.slice (.int .u8))] (bj [x14.ins]))
theorem p14:OK P14:=aH Tryz.call14 ⟨y14,trivial⟩
def XU:cg E:={S:=[Sf,Qe],i:=⟨[.ptr 0 [],.iv],[.bx (.agg 19 [.agg 1 [.own 1,.own 2,.iv,.v .bool]]),.al .str,.al (.named 0)],fun i a b c d=> .opt (N.rZ i (N.bd.mk (N.aT.mk c d a b))) fun x_=>ba x_ (fun e=> .ret (.ret [.sv e.1],[.bx (.nv 19 e.2.1),.arr .bc .str e.2.2.1,.arr .bc (.named 0) e.2.2.2])) (fun f=> .ret (.panic (.fD 292 (.nv 16 N.fa.mk)),[.bx (.nv 19 f.1),.arr .bc .str f.2.1,.arr .bc (.named 0) f.2.2]))⟩}
theorem acL:aJ Tryz.prog 186 XU.ins:=l4 Tryz.func186 rfl ⟨UZ,Q1,trivial⟩ trivial trivial (fun _ _ _ _ _=>by show _=_;kernel_rfl)
def T7:cg E:={S:=[Sf,Qe],i:=⟨[.ptr 0 [],.iv],[.bx (.v (.named 19))],fun i w=> .opt (N.pJ i w) fun x_=>ba x_ (fun a=> .ret (.ret [.sv a.1],[.bx (.nv 19 a.2)])) (fun b=> .ret (.panic (.fD 292 (.nv 16 N.fa.mk)),[.bx (.nv 19 b)]))⟩}
theorem Wm:aJ Tryz.prog 186 T7.ins:=l4 Tryz.func186 rfl ⟨UZ,Q1,trivial⟩ trivial trivial (fun _ _=>by show _=_;kernel_rfl)
def aar:SP:=(186,.full [.ptr,.data .i6] false (cC [XU.ins,T7.ins]))
theorem aeF:OK aar:=bn ok Tryz.call186 ⟨acL,Wm,trivial⟩
def WL:cg E:={ls:=[{ks:=[0,1],rs:=[0,4],ins:=some [⟨[.v .str,.v (.int .u8)],[],fun s c=>⟨s,N.lh c,fun v_=>([.sv v_,.val (.int .u8) c],[]),fun x_=> .ret (.exit 0,[.sv x_,.undef],[])⟩⟩]}],i:=cu [.str,(.int .u8)] [.str] (N.mO N.fuel)}
theorem abE:aJ Tryz.prog 296 WL.ins:=go Tryz.func296 rfl trivial trivial ⟨⟨fun _ _=>⟨rfl,fun _=>by show _=_;kernel_rfl⟩,trivial⟩,trivial⟩ (fun _ _=>by show _=_;kernel_rfl)
def ZV:SP:=(296,.pure [.str,(.int .u8)] (bj [WL.ins]))
theorem adU:OK ZV:=aH Tryz.call296 ⟨abE,trivial⟩
def WM:cg E:={ls:=[{ks:=[0,1],rs:=[0,4],ins:=some [⟨[.v .str,.v (.int .u8)],[],fun s c=>⟨s,N.lP c,fun v_=>([.sv v_,.val (.int .u8) c],[]),fun x_=> .ret (.exit 0,[.sv x_,.undef],[])⟩⟩]}],i:=cu [.str,(.int .u8)] [.str] (N.ng N.fuel)}
theorem abF:aJ Tryz.prog 295 WM.ins:=go Tryz.func295 rfl trivial trivial ⟨⟨fun _ _=>⟨rfl,fun _=>by show _=_;kernel_rfl⟩,trivial⟩,trivial⟩ (fun _ _=>by show _=_;kernel_rfl)
def ZW:SP:=(295,.pure [.str,(.int .u8)] (bj [WM.ins]))
theorem adV:OK ZW:=aH Tryz.call295 ⟨abF,trivial⟩
def Xb:cg E:={S:=[ZW,ZV],i:=⟨[.v .str,.str [0]],[],fun s=> .opt (N.xg N.fuel s) fun x_=> .ret (.ret [.sv x_],[])⟩}
theorem abY:aJ Tryz.prog 263 Xb.ins:=go Tryz.func263 rfl ⟨adV,adU,trivial⟩ trivial trivial (fun _=>by show _=_;kernel_rfl)
def Z7:SP:=(263,.pure [.str,.str] (bj [Xb.ins]))
theorem ae9:OK Z7:=aH Tryz.call263 ⟨abY,trivial⟩
def XT:cg E:={S:=[Z7],ls:=[{ks:=[1,2,8,9,10,43,44,45],rs:=[2,6,7,8,9],xM:=[.xM (.slot 9) [] .i6],ins:=some [⟨[.iv,.v .str,.iv,.own 2,.iv,.own 1,.iv,.iv],[.bx (.v (.named 1)),.al (.int .u8),.al .i6],fun a s n b c d o0 r1 l=>⟨(b,d,l),N.yg a s n c o0 r1,fun v_=>([.iv a,.sv s,.iv n,.own 2,.iv v_.1,.own 1,.iv c,.iv v_.2.1],[.bx (.nv 1 o0),.al (.int .u8) r1,.al .i6 v_.2.2]),fun x_=>ba x_ (fun e=> .ret (.ret,[.sv s,.bm,.bv false,.iv n,.own 2],[.bx (.nv 1 o0),.al (.int .u8) r1,.al .i6 e])) (fun f=> .ret (.exit 0,[.sv s,.undef,.undef,.iv n,.own 2],[.bx (.nv 1 o0),.al (.int .u8) r1,.al .i6 f]))⟩⟩]}],i:=cu [(.named 1),.i6,.str] [(.slice .i6),.bool] (N.B9 N.fuel)}
theorem acK:aJ Tryz.prog 187 XT.ins:=go Tryz.func187 rfl ⟨ae9,trivial⟩ trivial ⟨⟨fun _ _ _ _ _ _ _ _ _=>⟨rfl,fun _=>by show _=_;kernel_rfl⟩,trivial⟩,trivial⟩ (fun _ _ _=>by show _=_;kernel_rfl)
def aaq:SP:=(187,.pure [(.named 1),.i6,.str] (bj [XT.ins]))
theorem aeE:OK aaq:=aH Tryz.call187 ⟨acK,trivial⟩
def YG:cg E:={S:=[aar,aaq,VM,VL,ZQ,ZP],D:=[(185,V3)],ls:=[{ks:=[1,4,5,6,53,54,55],rs:=[4,5,6],d:=[(185,[.ptr 3 [],.ptr 1 [],.ptr 2 []])],ins:=some [⟨[.iv,.ptr 1 [],.ptr 2 [],.ptr 3 [],.v (.slice .i6),.iv,.iv],[.bx (.v (.named 1)),.bx (.agg 1 [.bm,.bm,.iv,.v .bool]),.bx (.v .bool),.bx (.v (.named 19)),.arr .bc .str,.arr .bc (.named 0)],fun a b c e o0 f g ok w r4 r5=>⟨(e,(N.aT.mk [] [] f g),w),N.zQ a b c o0 ok r4 r5,fun v_=>([.iv a,.ptr 1 [],.ptr 2 [],.ptr 3 [],.val (.slice .i6) b,.iv c,.iv v_.1],[.bx (.nv 1 o0),.bx (g1 v_.2.1),.bx (.bv ok),.bx (.nv 19 v_.2.2),.arr .bc .str r4,.arr .bc (.named 0) r5]),fun x_=>ba x_ (fun h=> .ret (.panic (.fD 292 (.nv 16 N.fa.mk)),[.ptr 1 [],.ptr 2 [],.ptr 3 []],[.bx (.nv 1 o0),.bx (g1 h.1),.bx (.bv ok),.bx (.nv 19 h.2),.arr .bc .str r4,.arr .bc (.named 0) r5])) (fun j=> .ret (.exit 0,[.ptr 1 [],.ptr 2 [],.ptr 3 []],[.bx (.nv 1 o0),.bx (g1 j.1),.bx (.bv ok),.bx (.nv 19 j.2),.arr .bc .str r4,.arr .bc (.named 0) r5]))⟩⟩]}],i:=cu [(.named 1),.i6] [(.named 1),.bool] (N.D6 N.fuel)}
theorem adz:aJ Tryz.prog 108 YG.ins:=go Tryz.func108 rfl ⟨aeF,aeE,Zh,Zg,p80,p81,trivial⟩ ⟨Zi,trivial⟩ ⟨⟨fun _ _ _ _ _ _ _ _ _ _ _=>⟨rfl,fun _=>by show _=_;kernel_rfl⟩,trivial⟩,trivial⟩ (fun _ _=>by show _=_;kernel_rfl)
def aaX:SP:=(108,.pure [(.named 1),.i6] (bj [YG.ins]))
theorem afg:OK aaX:=aH Tryz.call108 ⟨adz,trivial⟩
def YD:cg E:={S:=[Si,Sf],ls:=[{ks:=[1,2,6,7],rs:=[2],xM:=[.xM (.slot 2) [] .str],ins:=some [⟨[.ptr 0 [],.own 1,.iv,.iv],[.bx (.v (.named 1)),.al .str],fun t6 t7 d l=>⟨(t7,l),N.sH t6 d,fun v_=>([.ptr 0 [],.own 1,.iv t6,.iv v_.1],[.bx (.nv 1 d),.al .str v_.2]),fun x_=>ba x_ (fun a=> .ret (.panic (.fD 160 (.nv 16 N.fa.mk)),[.own 1],[.bx (.nv 1 d),.al .str a])) (fun b=> .ret (.exit 0,[.own 1],[.bx (.nv 1 d),.al .str b]))⟩⟩]}],i:=⟨[.v (.named 1)],[],fun d=> .opt (N.wN N.fuel d) fun x_=>ba x_ (fun a=> .ret (.ret [.val (.slice .str) a],[])) (fun b=> .ret (.panic (.fD 160 (.nv 16 N.fa.mk)),[]))⟩}
theorem adw:aJ Tryz.prog 111 YD.ins:=go Tryz.func111 rfl ⟨SN,UZ,trivial⟩ trivial ⟨⟨fun _ _ _ _=>⟨rfl,fun _=>by show _=_;kernel_rfl⟩,trivial⟩,trivial⟩ (fun _=>by show _=_;kernel_rfl)
def aaV:SP:=(111,.pure [(.named 1)] (bj [YD.ins]))
theorem afe:OK aaV:=aH Tryz.call111 ⟨adw,trivial⟩
def Xa:cg E:={S:=[TC],i:=⟨[.ptr 0 [],.iv],[.bx (.agg 20 [.own 1]),.al (.int .u8)],fun n a=> .opt (N.mG N.fuel n (N.bH.mk a)) fun x_=>ba x_ (fun b=> .ret (.ret [.iv b.1],[.bx (.nv 20 b.2.1),.arr .bc (.int .u8) b.2.2])) (fun c=> .ret (.panic (.fD 233 (.nv 16 N.fa.mk)),[.bx (.agg 20 [.own 1]),.al (.int .u8) a]))⟩}
theorem abX:aJ Tryz.prog 264 Xa.ins:=l4 Tryz.func264 rfl ⟨UX,trivial⟩ trivial trivial (fun _ _=>by show _=_;kernel_rfl)
def T0:cg E:={S:=[TC],i:=⟨[.ptr 0 [],.iv],[.bx (.v (.named 20))],fun n r=> .opt (N.kF N.fuel n r) fun x_=>ba x_ (fun a=> .ret (.ret [.iv a.1],[.bx (.nv 20 a.2)])) (fun b=> .ret (.panic (.fD 233 (.nv 16 N.fa.mk)),[.bx (.nv 20 r)]))⟩}
theorem Wf:aJ Tryz.prog 264 T0.ins:=l4 Tryz.func264 rfl ⟨UX,trivial⟩ trivial trivial (fun _ _=>by show _=_;kernel_rfl)
def Z6:SP:=(264,.full [.ptr,.data .i6] false (cC [Xa.ins,T0.ins]))
theorem ae8:OK Z6:=bn ok Tryz.call264 ⟨abX,Wf,trivial⟩
def W9:cg E:={S:=[VH],i:=⟨[.ptr 0 [],.iv],[.bx (.v (.named 20))],fun n r=> .opt (N.lK n r) fun x_=>ba x_ (fun a=> .ret (.ret [.sv a.1],[.bx (.nv 20 a.2)])) (fun b=> .ret (.panic (.fD 233 (.nv 16 N.fa.mk)),[.bx (.nv 20 r)]))⟩}
theorem abW:aJ Tryz.prog 265 W9.ins:=l4 Tryz.func265 rfl ⟨Zc,trivial⟩ trivial trivial (fun _ _=>by show _=_;kernel_rfl)
def Z5:SP:=(265,.full [.ptr,.data .i6] false (cC [W9.ins]))
theorem ae7:OK Z5:=bn ok Tryz.call265 ⟨abW,trivial⟩
def XQ:cg E:={S:=[Z6,Z5],ls:=[{ks:=[0,2,7],rs:=[0,2],xM:=[.xM (.obj 2) [1] (.named 3)],ins:=some [⟨[.ptr 0 [],.ptr 2 [],.iv],[.bx (.v (.named 20)),.arr .bc (.int .u8),.bx (.agg 4 [.bm,.own 3,.iv]),.al (.named 3)],fun t7 r r1 a b=>⟨(t7,r,(N.aI.mk [] b a)),N.jG N.fuel r1,fun v_=>([.ptr 0 [],.ptr 2 [],.iv v_.1],[.bx (.nv 20 v_.2.1),.arr .bc (.int .u8) r1,.bx (.agg 4 [.bm,.own 3,.iv v_.2.2.aP]),.al (.named 3) v_.2.2.Marks]),fun x_=>ba x_ (fun c=> .ret (.panic (.fD 233 (.nv 16 N.fa.mk)),[.ptr 0 [],.ptr 2 []],[.bx (.nv 20 c.1),.arr .bc (.int .u8) r1,.bx (.agg 4 [.bm,.own 3,.iv c.2.aP]),.al (.named 3) c.2.Marks])) (fun d=> .ret (.exit 0,[.ptr 0 [],.ptr 2 []],[.bx (.nv 20 d.1),.arr .bc (.int .u8) r1,.bx (.agg 4 [.bm,.own 3,.iv d.2.aP]),.al (.named 3) d.2.Marks]))⟩⟩]},{ks:=[0,2,24],rs:=[2],xM:=[.xM (.obj 2) [0] (.named 2)],ins:=some [⟨[.ptr 0 [],.ptr 2 [],.iv],[.bx (.v (.named 20)),.arr .bc (.int .u8),.bx (.agg 4 [.own 4,.own 3,.iv]),.al (.named 3),.al (.named 2)],fun e r r1 a b f=>⟨(e,r,(N.aI.mk f b a)),N.jF N.fuel r1,fun v_=>([.ptr 0 [],.ptr 2 [],.iv v_.1],[.bx (.nv 20 v_.2.1),.arr .bc (.int .u8) r1,.bx (.agg 4 [.own 4,.own 3,.iv v_.2.2.aP]),.al (.named 3) v_.2.2.Marks,.al (.named 2) v_.2.2.aQ]),fun x_=>ba x_ (fun c=> .ret (.panic (.fD 233 (.nv 16 N.fa.mk)),[.ptr 2 []],[.bx (.nv 20 c.1),.arr .bc (.int .u8) r1,.bx (.agg 4 [.own 4,.own 3,.iv c.2.aP]),.al (.named 3) c.2.Marks,.al (.named 2) c.2.aQ])) (fun d=>ba d (fun g=> .ret (.panic (.fD 233 (.nv 16 N.fa.mk)),[.ptr 2 []],[.bx (.nv 20 g.1),.arr .bc (.int .u8) r1,.bx (.agg 4 [.own 4,.own 3,.iv g.2.1.aP]),.al (.named 3) g.2.1.Marks,.al (.named 2) g.2.1.aQ,.bx (.agg 2 [.sv g.2.2.Name,.iv g.2.2.qo,.sv g.2.2.Body])])) (fun h=> .ret (.exit 2,[.ptr 2 []],[.bx (.nv 20 h.1),.arr .bc (.int .u8) r1,.bx (.agg 4 [.own 4,.own 3,.iv h.2.aP]),.al (.named 3) h.2.Marks,.al (.named 2) h.2.aQ])))⟩⟩]}],i:=⟨[.ptr 0 []],[.bx (.agg 20 [.own 1]),.al (.int .u8)],fun j=> .opt (N.lL N.fuel (N.bH.mk j)) fun x_=>ba x_ (fun c=> .ret (.ret [.nv 4 c.1],[.bx (.nv 20 c.2.1),.arr .bc (.int .u8) c.2.2])) (fun d=>ba d (fun g=> .ret (.panic (.fD 233 (.nv 16 N.fa.mk)),[.bx (.agg 20 [.own 1]),.al (.int .u8) j])) (fun h=> .ret (.panic (.fD 233 (.nv 16 N.fa.mk)),[.bx (.nv 20 h.1),.arr .bc (.int .u8) h.2])))⟩}
theorem acH:aJ Tryz.prog 192 XQ.ins:=l4 Tryz.func192 rfl ⟨ae8,ae7,trivial⟩ trivial ⟨⟨fun _ _ _ _ _=>⟨rfl,fun _=>by show _=_;kernel_rfl⟩,trivial⟩,⟨⟨fun _ _ _ _ _ _=>⟨rfl,fun _=>by show _=_;kernel_rfl⟩,trivial⟩,trivial⟩⟩ (fun _=>by show _=_;kernel_rfl)
def aap:SP:=(192,.full [.ptr] false (cC [XQ.ins]))
theorem aeB:OK aap:=bn ok Tryz.call192 ⟨acH,trivial⟩
def Yx:cg E:={ls:=[{ks:=[0,1,12,13],rs:=[4],ins:=some [⟨[.v (.slice .str),.v (.slice .str),.iv,.iv],[],fun s1 s2 a b=>⟨b,N.mS s1 s2 a,fun v_=>([.val (.slice .str) s1,.val (.slice .str) s2,.iv a,.iv v_],[]),fun x_=>ba x_ (fun c=> .ret (.ret,[.bv false],[])) (fun d=> .ret (.exit 0,[.undef],[]))⟩⟩]}],i:=cu [(.slice .str),(.slice .str)] [.bool] (N.om N.fuel)}
theorem adq:aJ Tryz.prog 133 Yx.ins:=go Tryz.func133 rfl trivial trivial ⟨⟨fun _ _ _ _=>⟨rfl,fun _=>by show _=_;kernel_rfl⟩,trivial⟩,trivial⟩ (fun _ _=>by show _=_;kernel_rfl)
def VW:SP:=(133,.pure [(.slice .str),(.slice .str)] (bj [Yx.ins]))
theorem Zu:OK VW:=aH Tryz.call133 ⟨adq,trivial⟩
noncomputable def ab9:l8 E:=ql E (jY []) (GF E 17 [] []) 0 Tryz.f190
theorem aeD:iC Tryz.prog E 190 ab9:=k6 sound mix (S:=[]) trivial (L:=GF E 17 [] []) (fun _=>rfl) Tryz.call190 Tryz.func190 rfl
def YE:cg E:={S:=[VW,VS,VK,aap,ZR],D:=[(190,ab9)],i:=cu [(.slice .str)] [(.named 4),.bool] (N.Cd N.fuel)}
theorem adx:aJ Tryz.prog 110 YE.ins:=go Tryz.func110 rfl ⟨Zu,Zr,aeC,aeB,p74,trivial⟩ ⟨aeD,trivial⟩ trivial (fun _=>by show _=_;kernel_rfl)
def aaW:SP:=(110,.pure [(.slice .str)] (bj [YE.ins]))
theorem aff:OK aaW:=aH Tryz.call110 ⟨adx,trivial⟩
noncomputable def abc:l8 E:=ql E (jY []) (GF E 17 [] []) 0 Tryz.f107
theorem afh:iC Tryz.prog E 107 abc:=k6 sound mix (S:=[]) trivial (L:=GF E 17 [] []) (fun _=>rfl) Tryz.call107 Tryz.func107 rfl
def x42:cg E:={S:=[aaX,Si,aaW,aaV,P73],D:=[(107,abc)],i:=cu [(.named 1)] [(.named 5),.bool] (N.Bz N.fuel)}
theorem y42:aJ Tryz.prog 42 x42.ins:=go Tryz.func42 rfl ⟨afg,SN,aff,afe,p73,trivial⟩ ⟨afh,trivial⟩ trivial (fun _=>by show _=_;kernel_rfl)
def P42:SP:=(42,.pure [(.named 1)] (bj [x42.ins]))
theorem p42:OK P42:=aH Tryz.call42 ⟨y42,trivial⟩
def x44:cg E:={S:=[TO],i:=⟨[.v (.named 4)],[],fun s=> .xa (.ret (N.Fo s)) fun x_=> .ret (.ret [.nv 4 x_],[])⟩}
theorem y44:aJ Tryz.prog 44 x44.ins:=go Tryz.func44 rfl ⟨Zv,trivial⟩ trivial trivial (fun _=>by show _=_;kernel_rfl)
def P44:SP:=(44,.pure [(.named 4)] (bj [x44.ins]))
theorem p44:OK P44:=aH Tryz.call44 ⟨y44,trivial⟩
def Yy:cg E:={i:=⟨[.iv,.iv],[],fun v a=> .opt (N.yI v a) fun x_=>ba x_ (fun b=> .ret (.ret [],[])) (fun c=> .ret (.panic (.fD 242 (.nv 16 N.fa.mk)),[]))⟩}
theorem adr:aJ Tryz.prog 117 Yy.ins:=go Tryz.func117 rfl trivial trivial trivial (fun _ _=>by show _=_;kernel_rfl)
def aaR:SP:=(117,.pure [.i6,.i6] (bj [Yy.ins]))
theorem af9:OK aaR:=aH Tryz.call117 ⟨adr,trivial⟩
noncomputable def abb:l8 E:=ql E (jY []) (GF E 18 [] []) 0 Tryz.f116
theorem afa:iC Tryz.prog E 116 abb:=k6 sound mix (S:=[]) trivial (L:=GF E 18 [] []) (fun _=>rfl) Tryz.call116 Tryz.func116 rfl
def x46:cg E:={S:=[aaR],D:=[(116,abb)],i:=cu [.i6,.i6] [.i6] N.Cw}
theorem y46:aJ Tryz.prog 46 x46.ins:=go Tryz.func46 rfl ⟨af9,trivial⟩ ⟨afa,trivial⟩ trivial (fun _ _=>by show _=_;kernel_rfl)
def P46:SP:=(46,.pure [.i6,.i6] (bj [x46.ins]))
theorem p46:OK P46:=aH Tryz.call46 ⟨y46,trivial⟩
def x18:cg E:={S:=[P30,P42,P43,P44,P45,P46],i:=cu [(.named 1),.i6] [(.named 10),.bool] (N.zI N.fuel)}
theorem y18:aJ Tryz.prog 18 x18.ins:=go Tryz.func18 rfl ⟨p30,p42,p43,p44,p45,p46,trivial⟩ trivial trivial (fun _ _=>by show _=_;kernel_rfl)
def P18:SP:=(18,.pure [(.named 1),.i6] (bj [x18.ins]))
theorem p18:OK P18:=aH Tryz.call18 ⟨y18,trivial⟩
def Yw:cg E:={ls:=[{ks:=[0,1,12,13],rs:=[4],ins:=some [⟨[.v (.slice (.named 0)),.v (.slice (.named 0)),.iv,.iv],[],fun s1 s2 a b=>⟨b,N.px s1 s2 a,fun v_=>([.val (.slice (.named 0)) s1,.val (.slice (.named 0)) s2,.iv a,.iv v_],[]),fun x_=>ba x_ (fun c=> .ret (.ret,[.bv false],[])) (fun d=> .ret (.exit 0,[.undef],[]))⟩⟩]}],i:=cu [(.slice (.named 0)),(.slice (.named 0))] [.bool] (N.ru N.fuel)}
theorem adp:aJ Tryz.prog 134 Yw.ins:=go Tryz.func134 rfl trivial trivial ⟨⟨fun _ _ _ _=>⟨rfl,fun _=>by show _=_;kernel_rfl⟩,trivial⟩,trivial⟩ (fun _ _=>by show _=_;kernel_rfl)
def aaQ:SP:=(134,.pure [(.slice (.named 0)),(.slice (.named 0))] (bj [Yw.ins]))
theorem af8:OK aaQ:=aH Tryz.call134 ⟨adp,trivial⟩
def x51:cg E:={S:=[VW,aaQ],i:=cu [(.named 1),(.named 1)] [.bool] (N.xA N.fuel)}
theorem y51:aJ Tryz.prog 51 x51.ins:=go Tryz.func51 rfl ⟨Zu,af8,trivial⟩ trivial trivial (fun _ _=>by show _=_;kernel_rfl)
def P51:SP:=(51,.pure [(.named 1),(.named 1)] (bj [x51.ins]))
theorem p51:OK P51:=aH Tryz.call51 ⟨y51,trivial⟩
def Yv:cg E:={ls:=[{ks:=[0,1,12,13],rs:=[4],ins:=some [⟨[.v (.slice (.named 2)),.v (.slice (.named 2)),.iv,.iv],[],fun s1 s2 a b=>⟨b,N.ow s1 s2 a,fun v_=>([.val (.slice (.named 2)) s1,.val (.slice (.named 2)) s2,.iv a,.iv v_],[]),fun x_=>ba x_ (fun c=> .ret (.ret,[.bv false],[])) (fun d=> .ret (.exit 0,[.undef],[]))⟩⟩]}],i:=cu [(.slice (.named 2)),(.slice (.named 2))] [.bool] (N.qw N.fuel)}
theorem ado:aJ Tryz.prog 135 Yv.ins:=go Tryz.func135 rfl trivial trivial ⟨⟨fun _ _ _ _=>⟨rfl,fun _=>by show _=_;kernel_rfl⟩,trivial⟩,trivial⟩ (fun _ _=>by show _=_;kernel_rfl)
def aaP:SP:=(135,.pure [(.slice (.named 2)),(.slice (.named 2))] (bj [Yv.ins]))
theorem af7:OK aaP:=aH Tryz.call135 ⟨ado,trivial⟩
def Yu:cg E:={ls:=[{ks:=[0,1,12,13],rs:=[4],ins:=some [⟨[.v (.slice (.named 3)),.v (.slice (.named 3)),.iv,.iv],[],fun s1 s2 a b=>⟨b,N.ov s1 s2 a,fun v_=>([.val (.slice (.named 3)) s1,.val (.slice (.named 3)) s2,.iv a,.iv v_],[]),fun x_=>ba x_ (fun c=> .ret (.ret,[.bv false],[])) (fun d=> .ret (.exit 0,[.undef],[]))⟩⟩]}],i:=cu [(.slice (.named 3)),(.slice (.named 3))] [.bool] (N.qv N.fuel)}
theorem adn:aJ Tryz.prog 136 Yu.ins:=go Tryz.func136 rfl trivial trivial ⟨⟨fun _ _ _ _=>⟨rfl,fun _=>by show _=_;kernel_rfl⟩,trivial⟩,trivial⟩ (fun _ _=>by show _=_;kernel_rfl)
def aaO:SP:=(136,.pure [(.slice (.named 3)),(.slice (.named 3))] (bj [Yu.ins]))
theorem af6:OK aaO:=aH Tryz.call136 ⟨adn,trivial⟩
def x52:cg E:={S:=[aaP,aaO],i:=cu [(.named 4),(.named 4)] [.bool] (N.BD N.fuel)}
theorem y52:aJ Tryz.prog 52 x52.ins:=go Tryz.func52 rfl ⟨af7,af6,trivial⟩ trivial trivial (fun _ _=>by show _=_;kernel_rfl)
def P52:SP:=(52,.pure [(.named 4),(.named 4)] (bj [x52.ins]))
theorem p52:OK P52:=aH Tryz.call52 ⟨y52,trivial⟩
def x53:cg E:={ls:=[{ks:=[0,1,12,13],rs:=[4],ins:=some [⟨[.v (.slice (.named 6)),.v (.slice (.named 6)),.iv,.iv],[],fun s1 s2 a b=>⟨b,N.nk s1 s2 a,fun v_=>([.val (.slice (.named 6)) s1,.val (.slice (.named 6)) s2,.iv a,.iv v_],[]),fun x_=>ba x_ (fun c=> .ret (.ret,[.bv false],[])) (fun d=> .ret (.exit 0,[.undef],[]))⟩⟩]}],i:=cu [(.slice (.named 6)),(.slice (.named 6))] [.bool] (N.py N.fuel)}
theorem y53:aJ Tryz.prog 53 x53.ins:=go Tryz.func53 rfl trivial trivial ⟨⟨fun _ _ _ _=>⟨rfl,fun _=>by show _=_;kernel_rfl⟩,trivial⟩,trivial⟩ (fun _ _=>by show _=_;kernel_rfl)
def P53:SP:=(53,.pure [(.slice (.named 6)),(.slice (.named 6))] (bj [x53.ins]))
theorem p53:OK P53:=aH Tryz.call53 ⟨y53,trivial⟩
def x54:cg E:={ls:=[{ks:=[0,1,12,13],rs:=[4],ins:=some [⟨[.v (.slice (.named 7)),.v (.slice (.named 7)),.iv,.iv],[],fun s1 s2 a b=>⟨b,N.oq s1 s2 a,fun v_=>([.val (.slice (.named 7)) s1,.val (.slice (.named 7)) s2,.iv a,.iv v_],[]),fun x_=>ba x_ (fun c=> .ret (.ret,[.bv false],[])) (fun d=> .ret (.exit 0,[.undef],[]))⟩⟩]}],i:=cu [(.slice (.named 7)),(.slice (.named 7))] [.bool] (N.qt N.fuel)}
theorem y54:aJ Tryz.prog 54 x54.ins:=go Tryz.func54 rfl trivial trivial ⟨⟨fun _ _ _ _=>⟨rfl,fun _=>by show _=_;kernel_rfl⟩,trivial⟩,trivial⟩ (fun _ _=>by show _=_;kernel_rfl)
def P54:SP:=(54,.pure [(.slice (.named 7)),(.slice (.named 7))] (bj [x54.ins]))
theorem p54:OK P54:=aH Tryz.call54 ⟨y54,trivial⟩
def x55:cg E:={ls:=[{ks:=[0,1,12,13],rs:=[4],ins:=some [⟨[.v (.slice .i6),.v (.slice .i6),.iv,.iv],[],fun s1 s2 a b=>⟨b,N.pw s1 s2 a,fun v_=>([.val (.slice .i6) s1,.val (.slice .i6) s2,.iv a,.iv v_],[]),fun x_=>ba x_ (fun c=> .ret (.ret,[.bv false],[])) (fun d=> .ret (.exit 0,[.undef],[]))⟩⟩]}],i:=cu [(.slice .i6),(.slice .i6)] [.bool] (N.rr N.fuel)}
theorem y55:aJ Tryz.prog 55 x55.ins:=go Tryz.func55 rfl trivial trivial ⟨⟨fun _ _ _ _=>⟨rfl,fun _=>by show _=_;kernel_rfl⟩,trivial⟩,trivial⟩ (fun _ _=>by show _=_;kernel_rfl)
def P55:SP:=(55,.pure [(.slice .i6),(.slice .i6)] (bj [x55.ins]))
theorem p55:OK P55:=aH Tryz.call55 ⟨y55,trivial⟩
def x56:cg E:={ls:=[{ks:=[0,1,12,13],rs:=[4],ins:=some [⟨[.v (.slice (.named 9)),.v (.slice (.named 9)),.iv,.iv],[],fun s1 s2 a b=>⟨b,N.ou s1 s2 a,fun v_=>([.val (.slice (.named 9)) s1,.val (.slice (.named 9)) s2,.iv a,.iv v_],[]),fun x_=>ba x_ (fun c=> .ret (.ret,[.bv false],[])) (fun d=> .ret (.exit 0,[.undef],[]))⟩⟩]}],i:=cu [(.slice (.named 9)),(.slice (.named 9))] [.bool] (N.qu N.fuel)}
theorem y56:aJ Tryz.prog 56 x56.ins:=go Tryz.func56 rfl trivial trivial ⟨⟨fun _ _ _ _=>⟨rfl,fun _=>by show _=_;kernel_rfl⟩,trivial⟩,trivial⟩ (fun _ _=>by show _=_;kernel_rfl)
def P56:SP:=(56,.pure [(.slice (.named 9)),(.slice (.named 9))] (bj [x56.ins]))
theorem p56:OK P56:=aH Tryz.call56 ⟨y56,trivial⟩
def x22:cg E:={S:=[P51,P52,P53,P54,P55,P56],i:=cu [(.named 10),(.named 10)] [.bool] (N.zH N.fuel)}
theorem y22:aJ Tryz.prog 22 x22.ins:=go Tryz.func22 rfl ⟨p51,p52,p53,p54,p55,p56,trivial⟩ trivial trivial (fun _ _=>by show _=_;kernel_rfl)
def P22:SP:=(22,.pure [(.named 10),(.named 10)] (bj [x22.ins]))
theorem p22:OK P22:=aH Tryz.call22 ⟨y22,trivial⟩
def x11:cg E:={S:=[P12,P14,P18,P22,P27],i:=cu [] [.bool] (N.zP N.fuel)}
theorem y11:aJ Tryz.prog 11 x11.ins:=go Tryz.func11 rfl ⟨p12,p14,p18,p22,p27,trivial⟩ trivial trivial (by show _=_;kernel_rfl)
def P11:SP:=(11,.pure [] (bj [x11.ins]))
theorem p11:OK P11:=aH Tryz.call11 ⟨y11,trivial⟩
def x32:cg E:={aM:=true,i:=⟨[.v (.slice (.int .u8))],[],fun l=> .xa (.ret (N.C7 l)) fun x_=> .ret (.ret [.ptr 0 []],[.bx (.nv 15 x_)])⟩}
theorem y32:aJ Tryz.prog 32 x32.ins:=l4 Tryz.func32 rfl trivial trivial trivial (fun _=>by show _=_;kernel_rfl)
def P32:SP:=(32,.full [.data (.slice (.int .u8))] false (cC [x32.ins]))
theorem p32:OK P32:=bn ok Tryz.call32 ⟨y32,trivial⟩
def x77:cg E:={i:=⟨[.ptr 0 [],.iv],[.bx (.v (.named 15))],fun m p=> .opt (N.oQ m p) fun x_=> .ret (.ret [.iv x_.1],[.bx (.nv 15 x_.2)])⟩}
theorem y77:aJ Tryz.prog 77 x77.ins:=l4 Tryz.func77 rfl trivial trivial trivial (fun _ _=>by show _=_;kernel_rfl)
def P77:SP:=(77,.full [.ptr,.data .i6] false (cC [x77.ins]))
theorem p77:OK P77:=bn ok Tryz.call77 ⟨y77,trivial⟩
def x79:cg E:={S:=[P77],i:=⟨[.ptr 0 []],[.bx (.v (.named 15))],fun p=> .opt (N.mE p) fun x_=> .ret (.ret [.nv 11 x_.1],[.bx (.nv 15 x_.2)])⟩}
theorem y79:aJ Tryz.prog 79 x79.ins:=l4 Tryz.func79 rfl ⟨p77,trivial⟩ trivial trivial (fun _=>by show _=_;kernel_rfl)
def P79:SP:=(79,.full [.ptr] false (cC [x79.ins]))
theorem p79:OK P79:=bn ok Tryz.call79 ⟨y79,trivial⟩
def x78:cg E:={S:=[P77,P79],ls:=[{ks:=[0,5,6],rs:=[4,5],xM:=[.xM (.slot 5) [] (.named 11)],ins:=some [⟨[.ptr 0 [],.own 1,.iv],[.bx (.v (.named 15)),.al (.named 11)],fun i p l=>⟨(i,p,l),N.jC,fun v_=>([.ptr 0 [],.own 1,.iv v_.1],[.bx (.nv 15 v_.2.1),.al (.named 11) v_.2.2]),fun x_=> .ret (.exit 0,[.undef,.own 1],[.bx (.nv 15 x_.1),.al (.named 11) x_.2])⟩⟩]}],aM:=true,i:=⟨[.ptr 0 [],.iv],[.bx (.v (.named 15))],fun a p=> .opt (N.lG N.fuel a p) fun x_=> .ret (.ret [.own 1],[.bx (.nv 15 x_.1),.al (.named 11) x_.2])⟩}
theorem y78:aJ Tryz.prog 78 x78.ins:=l4 Tryz.func78 rfl ⟨p77,p79,trivial⟩ trivial ⟨⟨fun _ _ _=>⟨rfl,fun _=>by show _=_;kernel_rfl⟩,trivial⟩,trivial⟩ (fun _ _=>by show _=_;kernel_rfl)
def P78:SP:=(78,.full [.ptr,.data .i6] false (cC [x78.ins]))
theorem p78:OK P78:=bn ok Tryz.call78 ⟨y78,trivial⟩
def x33:cg E:={S:=[P77,P78,P79],i:=⟨[.ptr 0 []],[.bx (.v (.named 15))],fun p=> .opt (N.oR N.fuel p) fun x_=> .ret (.ret [.nv 12 x_.1],[.bx (.nv 15 x_.2)])⟩}
theorem y33:aJ Tryz.prog 33 x33.ins:=l4 Tryz.func33 rfl ⟨p77,p78,p79,trivial⟩ trivial trivial (fun _=>by show _=_;kernel_rfl)
def P33:SP:=(33,.full [.ptr] false (cC [x33.ins]))
theorem p33:OK P33:=bn ok Tryz.call33 ⟨y33,trivial⟩
def x13:cg E:={S:=[P27,P32,P33],i:=cu [(.named 10),(.arr 4 (.int .u8))] [(.slice (.int .u8))] (N.vH N.fuel)}
theorem y13:aJ Tryz.prog 13 x13.ins:=go Tryz.func13 rfl ⟨p27,p32,p33,trivial⟩ trivial trivial (fun _ _=>by show _=_;kernel_rfl)
def P13:SP:=(13,.pure [(.named 10),(.arr 4 (.int .u8))] (bj [x13.ins]))
theorem p13:OK P13:=aH Tryz.call13 ⟨y13,trivial⟩
def x16:cg E:={ls:=[{ks:=[0,1,5],rs:=[4],ins:=some [⟨[.v (.slice (.named 9)),.v (.slice (.named 9)),.iv],[],fun a b i=>⟨i,N.iy a b,fun v_=>([.val (.slice (.named 9)) a,.val (.slice (.named 9)) b,.iv v_],[]),fun x_=>ba x_ (fun c=> .ret (.ret,[.bv false],[])) (fun d=> .ret (.exit 0,[.undef],[]))⟩⟩]}],i:=cu [(.slice (.named 9)),(.slice (.named 9))] [.bool] (N.nE N.fuel)}
theorem y16:aJ Tryz.prog 16 x16.ins:=go Tryz.func16 rfl trivial trivial ⟨⟨fun _ _ _=>⟨rfl,fun _=>by show _=_;kernel_rfl⟩,trivial⟩,trivial⟩ (fun _ _=>by show _=_;kernel_rfl)
def P16:SP:=(16,.pure [(.slice (.named 9)),(.slice (.named 9))] (bj [x16.ins]))
theorem p16:OK P16:=aH Tryz.call16 ⟨y16,trivial⟩
end
end Go.Proofs.YtlejgahbbfeagaaGreatDoor.V

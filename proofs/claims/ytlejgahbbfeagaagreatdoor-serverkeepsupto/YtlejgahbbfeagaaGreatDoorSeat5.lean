/- The seat's functions, and the nice ones (2). The seat's functions, and the nice ones (3). Loops and whole numbers of the nice functions. -/
import Derived.Test.YtlejgahbbfeagaaGreatDoorSeat4
import Derived.Test.YtlejgahbbfeagaaGreatDoorBase5
import Derived.Laws.BitsLemmas
set_option linter.unusedVariables false
set_option maxRecDepth 100000
namespace Go.Proofs.YtlejgahbbfeagaaGreatDoor.V
open Go Go.Proofs.YtlejgahbbfeagaaGreatDoor.D
noncomputable section
def X8:cg E:={S:=[Vl,Vk,Z1,Z0,ZZ,Zj,Zi],D:=[(185,VA)],ls:=[{ks:=[1,2,6,7,8,54,55,56],rs:=[1,2,6,7,8],d:=[(185,[.ptr 3 [],.ptr 1 [],.ptr 2 []])],ins:=some [⟨[.iv,.v (.slice (.named 0)),.ptr 1 [],.ptr 2 [],.ptr 3 [],.v (.slice (.named 0)),.iv,.iv],[.bx (.v (.named 1)),.bx (.agg 1 [.bj,.bj,.iv,.v .bool]),.bx (.v .bool),.bx (.v (.named 19)),.arr .ba .str,.arr .ba (.named 0)],fun a l b c e o0 f g ok w r4 r5=>⟨(e,(N.aN.mk [] [] f g),w),N.me a l b c o0 ok r4 r5,fun v_=>([.iv a,.val (.slice (.named 0)) l,.ptr 1 [],.ptr 2 [],.ptr 3 [],.val (.slice (.named 0)) b,.iv c,.iv v_.1],[.bx (.nv 1 o0),.bx (g1 v_.2.1),.bx (.bv ok),.bx (.nv 19 v_.2.2),.arr .ba .str r4,.arr .ba (.named 0) r5]),fun x_=>bf x_ (fun h=> .ret (.panic (.fG 292 (.nv 16 N.fa.mk)),[.iv a,.val (.slice (.named 0)) l,.ptr 1 [],.ptr 2 [],.ptr 3 []],[.bx (.nv 1 o0),.bx (g1 h.1),.bx (.bv ok),.bx (.nv 19 h.2.1),.arr .ba .str r4,.arr .ba (.named 0) r5,.bx (.nv 0 h.2.2)])) (fun j=> .ret (.exit 0,[.iv a,.val (.slice (.named 0)) l,.ptr 1 [],.ptr 2 [],.ptr 3 []],[.bx (.nv 1 o0),.bx (g1 j.1),.bx (.bv ok),.bx (.nv 19 j.2),.arr .ba .str r4,.arr .ba (.named 0) r5]))⟩⟩]},{ks:=[6,7,8,79,80,81],rs:=[6,7,8],d:=[(185,[.ptr 3 [],.ptr 1 [],.ptr 2 []])],ins:=some [⟨[.ptr 1 [],.ptr 2 [],.ptr 3 [],.v (.slice (.named 0)),.iv,.iv],[.bx (.v (.named 1)),.bx (.agg 1 [.bj,.bj,.iv,.v .bool]),.bx (.v .bool),.bx (.v (.named 19)),.arr .ba .str,.arr .ba (.named 0)],fun k m n o0 f g ok w r4 r5=>⟨(n,(N.aN.mk [] [] f g),w),N.mc k m o0 ok r4 r5,fun v_=>([.ptr 1 [],.ptr 2 [],.ptr 3 [],.val (.slice (.named 0)) k,.iv m,.iv v_.1],[.bx (.nv 1 o0),.bx (g1 v_.2.1),.bx (.bv ok),.bx (.nv 19 v_.2.2),.arr .ba .str r4,.arr .ba (.named 0) r5]),fun x_=>bf x_ (fun h=> .ret (.panic (.fG 292 (.nv 16 N.fa.mk)),[.ptr 1 [],.ptr 2 [],.ptr 3 []],[.bx (.nv 1 o0),.bx (g1 h.1),.bx (.bv ok),.bx (.nv 19 h.2.1),.arr .ba .str r4,.arr .ba (.named 0) r5,.bx (.nv 0 h.2.2)])) (fun j=> .ret (.exit 2,[.ptr 1 [],.ptr 2 [],.ptr 3 []],[.bx (.nv 1 o0),.bx (g1 j.1),.bx (.bv ok),.bx (.nv 19 j.2),.arr .ba .str r4,.arr .ba (.named 0) r5]))⟩⟩]}],i:=cE [(.named 1),.i6,(.slice (.named 0))] [(.named 1),.bool] (N.s7 N.fuel)}
theorem acM:aM Tryz.prog 113 X8.ins:=go Tryz.func113 rfl ⟨YL,YK,adP,adO,adN,p80,p81,trivial⟩ ⟨YM,trivial⟩ ⟨⟨fun _ _ _ _ _ _ _ _ _ _ _ _=>⟨rfl,fun _=>by show _=_;kernel_rfl⟩,trivial⟩,⟨⟨fun _ _ _ _ _ _ _ _ _ _=>⟨rfl,fun _=>by show _=_;kernel_rfl⟩,trivial⟩,trivial⟩⟩ (fun _ _ _=>by show _=_;kernel_rfl)
def aak:SP:=(113,.pure [(.named 1),.i6,(.slice (.named 0))] (bz [X8.ins]))
theorem aen:OK aak:=aJ Tryz.call113 ⟨acM,trivial⟩
def X7:cg E:={ls:=[{ks:=[0,4,7,8,9],rs:=[4],zR:=[.zR (.slot 4) [] (.named 0)],ins:=some [⟨[.v (.slice .str),.own 0,.v (.slice .str),.iv,.iv],[.al (.named 0)],fun a t7 t8 t9 l=>⟨(t9,l),N.rC a t7 t8,fun v_=>([.val (.slice .str) a,.own 0,.val (.slice .str) t7,.iv t8,.iv v_.1],[.al (.named 0) v_.2]),fun x_=> .ret (.exit 0,[.own 0],[.al (.named 0) x_])⟩⟩]}],i:=cE [(.slice .str),(.slice .str)] [(.slice (.named 0))] (N.vt N.fuel)}
theorem acL:aM Tryz.prog 114 X7.ins:=go Tryz.func114 rfl trivial trivial ⟨⟨fun _ _ _ _ _=>⟨rfl,fun _=>by show _=_;kernel_rfl⟩,trivial⟩,trivial⟩ (fun _ _=>by show _=_;kernel_rfl)
def aaj:SP:=(114,.pure [(.slice .str),(.slice .str)] (bz [X7.ins]))
theorem aem:OK aaj:=aJ Tryz.call114 ⟨acL,trivial⟩
def x43:cg E:={S:=[Ru,aal,aak,aaj,Zk],i:=cE [(.named 5),(.named 4)] [(.named 5),.bool] (N.qP N.fuel)}
theorem y43:aM Tryz.prog 43 x43.ins:=go Tryz.func43 rfl ⟨R4,aeo,aen,aem,p74,trivial⟩ trivial trivial (fun _ _=>by show _=_;kernel_rfl)
def P43:SP:=(43,.pure [(.named 5),(.named 4)] (bz [x43.ins]))
theorem p43:OK P43:=aJ Tryz.call43 ⟨y43,trivial⟩
def XC:cg E:={S:=[P43],i:=⟨[.ptr 0 [],.v (.named 4)],[.bx (se 1 2 3 4 5 6 7 8),.al .str,.al (.named 0),.arr .ba (.named 2),.arr .ba (.named 3),.al (.named 6),.al (.named 7),.arr .fix .i6,.al (.named 9)],fun s a b c d e f g h j k l m n o p q=> .opt (N.gk N.fuel s (N.ax.mk (N.aI.mk (N.bV.mk (N.aN.mk j k a b) (N.aG.mk l m c)) (N.b9.mk n o) p q d e f g h) [])) fun x_=>bf x_ (fun r=> .ret (.ret [],[.bx (xS r.1 5 6 7 8),.arr .ba .str r.2.1,.arr .ba (.named 0) r.2.2,.arr .ba (.named 2) l,.arr .ba (.named 3) m,.al (.named 6) r.1.Server.bd.bF,.al (.named 7) r.1.Server.bd.cZ,.arr .fix .i6 r.1.Server.Seen,.al (.named 9) r.1.Server.Told])) (fun t=> .ret (.panic (.fG 213 (.nv 16 N.fa.mk)),[.bx (xS t.1 5 6 7 8),.arr .ba .str t.2.1,.arr .ba (.named 0) t.2.2,.arr .ba (.named 2) l,.arr .ba (.named 3) m,.al (.named 6) t.1.Server.bd.bF,.al (.named 7) t.1.Server.bd.cZ,.arr .fix .i6 t.1.Server.Seen,.al (.named 9) t.1.Server.Told]))⟩}
theorem ace:aM Tryz.prog 176 XC.ins:=mD Tryz.func176 rfl ⟨p43,trivial⟩ trivial trivial (fun _ _ _ _ _ _ _ _ _ _ _ _ _ _ _ _ _=>by show _=_;kernel_rfl)
def Tx:cg E:={S:=[P43],i:=⟨[.ptr 0 [],.v (.named 4)],[.bx (se 1 2 3 4 5 6 7 8),.al .str,.al (.named 0),.arr .ba (.named 2),.arr .ba (.named 3),.arr .ba (.named 6),.al (.named 7),.arr .fix .i6,.al (.named 9)],fun s a b c d e f g h j k l m n o p q=> .opt (N.gk N.fuel s (N.ax.mk (N.aI.mk (N.bV.mk (N.aN.mk j k a b) (N.aG.mk l m c)) (N.b9.mk n o) p q d e f g h) [])) fun x_=>bf x_ (fun r=> .ret (.ret [],[.bx (xS r.1 5 6 7 8),.arr .ba .str r.2.1,.arr .ba (.named 0) r.2.2,.arr .ba (.named 2) l,.arr .ba (.named 3) m,.arr .ba (.named 6) r.1.Server.bd.bF,.al (.named 7) r.1.Server.bd.cZ,.arr .fix .i6 r.1.Server.Seen,.al (.named 9) r.1.Server.Told])) (fun t=> .ret (.panic (.fG 213 (.nv 16 N.fa.mk)),[.bx (xS t.1 5 6 7 8),.arr .ba .str t.2.1,.arr .ba (.named 0) t.2.2,.arr .ba (.named 2) l,.arr .ba (.named 3) m,.arr .ba (.named 6) t.1.Server.bd.bF,.al (.named 7) t.1.Server.bd.cZ,.arr .fix .i6 t.1.Server.Seen,.al (.named 9) t.1.Server.Told]))⟩}
theorem VX:aM Tryz.prog 176 Tx.ins:=mD Tryz.func176 rfl ⟨p43,trivial⟩ trivial trivial (fun _ _ _ _ _ _ _ _ _ _ _ _ _ _ _ _ _=>by show _=_;kernel_rfl)
def S5:SP:=(176,.full [.ptr,.data (.named 4)] false (cC [XC.ins,Tx.ins]))
theorem UA:OK S5:=br ok Tryz.call176 ⟨ace,VX,trivial⟩
def XB:cg E:={S:=[T3],aH:=true,i:=⟨[.ptr 0 [],.v (.named 12),.v (.named 3)],[.bx (LP 1 2 3 4),.al (.named 6),.al (.named 7),.arr .fix .i6,.al (.named 9)],fun a m b c d e f g h j k l=> .opt (N.gG a m (N.ax.mk (N.aI.mk b (N.b9.mk h j) k l c d e f g) [])) fun x_=> .ret (.ret [],[.bx (HE x_ 1 2 3 4 10),.al (.named 6) x_.Server.bd.bF,.al (.named 7) x_.Server.bd.cZ,.arr .fix .i6 x_.Server.Seen,.al (.named 9) x_.Server.Told,.dead,.dead,.dead,.dead,.dead,.al (.named 9) x_.told])⟩}
theorem acd:aM Tryz.prog 177 XB.ins:=mD Tryz.func177 rfl ⟨Us,trivial⟩ trivial trivial (fun _ _ _ _ _ _ _ _ _ _ _ _=>by show _=_;kernel_rfl)
def Tw:cg E:={S:=[T3],aH:=true,i:=⟨[.ptr 0 [],.v (.named 12),.v (.named 3)],[.bx (LO 1 2),.arr .fix .i6,.al (.named 9)],fun a m b c d e f g h j k=> .opt (N.gG a m (N.ax.mk (N.aI.mk b c j k d e f g h) [])) fun x_=> .ret (.ret [],[.bx (FA x_ 1 2 8),.arr .fix .i6 x_.Server.Seen,.al (.named 9) x_.Server.Told,.dead,.dead,.dead,.dead,.dead,.al (.named 9) x_.told])⟩}
theorem VW:aM Tryz.prog 177 Tw.ins:=mD Tryz.func177 rfl ⟨Us,trivial⟩ trivial trivial (fun _ _ _ _ _ _ _ _ _ _ _=>by show _=_;kernel_rfl)
def S4:SP:=(177,.full [.ptr,.data (.named 12),.data (.named 3)] false (cC [XB.ins,Tw.ins]))
theorem Uz:OK S4:=br ok Tryz.call177 ⟨acd,VW,trivial⟩
def x94:cg E:={S:=[aa0,S5,S4],aH:=true,i:=⟨[.ptr 0 [],.v (.named 12)],[.bx (se 1 2 3 4 5 6 7 8),.al .str,.al (.named 0),.al (.named 2),.al (.named 3),.al (.named 6),.al (.named 7),.arr .fix .i6,.al (.named 9)],fun a b c d e f g h j k l m n o p q r=> .opt (N.lC N.fuel a (N.ax.mk (N.aI.mk (N.bV.mk (N.aN.mk k l b c) (N.aG.mk m n d)) (N.b9.mk o p) q r e f g h j) [])) fun x_=>bf x_ (fun s=> .ret (.ret [],[.bx (HE s.1 5 6 7 8 17),.arr .ba .str s.2.1,.arr .ba (.named 0) s.2.2.1,.arr .ba (.named 2) s.2.2.2.1,.arr .ba (.named 3) s.2.2.2.2,.al (.named 6) s.1.Server.bd.bF,.al (.named 7) s.1.Server.bd.cZ,.arr .fix .i6 s.1.Server.Seen,.al (.named 9) s.1.Server.Told,.dead,.dead,.dead,.dead,.dead,.dead,.dead,.dead,.al (.named 9) s.1.told])) (fun t=> .ret (.panic (.fG 213 (.nv 16 N.fa.mk)),[.bx (xS t.1 5 6 7 8),.arr .ba .str t.2.1,.arr .ba (.named 0) t.2.2.1,.arr .ba (.named 2) t.2.2.2.1,.arr .ba (.named 3) t.2.2.2.2,.al (.named 6) t.1.Server.bd.bF,.al (.named 7) t.1.Server.bd.cZ,.arr .fix .i6 t.1.Server.Seen,.al (.named 9) t.1.Server.Told,.dead,.dead,.dead]))⟩}
theorem y94:aM Tryz.prog 94 x94.ins:=mD Tryz.func94 rfl ⟨ae0,UA,Uz,trivial⟩ trivial trivial (fun _ _ _ _ _ _ _ _ _ _ _ _ _ _ _ _ _=>by show _=_;kernel_rfl)
def P94:SP:=(94,.full [.ptr,.data (.named 12)] false (cC [x94.ins]))
theorem p94:OK P94:=br ok Tryz.call94 ⟨y94,trivial⟩
def XU:cg E:={i:=⟨[.ptr 0 [],.iv],[.bx (se 1 2 3 4 5 6 7 8),.al .str,.al (.named 0),.al (.named 2),.al (.named 3),.al (.named 6),.al (.named 7),.arr .fix .i6,.al (.named 9)],fun n a b c d e f g h j k l m o p q r=> .opt (N.im n (N.ax.mk (N.aI.mk (N.bV.mk (N.aN.mk j k a b) (N.aG.mk l m c)) (N.b9.mk o p) q r d e f g h) [])) fun x_=> .ret (.ret [.bv x_],[.bx (.agg 13 [.agg 10 [.agg 5 [.agg 1 [.own 1,.own 2,.iv a,.bv b],.agg 4 [.own 3,.own 4,.iv c]],.agg 8 [.own 5,.own 6],.own 7,.own 8,.iv d,.iv e,.iv f,.bv g,.iv h],.bj]),.al .str j,.al (.named 0) k,.al (.named 2) l,.al (.named 3) m,.al (.named 6) o,.al (.named 7) p,.arr .fix .i6 q,.al (.named 9) r])⟩}
theorem acy:aM Tryz.prog 152 XU.ins:=mD Tryz.func152 rfl trivial trivial trivial (fun _ _ _ _ _ _ _ _ _ _ _ _ _ _ _ _ _=>by show _=_;kernel_rfl)
def TH:cg E:={i:=⟨[.ptr 0 [],.iv],[.bx (G5 1 2 3 4 5 6),.al .str,.al (.named 0),.al (.named 2),.al (.named 3),.arr .fix .i6,.al (.named 9)],fun n a b c d e f g h j k l m o p q=> .opt (N.im n (N.ax.mk (N.aI.mk (N.bV.mk (N.aN.mk k l a b) (N.aG.mk m o c)) d p q e f g h j) [])) fun x_=> .ret (.ret [.bv x_],[.bx (.agg 13 [.agg 10 [.agg 5 [.agg 1 [.own 1,.own 2,.iv a,.bv b],.agg 4 [.own 3,.own 4,.iv c]],.nv 8 d,.own 5,.own 6,.iv e,.iv f,.iv g,.bv h,.iv j],.bj]),.al .str k,.al (.named 0) l,.al (.named 2) m,.al (.named 3) o,.arr .fix .i6 p,.al (.named 9) q])⟩}
theorem V5:aM Tryz.prog 152 TH.ins:=mD Tryz.func152 rfl trivial trivial trivial (fun _ _ _ _ _ _ _ _ _ _ _ _ _ _ _ _=>by show _=_;kernel_rfl)
def S7:SP:=(152,.full [.ptr,.data .i6] false (cC [XU.ins,TH.ins]))
theorem UB:OK S7:=br ok Tryz.call152 ⟨acy,V5,trivial⟩
def Wz:cg E:={i:=⟨[.v (.named 6),.ptr 0 []],[.box true (.iv)],fun x o0=> .wH (.ret (N.eM x o0)) fun x_=> .ret (.ret [.bv x_],[.box true (.iv o0)])⟩}
theorem abf:aM Tryz.prog 273 Wz.ins:=go Tryz.func273 rfl trivial trivial trivial (fun _ _=>by show _=_;kernel_rfl)
def U9:SP:=(273,.full [.data (.named 6),.ptr] true (cC [Wz.ins]))
theorem Yz:OK U9:=br ok Tryz.call273 ⟨abf,trivial⟩
def Wl:cg E:={i:=⟨[.v (.named 6),.ptr 0 [],.ptr 1 []],[.box true (.iv),.box true (.iv)],fun x o0 o1=> .wH (N.pR x o0 o1) fun x_=> .ret (.ret [.bv x_],[.box true (.iv o0),.box true (.iv o1)])⟩}
theorem ab1:aM Tryz.prog 294 Wl.ins:=go Tryz.func294 rfl trivial trivial trivial (fun _ _ _=>by show _=_;kernel_rfl)
def U3:SP:=(294,.full [.data (.named 6),.ptr,.ptr] true (cC [Wl.ins]))
theorem Yt:OK U3:=br ok Tryz.call294 ⟨ab1,trivial⟩
def Wi:cg E:={S:=[U9],ls:=[{ks:=[0,1,7,8],rs:=[4],ins:=some [⟨[.v (.slice (.named 6)),.fn 273 [.ptr 0 []],.iv,.iv],[.box true (.iv)],fun s t7 t8 o0=>⟨t8,N.ka s t7 o0,fun v_=>([.val (.slice (.named 6)) s,.fn 273 [.ptr 0 []],.iv t7,.iv v_],[.box true (.iv o0)]),fun x_=>bf x_ (fun a=> .ret (.ret,[.iv a],[.box true (.iv o0)])) (fun b=> .ret (.exit 0,[.undef],[.box true (.iv o0)]))⟩⟩]}],i:=⟨[.v (.slice (.named 6)),.fn 273 [.ptr 0 []]],[.box true (.iv)],fun s o0=> .opt (N.gV N.fuel s o0) fun x_=> .ret (.ret [.iv x_],[.box true (.iv o0)])⟩}
theorem aaY:aM Tryz.prog 304 Wi.ins:=go Tryz.func304 rfl ⟨Yz,trivial⟩ trivial ⟨⟨fun _ _ _ _=>⟨rfl,fun _=>by show _=_;kernel_rfl⟩,trivial⟩,trivial⟩ (fun _ _=>by show _=_;kernel_rfl)
def Tj:cg E:={S:=[U3],ls:=[{ks:=[0,1,7,8],rs:=[4],ins:=some [⟨[.v (.slice (.named 6)),.fn 294 [.ptr 0 [],.ptr 1 []],.iv,.iv],[.box true (.iv),.box true (.iv)],fun s t7 t8 o0 o1=>⟨t8,N.jm s t7 o0 o1,fun v_=>([.val (.slice (.named 6)) s,.fn 294 [.ptr 0 [],.ptr 1 []],.iv t7,.iv v_],[.box true (.iv o0),.box true (.iv o1)]),fun x_=>bf x_ (fun a=> .ret (.ret,[.iv a],[.box true (.iv o0),.box true (.iv o1)])) (fun b=> .ret (.exit 0,[.undef],[.box true (.iv o0),.box true (.iv o1)]))⟩⟩]}],i:=⟨[.v (.slice (.named 6)),.fn 294 [.ptr 0 [],.ptr 1 []]],[.box true (.iv),.box true (.iv)],fun s o0 o1=> .opt (N.fV N.fuel s o0 o1) fun x_=> .ret (.ret [.iv x_],[.box true (.iv o0),.box true (.iv o1)])⟩}
theorem VI:aM Tryz.prog 304 Tj.ins:=go Tryz.func304 rfl ⟨Yt,trivial⟩ trivial ⟨⟨fun _ _ _ _ _=>⟨rfl,fun _=>by show _=_;kernel_rfl⟩,trivial⟩,trivial⟩ (fun _ _ _=>by show _=_;kernel_rfl)
def U2:SP:=(304,.full [.data (.slice (.named 6)),.func] true (cC [Wi.ins,Tj.ins]))
theorem Ys:OK U2:=br ok Tryz.call304 ⟨aaY,VI,trivial⟩
def Lx:cg E:={S:=[U9,U2],ls:=[{ks:=[0,1,4,5,6],rs:=[0,4,5],ins:=some [⟨[.own 0,.fn 273 [.ptr 1 []],.bj,.iv,.iv],[.al (.named 6),.bx (.iv)],fun i j s o1=>⟨(i,j,s),N.jT o1,fun v_=>([.own 0,.fn 273 [.ptr 1 []],.bj,.iv v_.1,.iv v_.2.1],[.al (.named 6) v_.2.2,.bx (.iv o1)]),fun x_=> .ret (.exit 0,[.own 0,.bj,.iv x_.1],[.al (.named 6) x_.2,.bx (.iv o1)])⟩⟩]}],aH:=true,i:=⟨[.own 0,.fn 273 [.ptr 1 []]],[.al (.named 6),.bx (.iv)],fun r0 o1=> .opt (N.gw N.fuel o1 r0) fun x_=> .ret (.ret [.own 0],[.al (.named 6) x_,.bx (.iv o1)])⟩}
theorem abg:aM Tryz.prog 272 Lx.ins:=vw (B:=EL (FW E (jX Lx.S) (Lx.L Tryz.f272) 4 (.named 6) Tryz.f272)) (Ee ok (C2 sound mix (S:=Lx.S) ⟨Yz,Ys,trivial⟩ (L:=Lx.L Tryz.f272) (m:=4) (TL:=34) (TE:=72) Tryz.func272 rfl (by kernel_rfl) (tT (x:=Lx) ⟨⟨fun _ _ _ _=>⟨rfl,fun _=>by show _=_;kernel_rfl⟩,trivial⟩,trivial⟩) Tryz.underlying34 rfl (fun h=>nomatch h) M9)) (fun _ _=>by show _=_;kernel_rfl)
def EE:cg E:={S:=[U3,U2],ls:=[{ks:=[0,1,4,5,6],rs:=[0,4,5],ins:=some [⟨[.own 0,.fn 294 [.ptr 1 [],.ptr 2 []],.bj,.iv,.iv],[.al (.named 6),.bx (.iv),.bx (.iv)],fun i j s o1 o2=>⟨(i,j,s),N.iO o1 o2,fun v_=>([.own 0,.fn 294 [.ptr 1 [],.ptr 2 []],.bj,.iv v_.1,.iv v_.2.1],[.al (.named 6) v_.2.2,.bx (.iv o1),.bx (.iv o2)]),fun x_=> .ret (.exit 0,[.own 0,.bj,.iv x_.1],[.al (.named 6) x_.2,.bx (.iv o1),.bx (.iv o2)])⟩⟩]}],aH:=true,i:=⟨[.own 0,.fn 294 [.ptr 1 [],.ptr 2 []]],[.al (.named 6),.bx (.iv),.bx (.iv)],fun r0 o1 o2=> .opt (N.fJ N.fuel o1 o2 r0) fun x_=> .ret (.ret [.own 0],[.al (.named 6) x_,.bx (.iv o1),.bx (.iv o2)])⟩}
theorem VL:aM Tryz.prog 272 EE.ins:=vw (B:=EL (FW E (jX EE.S) (EE.L Tryz.f272) 4 (.named 6) Tryz.f272)) (Ee ok (C2 sound mix (S:=EE.S) ⟨Yt,Ys,trivial⟩ (L:=EE.L Tryz.f272) (m:=4) (TL:=34) (TE:=72) Tryz.func272 rfl (by kernel_rfl) (tT (x:=EE) ⟨⟨fun _ _ _ _ _=>⟨rfl,fun _=>by show _=_;kernel_rfl⟩,trivial⟩,trivial⟩) Tryz.underlying34 rfl (fun h=>nomatch h) M9)) (fun _ _ _=>by show _=_;kernel_rfl)
def Va:SP:=(272,.full [.ptr,.func] false (cC [Lx.ins,EE.ins]))
theorem YA:OK Va:=br ok Tryz.call272 ⟨abg,VL,trivial⟩
def Xl:cg E:={S:=[Va,Zg],i:=cE [(.slice (.named 6)),.i6] [(.slice (.named 6))] (N.sX N.fuel)}
theorem abW:aM Tryz.prog 216 Xl.ins:=go Tryz.func216 rfl ⟨YA,p84,trivial⟩ trivial trivial (fun _ _=>by show _=_;kernel_rfl)
def ZY:SP:=(216,.pure [(.slice (.named 6)),.i6] (bz [Xl.ins]))
theorem adM:OK ZY:=aJ Tryz.call216 ⟨abW,trivial⟩
def X0:cg E:={S:=[ZY,U1],i:=cE [(.named 8),.i6] [(.named 8)] (N.tm N.fuel)}
theorem acE:aM Tryz.prog 144 X0.ins:=go Tryz.func144 rfl ⟨adM,VE,trivial⟩ trivial trivial (fun _ _=>by show _=_;kernel_rfl)
def aae:SP:=(144,.pure [(.named 8),.i6] (bz [X0.ins]))
theorem aeg:OK aae:=aJ Tryz.call144 ⟨acE,trivial⟩
def Wh:cg E:={i:=⟨[.iv],[],fun x=> .wH (.ret (N.l5 x)) fun x_=> .ret (.ret [.bv x_],[])⟩}
theorem aaX:aM Tryz.prog 307 Wh.ins:=go Tryz.func307 rfl trivial trivial trivial (fun _=>by show _=_;kernel_rfl)
def Zn:SP:=(307,.pure [.i6] (bz [Wh.ins]))
theorem ad7:OK Zn:=aJ Tryz.call307 ⟨aaX,trivial⟩
def Wx:cg E:={S:=[Zn],i:=⟨[.iv,.iv],[],fun x y=> .wH (N.nM x y) fun x_=> .ret (.ret [.iv x_],[])⟩}
theorem abd:aM Tryz.prog 276 Wx.ins:=go Tryz.func276 rfl ⟨ad7,trivial⟩ trivial trivial (fun _ _=>by show _=_;kernel_rfl)
def Zv:SP:=(276,.pure [.i6,.i6] (bz [Wx.ins]))
theorem adj:OK Zv:=aJ Tryz.call276 ⟨abd,trivial⟩
def Wy:cg E:={ls:=[{ks:=[3,6,7,8],rs:=[2,3],ins:=some [⟨[.iv,.v (.slice .i6),.iv,.iv],[],fun a t6 t7 t8=>⟨t8,N.yg a t6 t7,fun v_=>([.iv a,.val (.slice .i6) t6,.iv t7,.iv v_],[]),fun x_=>bf x_ (fun b=> .ret (.ret,[.iv b,.iv a],[])) (fun c=> .ret (.exit 0,[.undef,.iv a],[]))⟩⟩]}],i:=cE [(.slice .i6)] [.i6] (N.vT N.fuel)}
theorem abe:aM Tryz.prog 275 Wy.ins:=go Tryz.func275 rfl trivial trivial ⟨⟨fun _ _ _ _=>⟨rfl,fun _=>by show _=_;kernel_rfl⟩,trivial⟩,trivial⟩ (fun _=>by show _=_;kernel_rfl)
def Zw:SP:=(275,.pure [(.slice .i6)] (bz [Wy.ins]))
theorem adk:OK Zw:=aJ Tryz.call275 ⟨abe,trivial⟩
def Xg:cg E:={S:=[Zw,Zv],i:=cE [(.named 6),(.named 6)] [.i6] (N.sW N.fuel)}
theorem abR:aM Tryz.prog 222 Xg.ins:=go Tryz.func222 rfl ⟨adk,adj,trivial⟩ trivial trivial (fun _ _=>by show _=_;kernel_rfl)
def ZV:SP:=(222,.pure [(.named 6),(.named 6)] (bz [Xg.ins]))
theorem adJ:OK ZV:=aJ Tryz.call222 ⟨abR,trivial⟩
def Xh:cg E:={S:=[ZV],ls:=[{ks:=[0,2,4,8,9,10],rs:=[0,2,4,6,7,8,9],ins:=some [⟨[.v (.slice (.named 6)),.fn 222 [],.ptr 0 [],.iv,.iv,.iv],[.bx (.v (.named 6))],fun x n i j a=>⟨(i,j),N.ep N.fuel x n a,fun v_=>([.val (.slice (.named 6)) x,.fn 222 [],.ptr 0 [],.iv n,.iv v_.1,.iv v_.2],[.bx (.nv 6 a)]),fun x_=> .ret (.exit 0,[.val (.slice (.named 6)) x,.fn 222 [],.ptr 0 [],.undef,.undef,.iv n,.iv x_],[.bx (.nv 6 a)])⟩⟩]}],i:=⟨[.v (.slice (.named 6)),.v (.named 6),.fn 222 []],[],fun x a=> .opt (N.eW N.fuel x a) fun x_=> .ret (.ret [.iv x_.1,.bv x_.2],[])⟩}
theorem abS:aM Tryz.prog 221 Xh.ins:=go Tryz.func221 rfl ⟨adJ,trivial⟩ trivial ⟨⟨fun _ _ _ _ _=>⟨rfl,fun _=>by show _=_;kernel_rfl⟩,trivial⟩,trivial⟩ (fun _ _=>by show _=_;kernel_rfl)
def Vh:SP:=(221,.full [.data (.slice (.named 6)),.data (.named 6),.func] true (cC [Xh.ins]))
theorem YH:OK Vh:=br ok Tryz.call221 ⟨abS,trivial⟩
def XV:cg E:={S:=[Vh],i:=cE [(.slice (.named 6)),.i6,.i6,.i6] [.i6] (N.sY N.fuel)}
theorem acz:aM Tryz.prog 151 XV.ins:=go Tryz.func151 rfl ⟨YH,trivial⟩ trivial trivial (fun _ _ _ _=>by show _=_;kernel_rfl)
def S8:SP:=(151,.pure [(.slice (.named 6)),.i6,.i6,.i6] (bz [XV.ins]))
theorem UC:OK S8:=aJ Tryz.call151 ⟨acz,trivial⟩
def Xi:cg E:={S:=[S8],ls:=[{ks:=[0,1,2,3,4,10,14,15,16],rs:=[10],zR:=[.zR (.slot 10) [] .i6],ins:=some [⟨[.v (.slice (.named 6)),.iv,.iv,.iv,.iv,.own 0,.v (.slice (.named 6)),.iv,.iv],[.al .i6],fun l a b c d e f g h=>⟨(g,h),N.pS N.fuel l a b c d e f,fun v_=>([.val (.slice (.named 6)) l,.iv a,.iv b,.iv c,.iv d,.own 0,.val (.slice (.named 6)) e,.iv f,.iv v_.1],[.al .i6 v_.2]),fun x_=> .ret (.exit 0,[.own 0],[.al .i6 x_])⟩⟩]}],i:=cE [(.slice (.named 6)),.i6,.i6,.i6,.i6] [(.slice .i6)] (N.s4 N.fuel)}
theorem abT:aM Tryz.prog 219 Xi.ins:=go Tryz.func219 rfl ⟨UC,trivial⟩ trivial ⟨⟨fun _ _ _ _ _ _ _ _ _=>⟨rfl,fun _=>by show _=_;kernel_rfl⟩,trivial⟩,trivial⟩ (fun _ _ _ _ _=>by show _=_;kernel_rfl)
def Vi:SP:=(219,.pure [(.slice (.named 6)),.i6,.i6,.i6,.i6] (bz [Xi.ins]))
theorem YI:OK Vi:=aJ Tryz.call219 ⟨abT,trivial⟩
def XW:cg E:={S:=[Vi],i:=cE [(.named 8),.i6,(.named 7)] [(.slice .i6)] (N.qv N.fuel)}
theorem acA:aM Tryz.prog 149 XW.ins:=go Tryz.func149 rfl ⟨YI,trivial⟩ trivial trivial (fun _ _ _=>by show _=_;kernel_rfl)
def Vt:SP:=(149,.pure [(.named 8),.i6,(.named 7)] (bz [XW.ins]))
theorem YX:OK Vt:=aJ Tryz.call149 ⟨acA,trivial⟩
def Xk:cg E:={ls:=[{ks:=[1,2,9,10,11],rs:=[6],ins:=some [⟨[.iv,.iv,.v (.slice (.named 7)),.iv,.iv],[],fun a b t9 c d=>⟨d,N.rr a b t9 c,fun v_=>([.iv a,.iv b,.val (.slice (.named 7)) t9,.iv c,.iv v_],[]),fun x_=>bf x_ (fun e=> .ret (.ret,[.bv e.1],[.bx (.nv 7 e.2)])) (fun f=> .ret (.exit 0,[.undef],[]))⟩⟩]}],i:=cE [(.slice (.named 7)),.i6,.i6] [.bool] (N.uY N.fuel)}
theorem abV:aM Tryz.prog 217 Xk.ins:=go Tryz.func217 rfl trivial trivial ⟨⟨fun _ _ _ _ _=>⟨rfl,fun _=>by show _=_;kernel_rfl⟩,trivial⟩,trivial⟩ (fun _ _ _=>by show _=_;kernel_rfl)
def ZX:SP:=(217,.pure [(.slice (.named 7)),.i6,.i6] (bz [Xk.ins]))
theorem adL:OK ZX:=aJ Tryz.call217 ⟨abV,trivial⟩
def XY:cg E:={S:=[Vt,ZX],i:=cE [(.named 8),.i6,(.named 7)] [.bool] (N.AE N.fuel)}
theorem acC:aM Tryz.prog 147 XY.ins:=go Tryz.func147 rfl ⟨YX,adL,trivial⟩ trivial trivial (fun _ _ _=>by show _=_;kernel_rfl)
def aad:SP:=(147,.pure [(.named 8),.i6,(.named 7)] (bz [XY.ins]))
theorem aef:OK aad:=aJ Tryz.call147 ⟨acC,trivial⟩
def x45:cg E:={i:=⟨[.iv,.iv],[],fun a b=> .wH (N.yi a b) fun x_=> .ret (.ret [.iv x_],[])⟩}
theorem y45:aM Tryz.prog 45 x45.ins:=go Tryz.func45 rfl trivial trivial trivial (fun _ _=>by show _=_;kernel_rfl)
def P45:SP:=(45,.pure [.i6,.i6] (bz [x45.ins]))
theorem p45:OK P45:=aJ Tryz.call45 ⟨y45,trivial⟩
def Zx:SP:=(274,.full [.ptr,.data .i6,.data (.slice (.named 6))] false (Mm E (.named 6)))
theorem U0:4=E.size (.named 6):=rfl
theorem adl:OK Zx:=⟨Tryz.call274,UI sound (TL:=34) (TE:=72) (TI:=3) (z0:=Option.get (fp E depth (.named 6)) rfl) Tryz.underlying34 rfl rfl (fun h=>nomatch h) rfl (by decide) (U0▸⟨Ko,fun g n c i vb voff vc h1 h2 h3 h4 w W1 W2 k1 k2 cA cB tA tB fA fB ha hb hA hf c1 c2=>IT g n c i vb voff vc h1 h2 h3 h4 w W1 W2 k1 k2 ha hb hA hf c1 c2,IU⟩)⟩
def Xj:cg E:={S:=[Vh,Zx,Zg],i:=cE [(.slice (.named 6)),(.named 6)] [(.slice (.named 6))] (N.sZ N.fuel)}
theorem abU:aM Tryz.prog 218 Xj.ins:=go Tryz.func218 rfl ⟨YH,adl,p84,trivial⟩ trivial trivial (fun _ _=>by show _=_;kernel_rfl)
def ZW:SP:=(218,.pure [(.slice (.named 6)),(.named 6)] (bz [Xj.ins]))
theorem adK:OK ZW:=aJ Tryz.call218 ⟨abU,trivial⟩
def WE:cg E:={i:=⟨[.v (.named 7),.ptr 0 []],[.box true (.iv)],fun w o0=> .wH (.ret (N.fM w o0)) fun x_=> .ret (.ret [.bv x_],[.box true (.iv o0)])⟩}
theorem abl:aM Tryz.prog 261 WE.ins:=go Tryz.func261 rfl trivial trivial trivial (fun _ _=>by show _=_;kernel_rfl)
def Vb:SP:=(261,.full [.data (.named 7),.ptr] true (cC [WE.ins]))
theorem YB:OK Vb:=br ok Tryz.call261 ⟨abl,trivial⟩
def Wf:cg E:={i:=⟨[.v (.named 7),.ptr 0 []],[.box true (.iv)],fun w o0=> .wH (.ret (N.lY w o0)) fun x_=> .ret (.ret [.bv x_],[.box true (.iv o0)])⟩}
theorem aaV:aM Tryz.prog 311 Wf.ins:=go Tryz.func311 rfl trivial trivial trivial (fun _ _=>by show _=_;kernel_rfl)
def Zl:SP:=(311,.full [.data (.named 7),.ptr] true (cC [Wf.ins]))
theorem ad5:OK Zl:=br ok Tryz.call311 ⟨aaV,trivial⟩
def WI:cg E:={i:=⟨[.v (.named 7),.ptr 0 [],.ptr 1 []],[.box true (.iv),.box true (.iv)],fun w o0 o1=> .wH (N.iF w o0 o1) fun x_=> .ret (.ret [.bv x_],[.box true (.iv o0),.box true (.iv o1)])⟩}
theorem abp:aM Tryz.prog 257 WI.ins:=go Tryz.func257 rfl trivial trivial trivial (fun _ _ _=>by show _=_;kernel_rfl)
def ZD:SP:=(257,.full [.data (.named 7),.ptr,.ptr] true (cC [WI.ins]))
theorem adr:OK ZD:=br ok Tryz.call257 ⟨abp,trivial⟩
def XZ:cg E:={S:=[Vb],ls:=[{ks:=[0,1,7,8],rs:=[4],ins:=some [⟨[.v (.slice (.named 7)),.fn 261 [.ptr 0 []],.iv,.iv],[.box true (.iv)],fun s t7 t8 o0=>⟨t8,N.ll s t7 o0,fun v_=>([.val (.slice (.named 7)) s,.fn 261 [.ptr 0 []],.iv t7,.iv v_],[.box true (.iv o0)]),fun x_=>bf x_ (fun a=> .ret (.ret,[.iv a],[.box true (.iv o0)])) (fun b=> .ret (.exit 0,[.undef],[.box true (.iv o0)]))⟩⟩]}],i:=⟨[.v (.slice (.named 7)),.fn 261 [.ptr 0 []]],[.box true (.iv)],fun s o0=> .opt (N.iA N.fuel s o0) fun x_=> .ret (.ret [.iv x_],[.box true (.iv o0)])⟩}
theorem acD:aM Tryz.prog 145 XZ.ins:=go Tryz.func145 rfl ⟨YB,trivial⟩ trivial ⟨⟨fun _ _ _ _=>⟨rfl,fun _=>by show _=_;kernel_rfl⟩,trivial⟩,trivial⟩ (fun _ _=>by show _=_;kernel_rfl)
def TM:cg E:={S:=[Zl],ls:=[{ks:=[0,1,7,8],rs:=[4],ins:=some [⟨[.v (.slice (.named 7)),.fn 311 [.ptr 0 []],.iv,.iv],[.box true (.iv)],fun s t7 t8 o0=>⟨t8,N.jP s t7 o0,fun v_=>([.val (.slice (.named 7)) s,.fn 311 [.ptr 0 []],.iv t7,.iv v_],[.box true (.iv o0)]),fun x_=>bf x_ (fun a=> .ret (.ret,[.iv a],[.box true (.iv o0)])) (fun b=> .ret (.exit 0,[.undef],[.box true (.iv o0)]))⟩⟩]}],i:=⟨[.v (.slice (.named 7)),.fn 311 [.ptr 0 []]],[.box true (.iv)],fun s o0=> .opt (N.gq N.fuel s o0) fun x_=> .ret (.ret [.iv x_],[.box true (.iv o0)])⟩}
theorem V7:aM Tryz.prog 145 TM.ins:=go Tryz.func145 rfl ⟨ad5,trivial⟩ trivial ⟨⟨fun _ _ _ _=>⟨rfl,fun _=>by show _=_;kernel_rfl⟩,trivial⟩,trivial⟩ (fun _ _=>by show _=_;kernel_rfl)
def TJ:cg E:={S:=[ZD],ls:=[{ks:=[0,1,7,8],rs:=[4],ins:=some [⟨[.v (.slice (.named 7)),.fn 257 [.ptr 0 [],.ptr 1 []],.iv,.iv],[.box true (.iv),.box true (.iv)],fun s t7 t8 o0 o1=>⟨t8,N.jO s t7 o0 o1,fun v_=>([.val (.slice (.named 7)) s,.fn 257 [.ptr 0 [],.ptr 1 []],.iv t7,.iv v_],[.box true (.iv o0),.box true (.iv o1)]),fun x_=>bf x_ (fun a=> .ret (.ret,[.iv a],[.box true (.iv o0),.box true (.iv o1)])) (fun b=> .ret (.exit 0,[.undef],[.box true (.iv o0),.box true (.iv o1)]))⟩⟩]}],i:=⟨[.v (.slice (.named 7)),.fn 257 [.ptr 0 [],.ptr 1 []]],[.box true (.iv),.box true (.iv)],fun s o0 o1=> .opt (N.gp N.fuel s o0 o1) fun x_=> .ret (.ret [.iv x_],[.box true (.iv o0),.box true (.iv o1)])⟩}
theorem V6:aM Tryz.prog 145 TJ.ins:=go Tryz.func145 rfl ⟨adr,trivial⟩ trivial ⟨⟨fun _ _ _ _ _=>⟨rfl,fun _=>by show _=_;kernel_rfl⟩,trivial⟩,trivial⟩ (fun _ _ _=>by show _=_;kernel_rfl)
def S9:SP:=(145,.full [.data (.slice (.named 7)),.func] true (cC [XZ.ins,TM.ins,TJ.ins]))
theorem UD:OK S9:=br ok Tryz.call145 ⟨acD,V7,V6,trivial⟩
def Ly:cg E:={S:=[S9,Vb],ls:=[{ks:=[0,1,4,5,6],rs:=[0,4,5],ins:=some [⟨[.own 0,.fn 261 [.ptr 1 []],.bj,.iv,.iv],[.al (.named 7),.bx (.iv)],fun i j s o1=>⟨(i,j,s),N.kg o1,fun v_=>([.own 0,.fn 261 [.ptr 1 []],.bj,.iv v_.1,.iv v_.2.1],[.al (.named 7) v_.2.2,.bx (.iv o1)]),fun x_=> .ret (.exit 0,[.own 0,.bj,.iv x_.1],[.al (.named 7) x_.2,.bx (.iv o1)])⟩⟩]}],aH:=true,i:=⟨[.own 0,.fn 261 [.ptr 1 []]],[.al (.named 7),.bx (.iv)],fun r0 o1=> .opt (N.gY N.fuel o1 r0) fun x_=> .ret (.ret [.own 0],[.al (.named 7) x_,.bx (.iv o1)])⟩}
theorem abm:aM Tryz.prog 260 Ly.ins:=vw (B:=EL (FW E (jX Ly.S) (Ly.L Tryz.f260) 4 (.named 7) Tryz.f260)) (Ee ok (C2 sound mix (S:=Ly.S) ⟨UD,YB,trivial⟩ (L:=Ly.L Tryz.f260) (m:=4) (TL:=35) (TE:=86) Tryz.func260 rfl (by kernel_rfl) (tT (x:=Ly) ⟨⟨fun _ _ _ _=>⟨rfl,fun _=>by show _=_;kernel_rfl⟩,trivial⟩,trivial⟩) Tryz.underlying35 rfl (fun h=>nomatch h) RN)) (fun _ _=>by show _=_;kernel_rfl)
def Vc:SP:=(260,.full [.ptr,.func] false (cC [Ly.ins]))
theorem YC:OK Vc:=br ok Tryz.call260 ⟨abm,trivial⟩
def Xv:cg E:={S:=[Vc,U1],i:=cE [(.slice (.named 7)),.i6] [(.slice (.named 7))] (N.sn N.fuel)}
theorem ac6:aM Tryz.prog 183 Xv.ins:=go Tryz.func183 rfl ⟨YC,VE,trivial⟩ trivial trivial (fun _ _=>by show _=_;kernel_rfl)
def Vm:SP:=(183,.pure [(.slice (.named 7)),.i6] (bz [Xv.ins]))
theorem YO:OK Vm:=aJ Tryz.call183 ⟨ac6,trivial⟩
def XX:cg E:={S:=[Vm,ZW,P45],i:=cE [(.named 8),.i6,(.named 7)] [(.named 8)] (N.x6 N.fuel)}
theorem acB:aM Tryz.prog 148 XX.ins:=go Tryz.func148 rfl ⟨YO,adK,p45,trivial⟩ trivial trivial (fun _ _ _=>by show _=_;kernel_rfl)
def aac:SP:=(148,.pure [(.named 8),.i6,(.named 7)] (bz [XX.ins]))
theorem aee:OK aac:=aJ Tryz.call148 ⟨acB,trivial⟩
def Wo:cg E:={S:=[S9],i:=cE [(.slice (.named 7)),.i6] [.i6] (N.uX N.fuel)}
theorem ab4:aM Tryz.prog 291 Wo.ins:=go Tryz.func291 rfl ⟨UD,trivial⟩ trivial trivial (fun _ _=>by show _=_;kernel_rfl)
def Zr:SP:=(291,.pure [(.slice (.named 7)),.i6] (bz [Wo.ins]))
theorem adb:OK Zr:=aJ Tryz.call291 ⟨ab4,trivial⟩
def Tv:cg E:={S:=[Vc,U1],aH:=true,i:=⟨[.v (.slice (.named 7)),.iv],[],fun l a=> .opt (N.sn N.fuel l a) fun x_=> .ret (.ret [.own 1],[.dead,.al (.named 7) x_])⟩}
theorem VV:aM Tryz.prog 183 Tv.ins:=mD Tryz.func183 rfl ⟨YC,VE,trivial⟩ trivial trivial (fun _ _=>by show _=_;kernel_rfl)
def T5:SP:=(183,.full [.data (.slice (.named 7)),.data .i6] false (cC [Tv.ins]))
theorem YN:OK T5:=br ok Tryz.call183 ⟨VV,trivial⟩
def WR:cg E:={S:=[T5,Zr,U1],i:=cE [(.slice (.named 7)),(.named 7)] [(.slice (.named 7)),.bool] (N.Ae N.fuel)}
theorem aby:aM Tryz.prog 249 WR.ins:=go Tryz.func249 rfl ⟨YN,adb,VE,trivial⟩ trivial trivial (fun _ _=>by show _=_;kernel_rfl)
def ZI:SP:=(249,.pure [(.slice (.named 7)),(.named 7)] (bz [WR.ins]))
theorem adw:OK ZI:=aJ Tryz.call249 ⟨aby,trivial⟩
def XA:cg E:={S:=[aae,aad,aac,Vt,ZI],i:=cE [(.named 8),.i6,(.named 7)] [(.named 8),.bool,(.slice .i6),.i6] (N.AF N.fuel)}
theorem acb:aM Tryz.prog 178 XA.ins:=go Tryz.func178 rfl ⟨aeg,aef,aee,YX,adw,trivial⟩ trivial trivial (fun _ _ _=>by show _=_;kernel_rfl)
def Z9:SP:=(178,.pure [(.named 8),.i6,(.named 7)] (bz [XA.ins]))
theorem adZ:OK Z9:=aJ Tryz.call178 ⟨acb,trivial⟩
def x64:cg E:={S:=[S8,S7,M1],aH:=true,i:=⟨[.ptr 0 [],.v (.named 7)],[.bx (G5 1 2 3 4 5 6),.al .str,.al (.named 0),.al (.named 2),.al (.named 3),.arr .fix .i6,.al (.named 9)],fun w a b c d e f g h j k l m n o p=> .opt (N.mn N.fuel w (N.ax.mk (N.aI.mk (N.bV.mk (N.aN.mk k l a b) (N.aG.mk m n c)) d o p e f g h j) [])) fun x_=>bf x_ (fun q=> .ret (.ret [],[.bx (g13 q 1 2 3 4 5 6 10),.al .str q.Server.aA.D.aU,.al (.named 0) q.Server.aA.D.bC,.al (.named 2) q.Server.aA.S.aP,.al (.named 3) q.Server.aA.S.Marks,.arr .fix .i6 q.Server.Seen,.al (.named 9) q.Server.Told,.dead,.dead,.dead,.al (.named 9) q.told])) (fun r=> .ret (.ret [],[.bx (g13 r 1 2 3 4 5 6 11),.al .str r.Server.aA.D.aU,.al (.named 0) r.Server.aA.D.bC,.al (.named 2) r.Server.aA.S.aP,.al (.named 3) r.Server.aA.S.Marks,.arr .fix .i6 r.Server.Seen,.al (.named 9) r.Server.Told,.dead,.dead,.dead,.dead,.al (.named 9) r.told]))⟩}
theorem y64:aM Tryz.prog 64 x64.ins:=mD Tryz.func64 rfl ⟨UC,UB,Ox,trivial⟩ trivial trivial (fun _ _ _ _ _ _ _ _ _ _ _ _ _ _ _ _=>by show _=_;kernel_rfl)
def P64:SP:=(64,.full [.ptr,.data (.named 7)] false (cC [x64.ins]))
theorem p64:OK P64:=br ok Tryz.call64 ⟨y64,trivial⟩
def x65:cg E:={i:=⟨[.ptr 0 [],.iv,.iv],[.bx (Nd 1 2 3 4 5 6 7),.al .str,.al (.named 0),.al (.named 2),.al (.named 3),.arr .fix .i6,.al (.named 9),.al (.named 9)],fun a b c d e f g h j k l m n o p q r s=> .opt (N.lE a b (N.ax.mk (N.aI.mk (N.bV.mk (N.aN.mk m n c d) (N.aG.mk o p e)) f q r g h j k l) s)) fun x_=> .ret (.ret [],[.bx (g13 x_ 1 2 3 4 5 6 7),.al .str x_.Server.aA.D.aU,.al (.named 0) x_.Server.aA.D.bC,.al (.named 2) x_.Server.aA.S.aP,.al (.named 3) x_.Server.aA.S.Marks,.arr .fix .i6 x_.Server.Seen,.al (.named 9) x_.Server.Told,.al (.named 9) x_.told])⟩}
theorem y65:aM Tryz.prog 65 x65.ins:=mD Tryz.func65 rfl trivial trivial trivial (fun _ _ _ _ _ _ _ _ _ _ _ _ _ _ _ _ _ _=>by show _=_;kernel_rfl)
def We:cg E:={aH:=true,i:=⟨[.ptr 0 [],.iv,.iv],[.bx (G5 1 2 3 4 5 6),.al .str,.al (.named 0),.al (.named 2),.al (.named 3),.arr .fix .i6,.al (.named 9)],fun a b c d e f g h j k l m n o p q r=> .wH (.ret (N.yX a b (N.ax.mk (N.aI.mk (N.bV.mk (N.aN.mk m n c d) (N.aG.mk o p e)) f q r g h j k l) []))) fun x_=> .ret (.ret [],[.bx (g13 x_ 1 2 3 4 5 6 7),.al .str x_.Server.aA.D.aU,.al (.named 0) x_.Server.aA.D.bC,.al (.named 2) x_.Server.aA.S.aP,.al (.named 3) x_.Server.aA.S.Marks,.arr .fix .i6 x_.Server.Seen,.al (.named 9) x_.Server.Told,.al (.named 9) x_.told])⟩}
theorem aaU:aM Tryz.prog 65 We.ins:=mD Tryz.func65 rfl trivial trivial trivial (fun _ _ _ _ _ _ _ _ _ _ _ _ _ _ _ _ _=>by show _=_;kernel_rfl)
def P65:SP:=(65,.full [.ptr,.data .i6,.data .i6] false (cC [x65.ins,We.ins]))
theorem p65:OK P65:=br ok Tryz.call65 ⟨y65,aaU,trivial⟩
def x95:cg E:={S:=[S7,Z9,P64,P65,T3],ls:=[{ks:=[0,3,64,65,66],zR:=[.zR (.obj 0) [1] (.named 9)],ins:=some [⟨[.ptr 0 [],.ptr 9 [],.v (.slice .i6),.iv,.iv],[.bx (Nd 1 2 3 4 7 8 15),.al .str,.al (.named 0),.al (.named 2),.al (.named 3),.arr .ba (.named 6),.arr .ba (.named 7),.arr .fix .i6,.al (.named 9),.bx (.v (.named 12)),.bx (.v (.named 7)),.bx (.v (.named 8)),.dead,.dead,.dead,.al (.named 9)],fun b c d e f g h j k l m n o p q r r5 r6 s t a u v w=>⟨(d,(N.ax.mk (N.aI.mk (N.bV.mk (N.aN.mk o p e f) (N.aG.mk q r g)) h s t j k l m n) w)),N.oa b c a u v r5 r6,fun v_=>([.ptr 0 [],.ptr 9 [],.val (.slice .i6) b,.iv c,.iv v_.1],[.bx (g13 v_.2 1 2 3 4 7 8 15),.al .str v_.2.Server.aA.D.aU,.al (.named 0) v_.2.Server.aA.D.bC,.al (.named 2) v_.2.Server.aA.S.aP,.al (.named 3) v_.2.Server.aA.S.Marks,.arr .ba (.named 6) r5,.arr .ba (.named 7) r6,.arr .fix .i6 v_.2.Server.Seen,.al (.named 9) v_.2.Server.Told,.bx (.nv 12 a),.bx (.nv 7 u),.bx (.nv 8 v),.dead,.dead,.dead,.al (.named 9) v_.2.told]),fun x_=> .ret (.exit 1,[],[.bx (g13 x_ 1 2 3 4 7 8 15),.al .str x_.Server.aA.D.aU,.al (.named 0) x_.Server.aA.D.bC,.al (.named 2) x_.Server.aA.S.aP,.al (.named 3) x_.Server.aA.S.Marks,.arr .ba (.named 6) r5,.arr .ba (.named 7) r6,.arr .fix .i6 x_.Server.Seen,.al (.named 9) x_.Server.Told,.bx (.nv 12 a),.bx (.nv 7 u),.bx (.nv 8 v),.dead,.dead,.dead,.al (.named 9) x_.told])⟩⟩,⟨[.ptr 0 [],.ptr 9 [],.v (.slice .i6),.iv,.iv],[.bx (Nd 1 2 3 4 7 8 16),.al .str,.al (.named 0),.al (.named 2),.al (.named 3),.arr .ba (.named 6),.arr .ba (.named 7),.arr .fix .i6,.al (.named 9),.bx (.v (.named 12)),.bx (.v (.named 7)),.bx (.v (.named 8)),.dead,.dead,.dead,.dead,.al (.named 9)],fun b c d e f g h j k l m n o p q r r5 r6 s t a u v x=>⟨(d,(N.ax.mk (N.aI.mk (N.bV.mk (N.aN.mk o p e f) (N.aG.mk q r g)) h s t j k l m n) x)),N.n9 b c a u v r5 r6,fun v_=>([.ptr 0 [],.ptr 9 [],.val (.slice .i6) b,.iv c,.iv v_.1],[.bx (g13 v_.2 1 2 3 4 7 8 16),.al .str v_.2.Server.aA.D.aU,.al (.named 0) v_.2.Server.aA.D.bC,.al (.named 2) v_.2.Server.aA.S.aP,.al (.named 3) v_.2.Server.aA.S.Marks,.arr .ba (.named 6) r5,.arr .ba (.named 7) r6,.arr .fix .i6 v_.2.Server.Seen,.al (.named 9) v_.2.Server.Told,.bx (.nv 12 a),.bx (.nv 7 u),.bx (.nv 8 v),.dead,.dead,.dead,.dead,.al (.named 9) v_.2.told]),fun x_=> .ret (.exit 1,[],[.bx (g13 x_ 1 2 3 4 7 8 16),.al .str x_.Server.aA.D.aU,.al (.named 0) x_.Server.aA.D.bC,.al (.named 2) x_.Server.aA.S.aP,.al (.named 3) x_.Server.aA.S.Marks,.arr .ba (.named 6) r5,.arr .ba (.named 7) r6,.arr .fix .i6 x_.Server.Seen,.al (.named 9) x_.Server.Told,.bx (.nv 12 a),.bx (.nv 7 u),.bx (.nv 8 v),.dead,.dead,.dead,.dead,.al (.named 9) x_.told])⟩⟩,⟨[.ptr 0 [],.ptr 9 [],.v (.slice .i6),.iv,.iv],[.bx (Nd 1 2 3 4 7 8 12),.al .str,.al (.named 0),.al (.named 2),.al (.named 3),.arr .ba (.named 6),.arr .ba (.named 7),.arr .fix .i6,.al (.named 9),.bx (.v (.named 12)),.bx (.v (.named 7)),.bx (.v (.named 8)),.al (.named 9)],fun b c d e f g h j k l m n o p q r r5 r6 s t a u v y=>⟨(d,(N.ax.mk (N.aI.mk (N.bV.mk (N.aN.mk o p e f) (N.aG.mk q r g)) h s t j k l m n) y)),N.nZ b c a u v r5 r6,fun v_=>([.ptr 0 [],.ptr 9 [],.val (.slice .i6) b,.iv c,.iv v_.1],[.bx (g13 v_.2 1 2 3 4 7 8 12),.al .str v_.2.Server.aA.D.aU,.al (.named 0) v_.2.Server.aA.D.bC,.al (.named 2) v_.2.Server.aA.S.aP,.al (.named 3) v_.2.Server.aA.S.Marks,.arr .ba (.named 6) r5,.arr .ba (.named 7) r6,.arr .fix .i6 v_.2.Server.Seen,.al (.named 9) v_.2.Server.Told,.bx (.nv 12 a),.bx (.nv 7 u),.bx (.nv 8 v),.al (.named 9) v_.2.told]),fun x_=> .ret (.exit 1,[],[.bx (g13 x_ 1 2 3 4 7 8 12),.al .str x_.Server.aA.D.aU,.al (.named 0) x_.Server.aA.D.bC,.al (.named 2) x_.Server.aA.S.aP,.al (.named 3) x_.Server.aA.S.Marks,.arr .ba (.named 6) r5,.arr .ba (.named 7) r6,.arr .fix .i6 x_.Server.Seen,.al (.named 9) x_.Server.Told,.bx (.nv 12 a),.bx (.nv 7 u),.bx (.nv 8 v),.al (.named 9) x_.told])⟩⟩]}],aH:=true,i:=⟨[.ptr 0 [],.v (.named 12)],[.bx (se 1 2 3 4 5 6 7 8),.al .str,.al (.named 0),.al (.named 2),.al (.named 3),.al (.named 6),.al (.named 7),.arr .fix .i6,.al (.named 9)],fun a e f g j k l m n o p q r z aa s t=> .opt (N.lD N.fuel a (N.ax.mk (N.aI.mk (N.bV.mk (N.aN.mk o p e f) (N.aG.mk q r g)) (N.b9.mk z aa) s t j k l m n) [])) fun x_=>bf x_ (fun ab=> .ret (.ret [],[.bx (zo ab 1 2 3 4 5 6 7 8 13),.al .str ab.Server.aA.D.aU,.al (.named 0) ab.Server.aA.D.bC,.al (.named 2) ab.Server.aA.S.aP,.al (.named 3) ab.Server.aA.S.Marks,.al (.named 6) ab.Server.bd.bF,.al (.named 7) ab.Server.bd.cZ,.arr .fix .i6 ab.Server.Seen,.al (.named 9) ab.Server.Told,.dead,.dead,.dead,.dead,.al (.named 9) ab.told])) (fun ac=>bf ac (fun ad=> .ret (.ret [],[.bx (g13 ad.1 1 2 3 4 7 8 12),.al .str ad.1.Server.aA.D.aU,.al (.named 0) ad.1.Server.aA.D.bC,.al (.named 2) ad.1.Server.aA.S.aP,.al (.named 3) ad.1.Server.aA.S.Marks,.arr .ba (.named 6) ad.2.1,.arr .ba (.named 7) ad.2.2,.arr .fix .i6 ad.1.Server.Seen,.al (.named 9) ad.1.Server.Told,.dead,.dead,.dead,.al (.named 9) ad.1.told])) (fun ae=>bf ae (fun af=> .ret (.ret [],[.bx (g13 af.1 1 2 3 4 7 8 15),.al .str af.1.Server.aA.D.aU,.al (.named 0) af.1.Server.aA.D.bC,.al (.named 2) af.1.Server.aA.S.aP,.al (.named 3) af.1.Server.aA.S.Marks,.arr .ba (.named 6) af.2.1,.arr .ba (.named 7) af.2.2,.arr .fix .i6 af.1.Server.Seen,.al (.named 9) af.1.Server.Told,.dead,.dead,.dead,.dead,.dead,.dead,.al (.named 9) af.1.told])) (fun ag=> .ret (.ret [],[.bx (g13 ag.1 1 2 3 4 7 8 16),.al .str ag.1.Server.aA.D.aU,.al (.named 0) ag.1.Server.aA.D.bC,.al (.named 2) ag.1.Server.aA.S.aP,.al (.named 3) ag.1.Server.aA.S.Marks,.arr .ba (.named 6) ag.2.1,.arr .ba (.named 7) ag.2.2,.arr .fix .i6 ag.1.Server.Seen,.al (.named 9) ag.1.Server.Told,.dead,.dead,.dead,.dead,.dead,.dead,.dead,.al (.named 9) ag.1.told]))))⟩}
theorem y95:aM Tryz.prog 95 x95.ins:=mD Tryz.func95 rfl ⟨UB,adZ,p64,p65,Us,trivial⟩ trivial ⟨⟨fun _ _ _ _ _ _ _ _ _ _ _ _ _ _ _ _ _ _ _ _ _ _ _ _=>⟨rfl,fun _=>by show _=_;kernel_rfl⟩,fun _ _ _ _ _ _ _ _ _ _ _ _ _ _ _ _ _ _ _ _ _ _ _ _=>⟨rfl,fun _=>by show _=_;kernel_rfl⟩,fun _ _ _ _ _ _ _ _ _ _ _ _ _ _ _ _ _ _ _ _ _ _ _ _=>⟨rfl,fun _=>by show _=_;kernel_rfl⟩,trivial⟩,trivial⟩ (fun _ _ _ _ _ _ _ _ _ _ _ _ _ _ _ _ _=>by show _=_;kernel_rfl)
def P95:SP:=(95,.full [.ptr,.data (.named 12)] false (cC [x95.ins]))
theorem p95:OK P95:=br ok Tryz.call95 ⟨y95,trivial⟩
def Xz:cg E:={S:=[S1],i:=cE [(.named 4),.i6,.i6,.i6,(.slice (.named 11))] [(.named 4),(.named 3)] (N.sO N.fuel)}
theorem aca:aM Tryz.prog 179 Xz.ins:=go Tryz.func179 rfl ⟨Uv,trivial⟩ trivial trivial (fun _ _ _ _ _=>by show _=_;kernel_rfl)
def Z8:SP:=(179,.pure [(.named 4),.i6,.i6,.i6,(.slice (.named 11))] (bz [Xz.ins]))
theorem adY:OK Z8:=aJ Tryz.call179 ⟨aca,trivial⟩
def x96:cg E:={S:=[S8,S7,S5,S4,Z8,T3],aH:=true,i:=⟨[.ptr 0 [],.v (.named 12)],[.bx (se 1 2 3 4 5 6 7 8),.al .str,.al (.named 0),.al (.named 2),.al (.named 3),.al (.named 6),.al (.named 7),.arr .fix .i6,.al (.named 9)],fun a b c d e f g h j k l m n o p q r=> .opt (N.jC N.fuel a (N.ax.mk (N.aI.mk (N.bV.mk (N.aN.mk k l b c) (N.aG.mk m n d)) (N.b9.mk o p) q r e f g h j) [])) fun x_=>bf x_ (fun s=> .ret (.ret [],[.bx (zo s 1 2 3 4 5 6 7 8 13),.al .str s.Server.aA.D.aU,.al (.named 0) s.Server.aA.D.bC,.al (.named 2) s.Server.aA.S.aP,.al (.named 3) s.Server.aA.S.Marks,.al (.named 6) s.Server.bd.bF,.al (.named 7) s.Server.bd.cZ,.arr .fix .i6 s.Server.Seen,.al (.named 9) s.Server.Told,.dead,.dead,.dead,.dead,.al (.named 9) s.told])) (fun t=>bf t (fun u=> .ret (.ret [],[.bx (HE u.1 5 6 7 8 17),.arr .ba .str u.2.1,.arr .ba (.named 0) u.2.2.1,.arr .ba (.named 2) u.2.2.2.1,.arr .ba (.named 3) u.2.2.2.2,.al (.named 6) u.1.Server.bd.bF,.al (.named 7) u.1.Server.bd.cZ,.arr .fix .i6 u.1.Server.Seen,.al (.named 9) u.1.Server.Told,.dead,.dead,.dead,.dead,.dead,.dead,.dead,.dead,.al (.named 9) u.1.told])) (fun v=> .ret (.panic (.fG 213 (.nv 16 N.fa.mk)),[.bx (xS v.1 5 6 7 8),.arr .ba .str v.2.1,.arr .ba (.named 0) v.2.2.1,.arr .ba (.named 2) v.2.2.2.1,.arr .ba (.named 3) v.2.2.2.2,.al (.named 6) v.1.Server.bd.bF,.al (.named 7) v.1.Server.bd.cZ,.arr .fix .i6 v.1.Server.Seen,.al (.named 9) v.1.Server.Told,.dead,.dead,.dead])))⟩}
theorem y96:aM Tryz.prog 96 x96.ins:=mD Tryz.func96 rfl ⟨UC,UB,UA,Uz,adY,Us,trivial⟩ trivial trivial (fun _ _ _ _ _ _ _ _ _ _ _ _ _ _ _ _ _=>by show _=_;kernel_rfl)
def P96:SP:=(96,.full [.ptr,.data (.named 12)] false (cC [x96.ins]))
theorem p96:OK P96:=br ok Tryz.call96 ⟨y96,trivial⟩
def WJ:cg E:={S:=[Va,Zg],i:=cE [(.slice (.named 6)),.i6,.i6] [(.slice (.named 6))] (N.vd N.fuel)}
theorem abq:aM Tryz.prog 256 WJ.ins:=go Tryz.func256 rfl ⟨YA,p84,trivial⟩ trivial trivial (fun _ _ _=>by show _=_;kernel_rfl)
def ZE:SP:=(256,.pure [(.slice (.named 6)),.i6,.i6] (bz [WJ.ins]))
theorem ads:OK ZE:=aJ Tryz.call256 ⟨abq,trivial⟩
def Xy:cg E:={S:=[ZE,U1],i:=cE [(.named 8),.i6,.i6] [(.named 8)] (N.x7 N.fuel)}
theorem ac9:aM Tryz.prog 180 Xy.ins:=go Tryz.func180 rfl ⟨ads,VE,trivial⟩ trivial trivial (fun _ _ _=>by show _=_;kernel_rfl)
def Vn:SP:=(180,.pure [(.named 8),.i6,.i6] (bz [Xy.ins]))
theorem YP:OK Vn:=aJ Tryz.call180 ⟨ac9,trivial⟩
def x97:cg E:={S:=[Vn,T3,P96],aH:=true,i:=⟨[.ptr 0 [],.v (.named 12)],[.bx (se 1 2 3 4 5 6 7 8),.al .str,.al (.named 0),.al (.named 2),.al (.named 3),.al (.named 6),.al (.named 7),.arr .fix .i6,.al (.named 9)],fun a b c d e f g h j k l m n o p q r=> .opt (N.iE N.fuel a (N.ax.mk (N.aI.mk (N.bV.mk (N.aN.mk k l b c) (N.aG.mk m n d)) (N.b9.mk o p) q r e f g h j) [])) fun x_=>bf x_ (fun s=> .ret (.ret [],[.bx (g13 s.1 1 2 3 4 7 8 13),.al .str s.1.Server.aA.D.aU,.al (.named 0) s.1.Server.aA.D.bC,.al (.named 2) s.1.Server.aA.S.aP,.al (.named 3) s.1.Server.aA.S.Marks,.arr .ba (.named 6) s.2.1,.arr .ba (.named 7) s.2.2,.arr .fix .i6 s.1.Server.Seen,.al (.named 9) s.1.Server.Told,.dead,.dead,.dead,.dead,.al (.named 9) s.1.told])) (fun t=>bf t (fun u=> .ret (.ret [],[.bx (g13 u.1 1 2 3 4 7 8 14),.al .str u.1.Server.aA.D.aU,.al (.named 0) u.1.Server.aA.D.bC,.al (.named 2) u.1.Server.aA.S.aP,.al (.named 3) u.1.Server.aA.S.Marks,.arr .ba (.named 6) u.2.1,.arr .ba (.named 7) u.2.2,.arr .fix .i6 u.1.Server.Seen,.al (.named 9) u.1.Server.Told,.dead,.dead,.dead,.dead,.dead,.al (.named 9) u.1.told])) (fun v=>bf v (fun w=> .ret (.ret [],[.bx (FA w.1 7 8 18),.arr .ba .str w.2.1,.arr .ba (.named 0) w.2.2.1,.arr .ba (.named 2) w.2.2.2.1,.arr .ba (.named 3) w.2.2.2.2.1,.arr .ba (.named 6) w.2.2.2.2.2.1,.arr .ba (.named 7) w.2.2.2.2.2.2,.arr .fix .i6 w.1.Server.Seen,.al (.named 9) w.1.Server.Told,.dead,.dead,.dead,.dead,.dead,.dead,.dead,.dead,.dead,.al (.named 9) w.1.told])) (fun x=> .ret (.panic (.fG 213 (.nv 16 N.fa.mk)),[.bx (xS x.1 5 6 7 8),.arr .ba .str x.2.1,.arr .ba (.named 0) x.2.2.1,.arr .ba (.named 2) x.2.2.2.1,.arr .ba (.named 3) x.2.2.2.2,.al (.named 6) x.1.Server.bd.bF,.al (.named 7) x.1.Server.bd.cZ,.arr .fix .i6 x.1.Server.Seen,.al (.named 9) x.1.Server.Told,.dead,.dead,.dead,.dead]))))⟩}
theorem y97:aM Tryz.prog 97 x97.ins:=mD Tryz.func97 rfl ⟨YP,Us,p96,trivial⟩ trivial trivial (fun _ _ _ _ _ _ _ _ _ _ _ _ _ _ _ _ _=>by show _=_;kernel_rfl)
def P97:SP:=(97,.full [.ptr,.data (.named 12)] false (cC [x97.ins]))
theorem p97:OK P97:=br ok Tryz.call97 ⟨y97,trivial⟩
def WH:cg E:={S:=[S9],i:=⟨[.v (.slice (.named 7)),.fn 257 [.ptr 0 [],.ptr 1 []]],[.box true (.iv),.box true (.iv)],fun s o0 o1=> .opt (N.fW N.fuel s o0 o1) fun x_=> .ret (.ret [.bv x_],[.box true (.iv o0),.box true (.iv o1)])⟩}
theorem abo:aM Tryz.prog 258 WH.ins:=go Tryz.func258 rfl ⟨UD,trivial⟩ trivial trivial (fun _ _ _=>by show _=_;kernel_rfl)
def ZC:SP:=(258,.full [.data (.slice (.named 7)),.func] true (cC [WH.ins]))
theorem adq:OK ZC:=br ok Tryz.call258 ⟨abo,trivial⟩
def Xx:cg E:={S:=[Vi,ZC],i:=⟨[.ptr 0 [],.iv,.iv],[.bx (se 1 2 3 4 5 6 7 8),.al .str,.al (.named 0),.al (.named 2),.al (.named 3),.al (.named 6),.al (.named 7),.arr .fix .i6,.al (.named 9)],fun a b c d e f g h j k l m n o p q r s=> .opt (N.kl N.fuel a b (N.ax.mk (N.aI.mk (N.bV.mk (N.aN.mk l m c d) (N.aG.mk n o e)) (N.b9.mk p q) r s f g h j k) [])) fun x_=> .ret (.ret [.bv x_.1],[.bx (QM x_.2 1 2 3 4 5 6 7 8),.al .str x_.2.Server.aA.D.aU,.al (.named 0) x_.2.Server.aA.D.bC,.al (.named 2) x_.2.Server.aA.S.aP,.al (.named 3) x_.2.Server.aA.S.Marks,.arr .ba (.named 6) x_.2.Server.bd.bF,.al (.named 7) x_.2.Server.bd.cZ,.arr .fix .i6 x_.2.Server.Seen,.al (.named 9) x_.2.Server.Told])⟩}
theorem ac8:aM Tryz.prog 181 Xx.ins:=mD Tryz.func181 rfl ⟨YI,adq,trivial⟩ trivial trivial (fun _ _ _ _ _ _ _ _ _ _ _ _ _ _ _ _ _ _=>by show _=_;kernel_rfl)
def Z7:SP:=(181,.full [.ptr,.data .i6,.data .i6] false (cC [Xx.ins]))
theorem adX:OK Z7:=br ok Tryz.call181 ⟨ac8,trivial⟩
def Xw:cg E:={S:=[S1],i:=cE [(.named 4),.i6,.i6,.i6] [(.named 4),(.named 3)] N.uz}
theorem ac7:aM Tryz.prog 182 Xw.ins:=go Tryz.func182 rfl ⟨Uv,trivial⟩ trivial trivial (fun _ _ _ _=>by show _=_;kernel_rfl)
def Z6:SP:=(182,.pure [(.named 4),.i6,.i6,.i6] (bz [Xw.ins]))
theorem adW:OK Z6:=aJ Tryz.call182 ⟨ac7,trivial⟩
def x98:cg E:={S:=[S5,S4,Vn,Z7,Z6,Vm,T3],aH:=true,i:=⟨[.ptr 0 [],.v (.named 12)],[.bx (se 1 2 3 4 5 6 7 8),.al .str,.al (.named 0),.al (.named 2),.al (.named 3),.al (.named 6),.al (.named 7),.arr .fix .i6,.al (.named 9)],fun a b c d e f g h j k l m n o p q r=> .opt (N.mo N.fuel a (N.ax.mk (N.aI.mk (N.bV.mk (N.aN.mk k l b c) (N.aG.mk m n d)) (N.b9.mk o p) q r e f g h j) [])) fun x_=>bf x_ (fun s=> .ret (.ret [],[.bx (zo s 1 2 3 4 5 6 7 8 13),.al .str s.Server.aA.D.aU,.al (.named 0) s.Server.aA.D.bC,.al (.named 2) s.Server.aA.S.aP,.al (.named 3) s.Server.aA.S.Marks,.arr .ba (.named 6) s.Server.bd.bF,.al (.named 7) s.Server.bd.cZ,.arr .fix .i6 s.Server.Seen,.al (.named 9) s.Server.Told,.dead,.dead,.dead,.dead,.al (.named 9) s.told])) (fun t=>bf t (fun u=> .ret (.ret [],[.bx (FA u.1 7 8 17),.arr .ba .str u.2.1,.arr .ba (.named 0) u.2.2.1,.arr .ba (.named 2) u.2.2.2.1,.arr .ba (.named 3) u.2.2.2.2.1,.arr .ba (.named 6) u.2.2.2.2.2.1,.arr .ba (.named 7) u.2.2.2.2.2.2,.arr .fix .i6 u.1.Server.Seen,.al (.named 9) u.1.Server.Told,.dead,.dead,.dead,.dead,.dead,.dead,.dead,.dead,.al (.named 9) u.1.told])) (fun v=> .ret (.panic (.fG 213 (.nv 16 N.fa.mk)),[.bx (xS v.1 5 6 7 8),.arr .ba .str v.2.1,.arr .ba (.named 0) v.2.2.1,.arr .ba (.named 2) v.2.2.2.1,.arr .ba (.named 3) v.2.2.2.2,.arr .ba (.named 6) v.1.Server.bd.bF,.al (.named 7) v.1.Server.bd.cZ,.arr .fix .i6 v.1.Server.Seen,.al (.named 9) v.1.Server.Told,.dead,.dead,.dead])))⟩}
theorem y98:aM Tryz.prog 98 x98.ins:=mD Tryz.func98 rfl ⟨UA,Uz,YP,adX,adW,YO,Us,trivial⟩ trivial trivial (fun _ _ _ _ _ _ _ _ _ _ _ _ _ _ _ _ _=>by show _=_;kernel_rfl)
def P98:SP:=(98,.full [.ptr,.data (.named 12)] false (cC [x98.ins]))
theorem p98:OK P98:=br ok Tryz.call98 ⟨y98,trivial⟩
noncomputable def B92:l8 E:=pV E (jX []) (Ga E 23 [] []) 0 Tryz.f92
theorem p92:ix Tryz.prog E 92 B92:=k7 sound mix (S:=[]) trivial (L:=Ga E 23 [] []) (fun _=>rfl) Tryz.call92 Tryz.func92 rfl
def x37:cg E:={S:=[T3,P94,P95,P96,P97,P98],D:=[(92,B92)],aH:=true,i:=⟨[.ptr 0 [],.v (.named 12)],[.bx (se 1 2 3 4 5 6 7 8),.al .str,.al (.named 0),.al (.named 2),.al (.named 3),.al (.named 6),.al (.named 7),.arr .fix .i6,.al (.named 9)],fun a b c d e f g h j k l m n o p q r=> .opt (N.kk N.fuel a (N.ax.mk (N.aI.mk (N.bV.mk (N.aN.mk k l b c) (N.aG.mk m n d)) (N.b9.mk o p) q r e f g h j) [])) fun x_=>bf x_ (fun s=> .ret (.ret [],[.bx (QM s 1 2 3 4 5 6 7 8),.al .str s.Server.aA.D.aU,.al (.named 0) s.Server.aA.D.bC,.al (.named 2) s.Server.aA.S.aP,.al (.named 3) s.Server.aA.S.Marks,.al (.named 6) s.Server.bd.bF,.al (.named 7) s.Server.bd.cZ,.arr .fix .i6 s.Server.Seen,.al (.named 9) s.Server.Told,.dead])) (fun t=>bf t (fun u=> .ret (.ret [],[.bx (zo u 1 2 3 4 5 6 7 8 13),.al .str u.Server.aA.D.aU,.al (.named 0) u.Server.aA.D.bC,.al (.named 2) u.Server.aA.S.aP,.al (.named 3) u.Server.aA.S.Marks,.al (.named 6) u.Server.bd.bF,.al (.named 7) u.Server.bd.cZ,.arr .fix .i6 u.Server.Seen,.al (.named 9) u.Server.Told,.dead,.dead,.dead,.dead,.al (.named 9) u.told])) (fun v=>bf v (fun w=> .ret (.ret [],[.bx (zo w 1 2 3 4 5 6 7 8 14),.al .str w.Server.aA.D.aU,.al (.named 0) w.Server.aA.D.bC,.al (.named 2) w.Server.aA.S.aP,.al (.named 3) w.Server.aA.S.Marks,.arr .ba (.named 6) w.Server.bd.bF,.al (.named 7) w.Server.bd.cZ,.arr .fix .i6 w.Server.Seen,.al (.named 9) w.Server.Told,.dead,.dead,.dead,.dead,.dead,.al (.named 9) w.told])) (fun x=>bf x (fun y=> .ret (.ret [],[.bx (zo y 1 2 3 4 5 6 7 8 14),.al .str y.Server.aA.D.aU,.al (.named 0) y.Server.aA.D.bC,.al (.named 2) y.Server.aA.S.aP,.al (.named 3) y.Server.aA.S.Marks,.al (.named 6) y.Server.bd.bF,.al (.named 7) y.Server.bd.cZ,.arr .fix .i6 y.Server.Seen,.al (.named 9) y.Server.Told,.dead,.dead,.dead,.dead,.dead,.al (.named 9) y.told])) (fun z=>bf z (fun aa=> .ret (.ret [],[.bx (g13 aa.1 1 2 3 4 7 8 13),.al .str aa.1.Server.aA.D.aU,.al (.named 0) aa.1.Server.aA.D.bC,.al (.named 2) aa.1.Server.aA.S.aP,.al (.named 3) aa.1.Server.aA.S.Marks,.arr .ba (.named 6) aa.2.1,.arr .ba (.named 7) aa.2.2,.arr .fix .i6 aa.1.Server.Seen,.al (.named 9) aa.1.Server.Told,.dead,.dead,.dead,.dead,.al (.named 9) aa.1.told])) (fun ab=>bf ab (fun ac=> .ret (.ret [],[.bx (g13 ac.1 1 2 3 4 7 8 14),.al .str ac.1.Server.aA.D.aU,.al (.named 0) ac.1.Server.aA.D.bC,.al (.named 2) ac.1.Server.aA.S.aP,.al (.named 3) ac.1.Server.aA.S.Marks,.arr .ba (.named 6) ac.2.1,.arr .ba (.named 7) ac.2.2,.arr .fix .i6 ac.1.Server.Seen,.al (.named 9) ac.1.Server.Told,.dead,.dead,.dead,.dead,.dead,.al (.named 9) ac.1.told])) (fun ad=>bf ad (fun ae=> .ret (.ret [],[.bx (g13 ae.1 1 2 3 4 7 8 15),.al .str ae.1.Server.aA.D.aU,.al (.named 0) ae.1.Server.aA.D.bC,.al (.named 2) ae.1.Server.aA.S.aP,.al (.named 3) ae.1.Server.aA.S.Marks,.arr .ba (.named 6) ae.2.1,.arr .ba (.named 7) ae.2.2,.arr .fix .i6 ae.1.Server.Seen,.al (.named 9) ae.1.Server.Told,.dead,.dead,.dead,.dead,.dead,.dead,.al (.named 9) ae.1.told])) (fun af=>bf af (fun ag=> .ret (.ret [],[.bx (g13 ag.1 1 2 3 4 7 8 16),.al .str ag.1.Server.aA.D.aU,.al (.named 0) ag.1.Server.aA.D.bC,.al (.named 2) ag.1.Server.aA.S.aP,.al (.named 3) ag.1.Server.aA.S.Marks,.arr .ba (.named 6) ag.2.1,.arr .ba (.named 7) ag.2.2,.arr .fix .i6 ag.1.Server.Seen,.al (.named 9) ag.1.Server.Told,.dead,.dead,.dead,.dead,.dead,.dead,.dead,.al (.named 9) ag.1.told])) (fun ah=>bf ah (fun ai=> .ret (.ret [],[.bx (g13 ai.1 1 2 3 4 7 8 17),.al .str ai.1.Server.aA.D.aU,.al (.named 0) ai.1.Server.aA.D.bC,.al (.named 2) ai.1.Server.aA.S.aP,.al (.named 3) ai.1.Server.aA.S.Marks,.arr .ba (.named 6) ai.2.1,.arr .ba (.named 7) ai.2.2,.arr .fix .i6 ai.1.Server.Seen,.al (.named 9) ai.1.Server.Told,.dead,.dead,.dead,.dead,.dead,.dead,.dead,.dead,.al (.named 9) ai.1.told])) (fun aj=>bf aj (fun ak=> .ret (.ret [],[.bx (xS ak.1 5 6 7 8),.arr .ba .str ak.2.1,.arr .ba (.named 0) ak.2.2.1,.arr .ba (.named 2) ak.2.2.2.1,.arr .ba (.named 3) ak.2.2.2.2,.arr .ba (.named 6) ak.1.Server.bd.bF,.al (.named 7) ak.1.Server.bd.cZ,.arr .fix .i6 ak.1.Server.Seen,.al (.named 9) ak.1.Server.Told,.dead,.dead,.dead,.dead])) (fun al=>bf al (fun am=> .ret (.ret [],[.bx (xS am.1 5 6 7 8),.arr .ba .str am.2.1,.arr .ba (.named 0) am.2.2.1,.arr .ba (.named 2) am.2.2.2.1,.arr .ba (.named 3) am.2.2.2.2,.al (.named 6) am.1.Server.bd.bF,.al (.named 7) am.1.Server.bd.cZ,.arr .fix .i6 am.1.Server.Seen,.al (.named 9) am.1.Server.Told,.dead,.dead,.dead,.dead])) (fun an=>bf an (fun ao=> .ret (.ret [],[.bx (xS ao.1 5 6 7 8),.arr .ba .str ao.2.1,.arr .ba (.named 0) ao.2.2.1,.arr .ba (.named 2) ao.2.2.2.1,.arr .ba (.named 3) ao.2.2.2.2,.al (.named 6) ao.1.Server.bd.bF,.al (.named 7) ao.1.Server.bd.cZ,.arr .fix .i6 ao.1.Server.Seen,.al (.named 9) ao.1.Server.Told,.dead,.dead,.dead,.dead,.dead])) (fun ap=>bf ap (fun aq=> .ret (.ret [],[.bx (HE aq.1 5 6 7 8 18),.arr .ba .str aq.2.1,.arr .ba (.named 0) aq.2.2.1,.arr .ba (.named 2) aq.2.2.2.1,.arr .ba (.named 3) aq.2.2.2.2,.al (.named 6) aq.1.Server.bd.bF,.al (.named 7) aq.1.Server.bd.cZ,.arr .fix .i6 aq.1.Server.Seen,.al (.named 9) aq.1.Server.Told,.dead,.dead,.dead,.dead,.dead,.dead,.dead,.dead,.dead,.al (.named 9) aq.1.told])) (fun ar=>bf ar (fun au=> .ret (.ret [],[.bx (FA au.1 7 8 18),.arr .ba .str au.2.1,.arr .ba (.named 0) au.2.2.1,.arr .ba (.named 2) au.2.2.2.1,.arr .ba (.named 3) au.2.2.2.2.1,.arr .ba (.named 6) au.2.2.2.2.2.1,.arr .ba (.named 7) au.2.2.2.2.2.2,.arr .fix .i6 au.1.Server.Seen,.al (.named 9) au.1.Server.Told,.dead,.dead,.dead,.dead,.dead,.dead,.dead,.dead,.dead,.al (.named 9) au.1.told])) (fun av=> .ret (.ret [],[.bx (FA av.1 7 8 19),.arr .ba .str av.2.1,.arr .ba (.named 0) av.2.2.1,.arr .ba (.named 2) av.2.2.2.1,.arr .ba (.named 3) av.2.2.2.2.1,.arr .ba (.named 6) av.2.2.2.2.2.1,.arr .ba (.named 7) av.2.2.2.2.2.2,.arr .fix .i6 av.1.Server.Seen,.al (.named 9) av.1.Server.Told,.dead,.dead,.dead,.dead,.dead,.dead,.dead,.dead,.dead,.dead,.al (.named 9) av.1.told])))))))))))))))⟩}
theorem y37:aM Tryz.prog 37 x37.ins:=mD Tryz.func37 rfl ⟨Us,p94,p95,p96,p97,p98,trivial⟩ ⟨p92,trivial⟩ trivial (fun _ _ _ _ _ _ _ _ _ _ _ _ _ _ _ _ _=>by show _=_;kernel_rfl)
def P37:SP:=(37,.full [.ptr,.data (.named 12)] false (cC [x37.ins]))
theorem p37:OK P37:=br ok Tryz.call37 ⟨y37,trivial⟩
def x14:cg E:={S:=[P34,P35,P36,P37],i:=cE [(.named 10),(.slice (.int .u8))] [(.named 10),(.slice (.named 9))] (N.qZ N.fuel)}
theorem y14:aM Tryz.prog 14 x14.ins:=go Tryz.func14 rfl ⟨p34,p35,p36,p37,trivial⟩ trivial trivial (fun _ _=>by show _=_;kernel_rfl)
def P14:SP:=(14,.pure [(.named 10),(.slice (.int .u8))] (bz [x14.ins]))
theorem p14:OK P14:=aJ Tryz.call14 ⟨y14,trivial⟩
def Xt:cg E:={S:=[Rt,Po],i:=⟨[.ptr 0 [],.iv],[.bx (.agg 19 [.agg 1 [.own 1,.own 2,.iv,.v .bool]]),.al .str,.al (.named 0)],fun i a b c d=> .opt (N.mA i (N.bc.mk (N.aN.mk c d a b))) fun x_=>bf x_ (fun e=> .ret (.ret [.sv e.1],[.bx (.nv 19 e.2.1),.arr .ba .str e.2.2.1,.arr .ba (.named 0) e.2.2.2])) (fun f=> .ret (.panic (.fG 292 (.nv 16 N.fa.mk)),[.bx (.nv 19 f.1),.arr .ba .str f.2.1,.arr .ba (.named 0) f.2.2]))⟩}
theorem ac4:aM Tryz.prog 186 Xt.ins:=mD Tryz.func186 rfl ⟨Uy,Qd,trivial⟩ trivial trivial (fun _ _ _ _ _=>by show _=_;kernel_rfl)
def Tu:cg E:={S:=[Rt,Po],i:=⟨[.ptr 0 [],.iv],[.bx (.v (.named 19))],fun i w=> .opt (N.kz i w) fun x_=>bf x_ (fun a=> .ret (.ret [.sv a.1],[.bx (.nv 19 a.2)])) (fun b=> .ret (.panic (.fG 292 (.nv 16 N.fa.mk)),[.bx (.nv 19 b)]))⟩}
theorem VU:aM Tryz.prog 186 Tu.ins:=mD Tryz.func186 rfl ⟨Uy,Qd,trivial⟩ trivial trivial (fun _ _=>by show _=_;kernel_rfl)
def Z4:SP:=(186,.full [.ptr,.data .i6] false (cC [Xt.ins,Tu.ins]))
theorem adU:OK Z4:=br ok Tryz.call186 ⟨ac4,VU,trivial⟩
def Wj:cg E:={ls:=[{ks:=[0,1],rs:=[0,4],ins:=some [⟨[.v .str,.v (.int .u8)],[],fun s c=>⟨s,N.gn c,fun v_=>([.sv v_,.val (.int .u8) c],[]),fun x_=> .ret (.exit 0,[.sv x_,.undef],[])⟩⟩]}],i:=cE [.str,(.int .u8)] [.str] (N.iz N.fuel)}
theorem aaZ:aM Tryz.prog 296 Wj.ins:=go Tryz.func296 rfl trivial trivial ⟨⟨fun _ _=>⟨rfl,fun _=>by show _=_;kernel_rfl⟩,trivial⟩,trivial⟩ (fun _ _=>by show _=_;kernel_rfl)
def Zo:SP:=(296,.pure [.str,(.int .u8)] (bz [Wj.ins]))
theorem ad8:OK Zo:=aJ Tryz.call296 ⟨aaZ,trivial⟩
def Wk:cg E:={ls:=[{ks:=[0,1],rs:=[0,4],ins:=some [⟨[.v .str,.v (.int .u8)],[],fun s c=>⟨s,N.lQ c,fun v_=>([.sv v_,.val (.int .u8) c],[]),fun x_=> .ret (.exit 0,[.sv x_,.undef],[])⟩⟩]}],i:=cE [.str,(.int .u8)] [.str] (N.iU N.fuel)}
theorem ab0:aM Tryz.prog 295 Wk.ins:=go Tryz.func295 rfl trivial trivial ⟨⟨fun _ _=>⟨rfl,fun _=>by show _=_;kernel_rfl⟩,trivial⟩,trivial⟩ (fun _ _=>by show _=_;kernel_rfl)
def Zp:SP:=(295,.pure [.str,(.int .u8)] (bz [Wk.ins]))
theorem ad9:OK Zp:=aJ Tryz.call295 ⟨ab0,trivial⟩
def WC:cg E:={S:=[Zp,Zo],i:=⟨[.v .str,.str [0]],[],fun s=> .opt (N.qM N.fuel s) fun x_=> .ret (.ret [.sv x_],[])⟩}
theorem abj:aM Tryz.prog 263 WC.ins:=go Tryz.func263 rfl ⟨ad9,ad8,trivial⟩ trivial trivial (fun _=>by show _=_;kernel_rfl)
def ZA:SP:=(263,.pure [.str,.str] (bz [WC.ins]))
theorem ado:OK ZA:=aJ Tryz.call263 ⟨abj,trivial⟩
def Xs:cg E:={S:=[ZA],ls:=[{ks:=[1,2,8,9,10,43,44,45],rs:=[2,6,7,8,9],zR:=[.zR (.slot 9) [] .i6],ins:=some [⟨[.iv,.v .str,.iv,.own 2,.iv,.own 1,.iv,.iv],[.bx (.v (.named 1)),.al (.int .u8),.al .i6],fun a s n b c d o0 r1 l=>⟨(b,d,l),N.rz a s n c o0 r1,fun v_=>([.iv a,.sv s,.iv n,.own 2,.iv v_.1,.own 1,.iv c,.iv v_.2.1],[.bx (.nv 1 o0),.al (.int .u8) r1,.al .i6 v_.2.2]),fun x_=>bf x_ (fun e=> .ret (.ret,[.sv s,.bj,.bv false,.iv n,.own 2],[.bx (.nv 1 o0),.al (.int .u8) r1,.al .i6 e])) (fun f=> .ret (.exit 0,[.sv s,.undef,.undef,.iv n,.own 2],[.bx (.nv 1 o0),.al (.int .u8) r1,.al .i6 f]))⟩⟩]}],i:=cE [(.named 1),.i6,.str] [(.slice .i6),.bool] (N.qs N.fuel)}
theorem ac3:aM Tryz.prog 187 Xs.ins:=go Tryz.func187 rfl ⟨ado,trivial⟩ trivial ⟨⟨fun _ _ _ _ _ _ _ _ _=>⟨rfl,fun _=>by show _=_;kernel_rfl⟩,trivial⟩,trivial⟩ (fun _ _ _=>by show _=_;kernel_rfl)
def Z3:SP:=(187,.pure [(.named 1),.i6,.str] (bz [Xs.ins]))
theorem adT:OK Z3:=aJ Tryz.call187 ⟨ac3,trivial⟩
def Yd:cg E:={S:=[Z4,Z3,Vl,Vk,Zj,Zi],D:=[(185,VA)],ls:=[{ks:=[1,4,5,6,53,54,55],rs:=[4,5,6],d:=[(185,[.ptr 3 [],.ptr 1 [],.ptr 2 []])],ins:=some [⟨[.iv,.ptr 1 [],.ptr 2 [],.ptr 3 [],.v (.slice .i6),.iv,.iv],[.bx (.v (.named 1)),.bx (.agg 1 [.bj,.bj,.iv,.v .bool]),.bx (.v .bool),.bx (.v (.named 19)),.arr .ba .str,.arr .ba (.named 0)],fun a b c e o0 f g ok w r4 r5=>⟨(e,(N.aN.mk [] [] f g),w),N.oV a b c o0 ok r4 r5,fun v_=>([.iv a,.ptr 1 [],.ptr 2 [],.ptr 3 [],.val (.slice .i6) b,.iv c,.iv v_.1],[.bx (.nv 1 o0),.bx (g1 v_.2.1),.bx (.bv ok),.bx (.nv 19 v_.2.2),.arr .ba .str r4,.arr .ba (.named 0) r5]),fun x_=>bf x_ (fun h=> .ret (.panic (.fG 292 (.nv 16 N.fa.mk)),[.ptr 1 [],.ptr 2 [],.ptr 3 []],[.bx (.nv 1 o0),.bx (g1 h.1),.bx (.bv ok),.bx (.nv 19 h.2),.arr .ba .str r4,.arr .ba (.named 0) r5])) (fun j=> .ret (.exit 0,[.ptr 1 [],.ptr 2 [],.ptr 3 []],[.bx (.nv 1 o0),.bx (g1 j.1),.bx (.bv ok),.bx (.nv 19 j.2),.arr .ba .str r4,.arr .ba (.named 0) r5]))⟩⟩]}],i:=cE [(.named 1),.i6] [(.named 1),.bool] (N.sw N.fuel)}
theorem acR:aM Tryz.prog 108 Yd.ins:=go Tryz.func108 rfl ⟨adU,adT,YL,YK,p80,p81,trivial⟩ ⟨YM,trivial⟩ ⟨⟨fun _ _ _ _ _ _ _ _ _ _ _=>⟨rfl,fun _=>by show _=_;kernel_rfl⟩,trivial⟩,trivial⟩ (fun _ _=>by show _=_;kernel_rfl)
def aao:SP:=(108,.pure [(.named 1),.i6] (bz [Yd.ins]))
theorem aer:OK aao:=aJ Tryz.call108 ⟨acR,trivial⟩
def Ya:cg E:={S:=[Ru,Rt],ls:=[{ks:=[1,2,6,7],rs:=[2],zR:=[.zR (.slot 2) [] .str],ins:=some [⟨[.ptr 0 [],.own 1,.iv,.iv],[.bx (.v (.named 1)),.al .str],fun t6 t7 d l=>⟨(t7,l),N.m7 t6 d,fun v_=>([.ptr 0 [],.own 1,.iv t6,.iv v_.1],[.bx (.nv 1 d),.al .str v_.2]),fun x_=>bf x_ (fun a=> .ret (.panic (.fG 160 (.nv 16 N.fa.mk)),[.own 1],[.bx (.nv 1 d),.al .str a])) (fun b=> .ret (.exit 0,[.own 1],[.bx (.nv 1 d),.al .str b]))⟩⟩]}],i:=⟨[.v (.named 1)],[],fun d=> .opt (N.pC N.fuel d) fun x_=>bf x_ (fun a=> .ret (.ret [.val (.slice .str) a],[])) (fun b=> .ret (.panic (.fG 160 (.nv 16 N.fa.mk)),[]))⟩}
theorem acO:aM Tryz.prog 111 Ya.ins:=go Tryz.func111 rfl ⟨R4,Uy,trivial⟩ trivial ⟨⟨fun _ _ _ _=>⟨rfl,fun _=>by show _=_;kernel_rfl⟩,trivial⟩,trivial⟩ (fun _=>by show _=_;kernel_rfl)
def aam:SP:=(111,.pure [(.named 1)] (bz [Ya.ins]))
theorem aep:OK aam:=aJ Tryz.call111 ⟨acO,trivial⟩
def WB:cg E:={S:=[S2],i:=⟨[.ptr 0 [],.iv],[.bx (.agg 20 [.own 1]),.al (.int .u8)],fun n a=> .opt (N.mC N.fuel n (N.bH.mk a)) fun x_=>bf x_ (fun b=> .ret (.ret [.iv b.1],[.bx (.nv 20 b.2.1),.arr .ba (.int .u8) b.2.2])) (fun c=> .ret (.panic (.fG 233 (.nv 16 N.fa.mk)),[.bx (.agg 20 [.own 1]),.al (.int .u8) a]))⟩}
theorem abi:aM Tryz.prog 264 WB.ins:=mD Tryz.func264 rfl ⟨Uw,trivial⟩ trivial trivial (fun _ _=>by show _=_;kernel_rfl)
def Tm:cg E:={S:=[S2],i:=⟨[.ptr 0 [],.iv],[.bx (.v (.named 20))],fun n r=> .opt (N.kE N.fuel n r) fun x_=>bf x_ (fun a=> .ret (.ret [.iv a.1],[.bx (.nv 20 a.2)])) (fun b=> .ret (.panic (.fG 233 (.nv 16 N.fa.mk)),[.bx (.nv 20 r)]))⟩}
theorem VM:aM Tryz.prog 264 Tm.ins:=mD Tryz.func264 rfl ⟨Uw,trivial⟩ trivial trivial (fun _ _=>by show _=_;kernel_rfl)
def Zz:SP:=(264,.full [.ptr,.data .i6] false (cC [WB.ins,Tm.ins]))
theorem adn:OK Zz:=br ok Tryz.call264 ⟨abi,VM,trivial⟩
def WA:cg E:={S:=[Vg],i:=⟨[.ptr 0 [],.iv],[.bx (.v (.named 20))],fun n r=> .opt (N.lJ n r) fun x_=>bf x_ (fun a=> .ret (.ret [.sv a.1],[.bx (.nv 20 a.2)])) (fun b=> .ret (.panic (.fG 233 (.nv 16 N.fa.mk)),[.bx (.nv 20 r)]))⟩}
theorem abh:aM Tryz.prog 265 WA.ins:=mD Tryz.func265 rfl ⟨YG,trivial⟩ trivial trivial (fun _ _=>by show _=_;kernel_rfl)
def Zy:SP:=(265,.full [.ptr,.data .i6] false (cC [WA.ins]))
theorem adm:OK Zy:=br ok Tryz.call265 ⟨abh,trivial⟩
def Xp:cg E:={S:=[Zz,Zy],ls:=[{ks:=[0,2,7],rs:=[0,2],zR:=[.zR (.obj 2) [1] (.named 3)],ins:=some [⟨[.ptr 0 [],.ptr 2 [],.iv],[.bx (.v (.named 20)),.arr .ba (.int .u8),.bx (.agg 4 [.bj,.own 3,.iv]),.al (.named 3)],fun t7 r r1 a b=>⟨(t7,r,(N.aG.mk [] b a)),N.jI N.fuel r1,fun v_=>([.ptr 0 [],.ptr 2 [],.iv v_.1],[.bx (.nv 20 v_.2.1),.arr .ba (.int .u8) r1,.bx (.agg 4 [.bj,.own 3,.iv v_.2.2.aS]),.al (.named 3) v_.2.2.Marks]),fun x_=>bf x_ (fun c=> .ret (.panic (.fG 233 (.nv 16 N.fa.mk)),[.ptr 0 [],.ptr 2 []],[.bx (.nv 20 c.1),.arr .ba (.int .u8) r1,.bx (.agg 4 [.bj,.own 3,.iv c.2.aS]),.al (.named 3) c.2.Marks])) (fun d=> .ret (.exit 0,[.ptr 0 [],.ptr 2 []],[.bx (.nv 20 d.1),.arr .ba (.int .u8) r1,.bx (.agg 4 [.bj,.own 3,.iv d.2.aS]),.al (.named 3) d.2.Marks]))⟩⟩]},{ks:=[0,2,24],rs:=[2],zR:=[.zR (.obj 2) [0] (.named 2)],ins:=some [⟨[.ptr 0 [],.ptr 2 [],.iv],[.bx (.v (.named 20)),.arr .ba (.int .u8),.bx (.agg 4 [.own 4,.own 3,.iv]),.al (.named 3),.al (.named 2)],fun e r r1 a b f=>⟨(e,r,(N.aG.mk f b a)),N.jH N.fuel r1,fun v_=>([.ptr 0 [],.ptr 2 [],.iv v_.1],[.bx (.nv 20 v_.2.1),.arr .ba (.int .u8) r1,.bx (.agg 4 [.own 4,.own 3,.iv v_.2.2.aS]),.al (.named 3) v_.2.2.Marks,.al (.named 2) v_.2.2.aP]),fun x_=>bf x_ (fun c=> .ret (.panic (.fG 233 (.nv 16 N.fa.mk)),[.ptr 2 []],[.bx (.nv 20 c.1),.arr .ba (.int .u8) r1,.bx (.agg 4 [.own 4,.own 3,.iv c.2.aS]),.al (.named 3) c.2.Marks,.al (.named 2) c.2.aP])) (fun d=>bf d (fun g=> .ret (.panic (.fG 233 (.nv 16 N.fa.mk)),[.ptr 2 []],[.bx (.nv 20 g.1),.arr .ba (.int .u8) r1,.bx (.agg 4 [.own 4,.own 3,.iv g.2.1.aS]),.al (.named 3) g.2.1.Marks,.al (.named 2) g.2.1.aP,.bx (.agg 2 [.sv g.2.2.Name,.iv g.2.2.pY,.sv g.2.2.Body])])) (fun h=> .ret (.exit 2,[.ptr 2 []],[.bx (.nv 20 h.1),.arr .ba (.int .u8) r1,.bx (.agg 4 [.own 4,.own 3,.iv h.2.aS]),.al (.named 3) h.2.Marks,.al (.named 2) h.2.aP])))⟩⟩]}],i:=⟨[.ptr 0 []],[.bx (.agg 20 [.own 1]),.al (.int .u8)],fun j=> .opt (N.lK N.fuel (N.bH.mk j)) fun x_=>bf x_ (fun c=> .ret (.ret [.nv 4 c.1],[.bx (.nv 20 c.2.1),.arr .ba (.int .u8) c.2.2])) (fun d=>bf d (fun g=> .ret (.panic (.fG 233 (.nv 16 N.fa.mk)),[.bx (.agg 20 [.own 1]),.al (.int .u8) j])) (fun h=> .ret (.panic (.fG 233 (.nv 16 N.fa.mk)),[.bx (.nv 20 h.1),.arr .ba (.int .u8) h.2])))⟩}
theorem ac0:aM Tryz.prog 192 Xp.ins:=mD Tryz.func192 rfl ⟨adn,adm,trivial⟩ trivial ⟨⟨fun _ _ _ _ _=>⟨rfl,fun _=>by show _=_;kernel_rfl⟩,trivial⟩,⟨⟨fun _ _ _ _ _ _=>⟨rfl,fun _=>by show _=_;kernel_rfl⟩,trivial⟩,trivial⟩⟩ (fun _=>by show _=_;kernel_rfl)
def Z2:SP:=(192,.full [.ptr] false (cC [Xp.ins]))
theorem adQ:OK Z2:=br ok Tryz.call192 ⟨ac0,trivial⟩
def X4:cg E:={ls:=[{ks:=[0,1,12,13],rs:=[4],ins:=some [⟨[.v (.slice .str),.v (.slice .str),.iv,.iv],[],fun s1 s2 a b=>⟨b,N.iD s1 s2 a,fun v_=>([.val (.slice .str) s1,.val (.slice .str) s2,.iv a,.iv v_],[]),fun x_=>bf x_ (fun c=> .ret (.ret,[.bv false],[])) (fun d=> .ret (.exit 0,[.undef],[]))⟩⟩]}],i:=cE [(.slice .str),(.slice .str)] [.bool] (N.jy N.fuel)}
theorem acI:aM Tryz.prog 133 X4.ins:=go Tryz.func133 rfl trivial trivial ⟨⟨fun _ _ _ _=>⟨rfl,fun _=>by show _=_;kernel_rfl⟩,trivial⟩,trivial⟩ (fun _ _=>by show _=_;kernel_rfl)
def Vu:SP:=(133,.pure [(.slice .str),(.slice .str)] (bz [X4.ins]))
theorem YY:OK Vu:=aJ Tryz.call133 ⟨acI,trivial⟩
noncomputable def aax:l8 E:=pV E (jX []) (Ga E 17 [] []) 0 Tryz.f190
theorem adS:ix Tryz.prog E 190 aax:=k7 sound mix (S:=[]) trivial (L:=Ga E 17 [] []) (fun _=>rfl) Tryz.call190 Tryz.func190 rfl
def Yb:cg E:={S:=[Vu,Vr,Vj,Z2,Zk],D:=[(190,aax)],i:=cE [(.slice .str)] [(.named 4),.bool] (N.vm N.fuel)}
theorem acP:aM Tryz.prog 110 Yb.ins:=go Tryz.func110 rfl ⟨YY,YV,adR,adQ,p74,trivial⟩ ⟨adS,trivial⟩ trivial (fun _=>by show _=_;kernel_rfl)
def aan:SP:=(110,.pure [(.slice .str)] (bz [Yb.ins]))
theorem aeq:OK aan:=aJ Tryz.call110 ⟨acP,trivial⟩
noncomputable def aaA:l8 E:=pV E (jX []) (Ga E 17 [] []) 0 Tryz.f107
theorem aes:ix Tryz.prog E 107 aaA:=k7 sound mix (S:=[]) trivial (L:=Ga E 17 [] []) (fun _=>rfl) Tryz.call107 Tryz.func107 rfl
def x42:cg E:={S:=[aao,Ru,aan,aam,P73],D:=[(107,aaA)],i:=cE [(.named 1)] [(.named 5),.bool] (N.uq N.fuel)}
theorem y42:aM Tryz.prog 42 x42.ins:=go Tryz.func42 rfl ⟨aer,R4,aeq,aep,p73,trivial⟩ ⟨aes,trivial⟩ trivial (fun _=>by show _=_;kernel_rfl)
def P42:SP:=(42,.pure [(.named 1)] (bz [x42.ins]))
theorem p42:OK P42:=aJ Tryz.call42 ⟨y42,trivial⟩
def x44:cg E:={S:=[Ta],i:=⟨[.v (.named 4)],[],fun s=> .wH (.ret (N.qU s)) fun x_=> .ret (.ret [.nv 4 x_],[])⟩}
theorem y44:aM Tryz.prog 44 x44.ins:=go Tryz.func44 rfl ⟨YZ,trivial⟩ trivial trivial (fun _=>by show _=_;kernel_rfl)
def P44:SP:=(44,.pure [(.named 4)] (bz [x44.ins]))
theorem p44:OK P44:=aJ Tryz.call44 ⟨y44,trivial⟩
def X5:cg E:={i:=⟨[.iv,.iv],[],fun v a=> .opt (N.yh v a) fun x_=>bf x_ (fun b=> .ret (.ret [],[])) (fun c=> .ret (.panic (.fG 242 (.nv 16 N.fa.mk)),[]))⟩}
theorem acJ:aM Tryz.prog 117 X5.ins:=go Tryz.func117 rfl trivial trivial trivial (fun _ _=>by show _=_;kernel_rfl)
def aai:SP:=(117,.pure [.i6,.i6] (bz [X5.ins]))
theorem aek:OK aai:=aJ Tryz.call117 ⟨acJ,trivial⟩
noncomputable def aaz:l8 E:=pV E (jX []) (Ga E 18 [] []) 0 Tryz.f116
theorem ael:ix Tryz.prog E 116 aaz:=k7 sound mix (S:=[]) trivial (L:=Ga E 18 [] []) (fun _=>rfl) Tryz.call116 Tryz.func116 rfl
def x46:cg E:={S:=[aai],D:=[(116,aaz)],i:=cE [.i6,.i6] [.i6] N.B3}
theorem y46:aM Tryz.prog 46 x46.ins:=go Tryz.func46 rfl ⟨aek,trivial⟩ ⟨ael,trivial⟩ trivial (fun _ _=>by show _=_;kernel_rfl)
def P46:SP:=(46,.pure [.i6,.i6] (bz [x46.ins]))
theorem p46:OK P46:=aJ Tryz.call46 ⟨y46,trivial⟩
def x18:cg E:={S:=[P30,P42,P43,P44,P45,P46],i:=cE [(.named 1),.i6] [(.named 10),.bool] (N.sP N.fuel)}
theorem y18:aM Tryz.prog 18 x18.ins:=go Tryz.func18 rfl ⟨p30,p42,p43,p44,p45,p46,trivial⟩ trivial trivial (fun _ _=>by show _=_;kernel_rfl)
def P18:SP:=(18,.pure [(.named 1),.i6] (bz [x18.ins]))
theorem p18:OK P18:=aJ Tryz.call18 ⟨y18,trivial⟩
def X3:cg E:={ls:=[{ks:=[0,1,12,13],rs:=[4],ins:=some [⟨[.v (.slice (.named 0)),.v (.slice (.named 0)),.iv,.iv],[],fun s1 s2 a b=>⟨b,N.o7 s1 s2 a,fun v_=>([.val (.slice (.named 0)) s1,.val (.slice (.named 0)) s2,.iv a,.iv v_],[]),fun x_=>bf x_ (fun c=> .ret (.ret,[.bv false],[])) (fun d=> .ret (.exit 0,[.undef],[]))⟩⟩]}],i:=cE [(.slice (.named 0)),(.slice (.named 0))] [.bool] (N.qW N.fuel)}
theorem acH:aM Tryz.prog 134 X3.ins:=go Tryz.func134 rfl trivial trivial ⟨⟨fun _ _ _ _=>⟨rfl,fun _=>by show _=_;kernel_rfl⟩,trivial⟩,trivial⟩ (fun _ _=>by show _=_;kernel_rfl)
def aah:SP:=(134,.pure [(.slice (.named 0)),(.slice (.named 0))] (bz [X3.ins]))
theorem aej:OK aah:=aJ Tryz.call134 ⟨acH,trivial⟩
def x51:cg E:={S:=[Vu,aah],i:=cE [(.named 1),(.named 1)] [.bool] (N.w6 N.fuel)}
theorem y51:aM Tryz.prog 51 x51.ins:=go Tryz.func51 rfl ⟨YY,aej,trivial⟩ trivial trivial (fun _ _=>by show _=_;kernel_rfl)
def P51:SP:=(51,.pure [(.named 1),(.named 1)] (bz [x51.ins]))
theorem p51:OK P51:=aJ Tryz.call51 ⟨y51,trivial⟩
def X2:cg E:={ls:=[{ks:=[0,1,12,13],rs:=[4],ins:=some [⟨[.v (.slice (.named 2)),.v (.slice (.named 2)),.iv,.iv],[],fun s1 s2 a b=>⟨b,N.nY s1 s2 a,fun v_=>([.val (.slice (.named 2)) s1,.val (.slice (.named 2)) s2,.iv a,.iv v_],[]),fun x_=>bf x_ (fun c=> .ret (.ret,[.bv false],[])) (fun d=> .ret (.exit 0,[.undef],[]))⟩⟩]}],i:=cE [(.slice (.named 2)),(.slice (.named 2))] [.bool] (N.qe N.fuel)}
theorem acG:aM Tryz.prog 135 X2.ins:=go Tryz.func135 rfl trivial trivial ⟨⟨fun _ _ _ _=>⟨rfl,fun _=>by show _=_;kernel_rfl⟩,trivial⟩,trivial⟩ (fun _ _=>by show _=_;kernel_rfl)
def aag:SP:=(135,.pure [(.slice (.named 2)),(.slice (.named 2))] (bz [X2.ins]))
theorem aei:OK aag:=aJ Tryz.call135 ⟨acG,trivial⟩
def X1:cg E:={ls:=[{ks:=[0,1,12,13],rs:=[4],ins:=some [⟨[.v (.slice (.named 3)),.v (.slice (.named 3)),.iv,.iv],[],fun s1 s2 a b=>⟨b,N.nX s1 s2 a,fun v_=>([.val (.slice (.named 3)) s1,.val (.slice (.named 3)) s2,.iv a,.iv v_],[]),fun x_=>bf x_ (fun c=> .ret (.ret,[.bv false],[])) (fun d=> .ret (.exit 0,[.undef],[]))⟩⟩]}],i:=cE [(.slice (.named 3)),(.slice (.named 3))] [.bool] (N.qd N.fuel)}
theorem acF:aM Tryz.prog 136 X1.ins:=go Tryz.func136 rfl trivial trivial ⟨⟨fun _ _ _ _=>⟨rfl,fun _=>by show _=_;kernel_rfl⟩,trivial⟩,trivial⟩ (fun _ _=>by show _=_;kernel_rfl)
def aaf:SP:=(136,.pure [(.slice (.named 3)),(.slice (.named 3))] (bz [X1.ins]))
theorem aeh:OK aaf:=aJ Tryz.call136 ⟨acF,trivial⟩
def x52:cg E:={S:=[aag,aaf],i:=cE [(.named 4),(.named 4)] [.bool] (N.A8 N.fuel)}
theorem y52:aM Tryz.prog 52 x52.ins:=go Tryz.func52 rfl ⟨aei,aeh,trivial⟩ trivial trivial (fun _ _=>by show _=_;kernel_rfl)
def P52:SP:=(52,.pure [(.named 4),(.named 4)] (bz [x52.ins]))
theorem p52:OK P52:=aJ Tryz.call52 ⟨y52,trivial⟩
def x53:cg E:={ls:=[{ks:=[0,1,12,13],rs:=[4],ins:=some [⟨[.v (.slice (.named 6)),.v (.slice (.named 6)),.iv,.iv],[],fun s1 s2 a b=>⟨b,N.nc s1 s2 a,fun v_=>([.val (.slice (.named 6)) s1,.val (.slice (.named 6)) s2,.iv a,.iv v_],[]),fun x_=>bf x_ (fun c=> .ret (.ret,[.bv false],[])) (fun d=> .ret (.exit 0,[.undef],[]))⟩⟩]}],i:=cE [(.slice (.named 6)),(.slice (.named 6))] [.bool] (N.o8 N.fuel)}
theorem y53:aM Tryz.prog 53 x53.ins:=go Tryz.func53 rfl trivial trivial ⟨⟨fun _ _ _ _=>⟨rfl,fun _=>by show _=_;kernel_rfl⟩,trivial⟩,trivial⟩ (fun _ _=>by show _=_;kernel_rfl)
def P53:SP:=(53,.pure [(.slice (.named 6)),(.slice (.named 6))] (bz [x53.ins]))
theorem p53:OK P53:=aJ Tryz.call53 ⟨y53,trivial⟩
def x54:cg E:={ls:=[{ks:=[0,1,12,13],rs:=[4],ins:=some [⟨[.v (.slice (.named 7)),.v (.slice (.named 7)),.iv,.iv],[],fun s1 s2 a b=>⟨b,N.nV s1 s2 a,fun v_=>([.val (.slice (.named 7)) s1,.val (.slice (.named 7)) s2,.iv a,.iv v_],[]),fun x_=>bf x_ (fun c=> .ret (.ret,[.bv false],[])) (fun d=> .ret (.exit 0,[.undef],[]))⟩⟩]}],i:=cE [(.slice (.named 7)),(.slice (.named 7))] [.bool] (N.qb N.fuel)}
theorem y54:aM Tryz.prog 54 x54.ins:=go Tryz.func54 rfl trivial trivial ⟨⟨fun _ _ _ _=>⟨rfl,fun _=>by show _=_;kernel_rfl⟩,trivial⟩,trivial⟩ (fun _ _=>by show _=_;kernel_rfl)
def P54:SP:=(54,.pure [(.slice (.named 7)),(.slice (.named 7))] (bz [x54.ins]))
theorem p54:OK P54:=aJ Tryz.call54 ⟨y54,trivial⟩
def x55:cg E:={ls:=[{ks:=[0,1,12,13],rs:=[4],ins:=some [⟨[.v (.slice .i6),.v (.slice .i6),.iv,.iv],[],fun s1 s2 a b=>⟨b,N.o6 s1 s2 a,fun v_=>([.val (.slice .i6) s1,.val (.slice .i6) s2,.iv a,.iv v_],[]),fun x_=>bf x_ (fun c=> .ret (.ret,[.bv false],[])) (fun d=> .ret (.exit 0,[.undef],[]))⟩⟩]}],i:=cE [(.slice .i6),(.slice .i6)] [.bool] (N.qV N.fuel)}
theorem y55:aM Tryz.prog 55 x55.ins:=go Tryz.func55 rfl trivial trivial ⟨⟨fun _ _ _ _=>⟨rfl,fun _=>by show _=_;kernel_rfl⟩,trivial⟩,trivial⟩ (fun _ _=>by show _=_;kernel_rfl)
def P55:SP:=(55,.pure [(.slice .i6),(.slice .i6)] (bz [x55.ins]))
theorem p55:OK P55:=aJ Tryz.call55 ⟨y55,trivial⟩
def x56:cg E:={ls:=[{ks:=[0,1,12,13],rs:=[4],ins:=some [⟨[.v (.slice (.named 9)),.v (.slice (.named 9)),.iv,.iv],[],fun s1 s2 a b=>⟨b,N.nW s1 s2 a,fun v_=>([.val (.slice (.named 9)) s1,.val (.slice (.named 9)) s2,.iv a,.iv v_],[]),fun x_=>bf x_ (fun c=> .ret (.ret,[.bv false],[])) (fun d=> .ret (.exit 0,[.undef],[]))⟩⟩]}],i:=cE [(.slice (.named 9)),(.slice (.named 9))] [.bool] (N.qc N.fuel)}
theorem y56:aM Tryz.prog 56 x56.ins:=go Tryz.func56 rfl trivial trivial ⟨⟨fun _ _ _ _=>⟨rfl,fun _=>by show _=_;kernel_rfl⟩,trivial⟩,trivial⟩ (fun _ _=>by show _=_;kernel_rfl)
def P56:SP:=(56,.pure [(.slice (.named 9)),(.slice (.named 9))] (bz [x56.ins]))
theorem p56:OK P56:=aJ Tryz.call56 ⟨y56,trivial⟩
def x22:cg E:={S:=[P51,P52,P53,P54,P55,P56],i:=cE [(.named 10),(.named 10)] [.bool] (N.zc N.fuel)}
theorem y22:aM Tryz.prog 22 x22.ins:=go Tryz.func22 rfl ⟨p51,p52,p53,p54,p55,p56,trivial⟩ trivial trivial (fun _ _=>by show _=_;kernel_rfl)
def P22:SP:=(22,.pure [(.named 10),(.named 10)] (bz [x22.ins]))
theorem p22:OK P22:=aJ Tryz.call22 ⟨y22,trivial⟩
def x11:cg E:={S:=[P12,P14,P18,P22,P27],i:=cE [] [.bool] (N.zk N.fuel)}
theorem y11:aM Tryz.prog 11 x11.ins:=go Tryz.func11 rfl ⟨p12,p14,p18,p22,p27,trivial⟩ trivial trivial (by show _=_;kernel_rfl)
def P11:SP:=(11,.pure [] (bz [x11.ins]))
theorem p11:OK P11:=aJ Tryz.call11 ⟨y11,trivial⟩
def x32:cg E:={aH:=true,i:=⟨[.v (.slice (.int .u8))],[],fun l=> .wH (.ret (N.CC l)) fun x_=> .ret (.ret [.ptr 0 []],[.bx (.nv 15 x_)])⟩}
theorem y32:aM Tryz.prog 32 x32.ins:=mD Tryz.func32 rfl trivial trivial trivial (fun _=>by show _=_;kernel_rfl)
def P32:SP:=(32,.full [.data (.slice (.int .u8))] false (cC [x32.ins]))
theorem p32:OK P32:=br ok Tryz.call32 ⟨y32,trivial⟩
def x77:cg E:={i:=⟨[.ptr 0 [],.iv],[.bx (.v (.named 15))],fun m p=> .opt (N.oz m p) fun x_=> .ret (.ret [.iv x_.1],[.bx (.nv 15 x_.2)])⟩}
theorem y77:aM Tryz.prog 77 x77.ins:=mD Tryz.func77 rfl trivial trivial trivial (fun _ _=>by show _=_;kernel_rfl)
def P77:SP:=(77,.full [.ptr,.data .i6] false (cC [x77.ins]))
theorem p77:OK P77:=br ok Tryz.call77 ⟨y77,trivial⟩
def x79:cg E:={S:=[P77],i:=⟨[.ptr 0 []],[.bx (.v (.named 15))],fun p=> .opt (N.my p) fun x_=> .ret (.ret [.nv 11 x_.1],[.bx (.nv 15 x_.2)])⟩}
theorem y79:aM Tryz.prog 79 x79.ins:=mD Tryz.func79 rfl ⟨p77,trivial⟩ trivial trivial (fun _=>by show _=_;kernel_rfl)
def P79:SP:=(79,.full [.ptr] false (cC [x79.ins]))
theorem p79:OK P79:=br ok Tryz.call79 ⟨y79,trivial⟩
def x78:cg E:={S:=[P77,P79],ls:=[{ks:=[0,5,6],rs:=[4,5],zR:=[.zR (.slot 5) [] (.named 11)],ins:=some [⟨[.ptr 0 [],.own 1,.iv],[.bx (.v (.named 15)),.al (.named 11)],fun i p l=>⟨(i,p,l),N.jE,fun v_=>([.ptr 0 [],.own 1,.iv v_.1],[.bx (.nv 15 v_.2.1),.al (.named 11) v_.2.2]),fun x_=> .ret (.exit 0,[.undef,.own 1],[.bx (.nv 15 x_.1),.al (.named 11) x_.2])⟩⟩]}],aH:=true,i:=⟨[.ptr 0 [],.iv],[.bx (.v (.named 15))],fun a p=> .opt (N.lF N.fuel a p) fun x_=> .ret (.ret [.own 1],[.bx (.nv 15 x_.1),.al (.named 11) x_.2])⟩}
theorem y78:aM Tryz.prog 78 x78.ins:=mD Tryz.func78 rfl ⟨p77,p79,trivial⟩ trivial ⟨⟨fun _ _ _=>⟨rfl,fun _=>by show _=_;kernel_rfl⟩,trivial⟩,trivial⟩ (fun _ _=>by show _=_;kernel_rfl)
def P78:SP:=(78,.full [.ptr,.data .i6] false (cC [x78.ins]))
theorem p78:OK P78:=br ok Tryz.call78 ⟨y78,trivial⟩
def x33:cg E:={S:=[P77,P78,P79],i:=⟨[.ptr 0 []],[.bx (.v (.named 15))],fun p=> .opt (N.oA N.fuel p) fun x_=> .ret (.ret [.nv 12 x_.1],[.bx (.nv 15 x_.2)])⟩}
theorem y33:aM Tryz.prog 33 x33.ins:=mD Tryz.func33 rfl ⟨p77,p78,p79,trivial⟩ trivial trivial (fun _=>by show _=_;kernel_rfl)
def P33:SP:=(33,.full [.ptr] false (cC [x33.ins]))
theorem p33:OK P33:=br ok Tryz.call33 ⟨y33,trivial⟩
def x13:cg E:={S:=[P27,P32,P33],i:=cE [(.named 10),(.arr 4 (.int .u8))] [(.slice (.int .u8))] (N.ve N.fuel)}
theorem y13:aM Tryz.prog 13 x13.ins:=go Tryz.func13 rfl ⟨p27,p32,p33,trivial⟩ trivial trivial (fun _ _=>by show _=_;kernel_rfl)
def P13:SP:=(13,.pure [(.named 10),(.arr 4 (.int .u8))] (bz [x13.ins]))
theorem p13:OK P13:=aJ Tryz.call13 ⟨y13,trivial⟩
def x47:cg E:={i:=cE [(.slice .str),(.named 0),.i6] [(.slice .str)] N.uH}
theorem y47:aM Tryz.prog 47 x47.ins:=go Tryz.func47 rfl trivial trivial trivial (fun _ _ _=>by show _=_;kernel_rfl)
def P47:SP:=(47,.pure [(.slice .str),(.named 0),.i6] (bz [x47.ins]))
theorem p47:OK P47:=aJ Tryz.call47 ⟨y47,trivial⟩
end
open Go Go.Proofs.YtlejgahbbfeagaaGreatDoor.D
noncomputable section
def x19:cg E:={S:=[P47],ls:=[{ks:=[1,2,4,5],rs:=[2,4],ins:=some [⟨[.v (.slice .i6),.ptr 0 [],.ptr 1 [],.iv],[.bx (.v (.named 1)),.bx (.agg 1 [.bj,.bj,.iv,.v .bool])],fun a k d b c=>⟨(k,d,(N.aN.mk [] [] b c)),N.nr a,fun v_=>([.val (.slice .i6) a,.ptr 0 [],.ptr 1 [],.iv v_.1],[.bx (.nv 1 v_.2.1),.bx (g1 v_.2.2)]),fun x_=> .ret (.exit 0,[.ptr 0 [],.ptr 1 []],[.bx (.nv 1 x_.1),.bx (g1 x_.2)])⟩⟩]}],i:=cE [(.named 1),(.slice .i6)] [(.named 1)] (N.uJ N.fuel)}
theorem y19:aM Tryz.prog 19 x19.ins:=go Tryz.func19 rfl ⟨p47,trivial⟩ trivial ⟨⟨fun _ _ _ _ _=>⟨rfl,fun _=>by show _=_;kernel_rfl⟩,trivial⟩,trivial⟩ (fun _ _=>by show _=_;kernel_rfl)
def P19:SP:=(19,.pure [(.named 1),(.slice .i6)] (bz [x19.ins]))
theorem p19:OK P19:=aJ Tryz.call19 ⟨y19,trivial⟩
def x4:cg E:={S:=[P11,P12,P13,P14,P18,P19],ls:=[{ks:=[0,2,7,8,9],rs:=[2,6,7,8],ins:=some [⟨[.v (.slice (.arr 4 (.int .u8))),.v (.slice .i6),.ptr 0 [],.ptr 1 [],.iv],[.bx (.v (.named 10)),.bx (.v (.named 4))],fun l a i s c=>⟨(i,s,c),N.jF N.fuel l a,fun v_=>([.val (.slice (.arr 4 (.int .u8))) l,.val (.slice .i6) a,.ptr 0 [],.ptr 1 [],.iv v_.1],[.bx (.nv 10 v_.2.1),.bx (.nv 4 v_.2.2)]),fun x_=> .ret (.exit 0,[.val (.slice .i6) a,.undef,.ptr 0 [],.ptr 1 []],[.bx (.nv 10 x_.1),.bx (.nv 4 x_.2)])⟩⟩]},{ks:=[7,8,12,14,15],rs:=[6,7,8,12,14],ins:=some [⟨[.ptr 0 [],.ptr 1 [],.ptr 2 [],.iv,.iv],[.bx (.v (.named 10)),.bx (.v (.named 4)),.bx (.v (.named 10))],fun d i s c b=>⟨(d,i),N.oe s c b,fun v_=>([.ptr 0 [],.ptr 1 [],.ptr 2 [],.iv v_.1,.iv v_.2],[.bx (.nv 10 s),.bx (.nv 4 c),.bx (.nv 10 b)]),fun x_=> .ret (.exit 2,[.undef,.ptr 0 [],.ptr 1 [],.ptr 2 [],.iv x_],[.bx (.nv 10 s),.bx (.nv 4 c),.bx (.nv 10 b)])⟩⟩]},{ks:=[7,8,12,14,16,17],rs:=[6,7,14,16],ins:=some [⟨[.ptr 0 [],.ptr 1 [],.ptr 2 [],.iv,.iv,.iv],[.bx (.v (.named 10)),.bx (.v (.named 4)),.bx (.v (.named 10))],fun d e i s c b=>⟨(e,i),N.od d s c b,fun v_=>([.ptr 0 [],.ptr 1 [],.ptr 2 [],.iv d,.iv v_.1,.iv v_.2],[.bx (.nv 10 s),.bx (.nv 4 c),.bx (.nv 10 b)]),fun x_=> .ret (.exit 4,[.undef,.ptr 0 [],.iv d,.iv x_],[.bx (.nv 10 s),.bx (.nv 4 c),.bx (.nv 10 b)])⟩⟩]}],i:=cE [(.slice (.arr 4 (.int .u8))),(.int .u8),(.slice .i6)] [.bool] (N.lG N.fuel)}
theorem z4:tu Tryz.prog E 4 (x4.B Tryz.f4):=cg.Jd (x:=x4) sound mix Tryz.func4 rfl ⟨p11,p12,p13,p14,p18,p19,trivial⟩ trivial ⟨⟨fun _ _ _ _ _=>⟨rfl,fun _=>by show _=_;kernel_rfl⟩,trivial⟩,⟨⟨fun _ _ _ _ _=>⟨rfl,fun _=>by show _=_;kernel_rfl⟩,trivial⟩,⟨⟨fun _ _ _ _ _ _=>⟨rfl,fun _=>by show _=_;kernel_rfl⟩,trivial⟩,trivial⟩⟩⟩
theorem F4:HW (x4.B Tryz.f4) x4.i:=fun _ _ _=>by show _=_;kernel_rfl
theorem y4:aM Tryz.prog 4 x4.ins:=vw z4 F4
def P4:SP:=(4,.pure [(.slice (.arr 4 (.int .u8))),(.int .u8),(.slice .i6)] (bz [x4.ins]))
theorem p4:OK P4:=aJ Tryz.call4 ⟨y4,trivial⟩
end
end Go.Proofs.YtlejgahbbfeagaaGreatDoor.V

set_option linter.unusedSimpArgs false
namespace Go.Proofs.YtlejgahbbfeagaaGreatDoor.N
open Go
theorem bh {n:Int} (h1: -9223372036854775808≤n) (h2:n≤9223372036854775807):ay n=n:=by
 unfold ay;rw[IntKind.wrap_i64];omega
theorem aw {α β:Type} (a:α) (f:α→Option β):(some a).bind f=f a:=rfl
theorem Hu (x:UInt8):0≤i8 x:=Int.natCast_nonneg _
theorem Hv (x:UInt8):i8 x<256:=by have:=x.toNat_lt;unfold i8;omega
theorem QH {x y:UInt8} (h:i8 x=i8 y):x=y:=UInt8.toNat_inj.1 (by unfold i8 at h;omega)
theorem Kr {n:Int} (h:0≤n) (h2:n<256):i8 (b8 n)=n:=by
 unfold i8 b8
 rw[UInt8.toNat_ofNat_of_lt' (by show n.toNat<256;omega)]
 omega
theorem fO {i:Int} {n:Nat} (h:0≤i) (h2:i<n):cN i n=true:=by
 unfold cN;simp[h,h2]
theorem og {α:Type} {xs:List α} {i:Nat} {a:α} (h:xs[i]? =some a):i<xs.length:=(List.getElem?_eq_some_iff.1 h).1
def D2 {A S X:Type} (g:A→S→Option (S ⊕ X)) (fin:S→X):List A→S→Option X
 |[],s=>some (fin s)
 |a::r,s=>(g a s).bind fun o=>alt o (fun s'=>D2 g fin r s') (fun x=>some x)
theorem Ht {A S V X:Type} {step:V→Option (V ⊕ X)} {xs:List A} {mk:Nat→S→V} {g:A→S→Option (S ⊕ X)} {fin:S→X}
  (hc: ∀i s a,xs[i]? =some a→step (mk i s)=(g a s).map (Sum.map (mk (i+1)) id)) (he: ∀s,step (mk xs.length s)=some (.inr (fin s))):
  ∀(r:List A) (i:Nat) (s:S) (n:Nat),xs.drop i=r→i≤xs.length→r.length<n→iter step n (mk i s)=D2 g fin r s
 |_,_,_,0,_,_,h=>absurd h (Nat.not_lt_zero _)
 |[],i,s,n+1,hd,hi,_=>by
  have:xs.length≤i:=List.drop_eq_nil_iff.1 hd
  have:i=xs.length:=Nat.le_antisymm hi this
  subst this
  rw[bw,he]
  rfl
 |a::r,i,s,n+1,hd,hi,hn=>by
  have hlt:i<xs.length:=by
   rcases Nat.lt_or_ge i xs.length with h|h
   ·exact h
   ·rw[List.drop_eq_nil_iff.2 h]at hd;cases hd
  have ha:xs[i]? =some a:=by
   have:=List.getElem?_drop (xs:=xs) (i:=i) (j:=0)
   rw[hd]at this
   simpa using this.symm
  have hr:xs.drop (i+1)=r:=by
   have:=List.drop_drop (l:=xs) (i:=1) (j:=i)
   rw[hd]at this
   simpa using this.symm
  rw[bw,hc i s a ha,D2]
  cases hg:g a s with
  |none=>rfl
  |some o=>
   simp only[Option.map_some,Option.bind_some]
   cases o with
   |inl s'=>exact Ht hc he r (i+1) s' n hr hlt (by simp at hn;omega)
   |inr x=>rfl
theorem kB {A S V X:Type} {step:V→Option (V ⊕ X)} {xs:List A} (mk:Nat→S→V) (g:A→S→Option (S ⊕ X)) (fin:S→X)
  (hc: ∀i s a,xs[i]? =some a→step (mk i s)=(g a s).map (Sum.map (mk (i+1)) id)) (he: ∀s,step (mk xs.length s)=some (.inr (fin s))) (s:S) (hn:xs.length<fuel):
  iter step fuel (mk 0 s)=D2 g fin xs s:=Ht hc he xs 0 s fuel rfl (Nat.zero_le _) hn
theorem cm {n:Nat} (h:n<4294967296):n<fuel:=by rw[nH];exact h
theorem tL {A X:Type} (p:A→Bool) (x y:X): ∀l:List A,D2 (S:=Unit) (fun a _=>bif p a then some (.inl ())else some (.inr x)) (fun _=>y) l ()=some (bif l.all p then y else x)
 |[]=>rfl
 |a::r=>by
  rw[D2,List.all_cons]
  cases p a with
  |true=>exact tL p x y r
  |false=>rfl
end Go.Proofs.YtlejgahbbfeagaaGreatDoor.N

/- The seat's functions, and the nice ones (3). Loops and whole numbers of the nice functions. Plain words for this seat (1). Plain words for this seat (2). Plain words for this seat (3). Plain words for this seat (4). Plain words for this seat (5). Plain words for this seat (6). -/
import Derived.Test.YtlejgahbbfeagaaGreatDoorSeat5
import Derived.Test.YtlejgahbbfeagaaGreatDoorBase5
import Derived.Laws.BitsLemmas
import Derived.Test.YtlejgahbbfeagaaGreatDoorSeat2
set_option linter.unusedVariables false
set_option maxRecDepth 100000
namespace Go.Proofs.YtlejgahbbfeagaaGreatDoor.V
open Go Go.Proofs.YtlejgahbbfeagaaGreatDoor.D
noncomputable section
def Yl:cg E:={ls:=[{ks:=[0,1,5],rs:=[4],ins:=some [⟨[.v (.slice .str),.v (.slice .str),.iv],[],fun a b i=>⟨i,N.mz a b,fun v_=>([.val (.slice .str) a,.val (.slice .str) b,.iv v_],[]),fun x_=>ba x_ (fun c=> .ret (.ret,[.bv false],[])) (fun d=> .ret (.exit 0,[.undef],[]))⟩⟩]}],i:=cu [(.slice .str),(.slice .str)] [.bool] (N.oI N.fuel)}
theorem ade:aJ Tryz.prog 154 Yl.ins:=go Tryz.func154 rfl trivial trivial ⟨⟨fun _ _ _=>⟨rfl,fun _=>by show _=_;kernel_rfl⟩,trivial⟩,trivial⟩ (fun _ _=>by show _=_;kernel_rfl)
def aaK:SP:=(154,.pure [(.slice .str),(.slice .str)] (bj [Yl.ins]))
theorem af0:OK aaK:=aH Tryz.call154 ⟨ade,trivial⟩
def Yk:cg E:={ls:=[{ks:=[0,1,5],rs:=[4],ins:=some [⟨[.v (.slice (.named 0)),.v (.slice (.named 0)),.iv],[],fun a b i=>⟨i,N.nC a b,fun v_=>([.val (.slice (.named 0)) a,.val (.slice (.named 0)) b,.iv v_],[]),fun x_=>ba x_ (fun c=> .ret (.ret,[.bv false],[])) (fun d=> .ret (.exit 0,[.undef],[]))⟩⟩]}],i:=cu [(.slice (.named 0)),(.slice (.named 0))] [.bool] (N.qb N.fuel)}
theorem adb:aJ Tryz.prog 155 Yk.ins:=go Tryz.func155 rfl trivial trivial ⟨⟨fun _ _ _=>⟨rfl,fun _=>by show _=_;kernel_rfl⟩,trivial⟩,trivial⟩ (fun _ _=>by show _=_;kernel_rfl)
def aaJ:SP:=(155,.pure [(.slice (.named 0)),(.slice (.named 0))] (bj [Yk.ins]))
theorem aeZ:OK aaJ:=aH Tryz.call155 ⟨adb,trivial⟩
def x66:cg E:={S:=[aaK,aaJ],i:=cu [(.named 1),(.named 1)] [.bool] (N.xE N.fuel)}
theorem y66:aJ Tryz.prog 66 x66.ins:=go Tryz.func66 rfl ⟨af0,aeZ,trivial⟩ trivial trivial (fun _ _=>by show _=_;kernel_rfl)
def P66:SP:=(66,.pure [(.named 1),(.named 1)] (bj [x66.ins]))
theorem p66:OK P66:=aH Tryz.call66 ⟨y66,trivial⟩
def x62:cg E:={ls:=[{ks:=[0,1,5],rs:=[4],ins:=some [⟨[.v (.slice (.named 3)),.v (.slice (.named 3)),.iv],[],fun a b i=>⟨i,N.my a b,fun v_=>([.val (.slice (.named 3)) a,.val (.slice (.named 3)) b,.iv v_],[]),fun x_=>ba x_ (fun c=> .ret (.ret,[.bv false],[])) (fun d=> .ret (.exit 0,[.undef],[]))⟩⟩]}],i:=cu [(.slice (.named 3)),(.slice (.named 3))] [.bool] (N.oH N.fuel)}
theorem y62:aJ Tryz.prog 62 x62.ins:=go Tryz.func62 rfl trivial trivial ⟨⟨fun _ _ _=>⟨rfl,fun _=>by show _=_;kernel_rfl⟩,trivial⟩,trivial⟩ (fun _ _=>by show _=_;kernel_rfl)
def P62:SP:=(62,.pure [(.slice (.named 3)),(.slice (.named 3))] (bj [x62.ins]))
theorem p62:OK P62:=aH Tryz.call62 ⟨y62,trivial⟩
def x24:cg E:={S:=[P62],ls:=[{ks:=[2,3,5],rs:=[4],ins:=some [⟨[.ptr 0 [],.ptr 1 [],.iv],[.bx (.v (.named 4)),.bx (.v (.named 4))],fun i a b=>⟨i,N.mw a b,fun v_=>([.ptr 0 [],.ptr 1 [],.iv v_],[.bx (.nv 4 a),.bx (.nv 4 b)]),fun x_=>ba x_ (fun c=> .ret (.ret,[.bv false],[.bx (.nv 4 a),.bx (.nv 4 b)])) (fun d=> .ret (.exit 0,[.undef],[.bx (.nv 4 a),.bx (.nv 4 b)]))⟩⟩]}],i:=cu [(.named 4),(.named 4)] [.bool] (N.oG N.fuel)}
theorem y24:aJ Tryz.prog 24 x24.ins:=go Tryz.func24 rfl ⟨p62,trivial⟩ trivial ⟨⟨fun _ _ _=>⟨rfl,fun _=>by show _=_;kernel_rfl⟩,trivial⟩,trivial⟩ (fun _ _=>by show _=_;kernel_rfl)
def P24:SP:=(24,.pure [(.named 4),(.named 4)] (bj [x24.ins]))
theorem p24:OK P24:=aH Tryz.call24 ⟨y24,trivial⟩
def x26:cg E:={S:=[P24,P66],i:=cu [(.named 5),(.named 5)] [.bool] (N.oF N.fuel)}
theorem y26:aJ Tryz.prog 26 x26.ins:=go Tryz.func26 rfl ⟨p24,p66,trivial⟩ trivial trivial (fun _ _=>by show _=_;kernel_rfl)
def P26:SP:=(26,.pure [(.named 5),(.named 5)] (bj [x26.ins]))
theorem p26:OK P26:=aH Tryz.call26 ⟨y26,trivial⟩
def x99:cg E:={ls:=[{ks:=[0,1,5],rs:=[4],ins:=some [⟨[.v (.slice (.named 6)),.v (.slice (.named 6)),.iv],[],fun a b i=>⟨i,N.gQ a b,fun v_=>([.val (.slice (.named 6)) a,.val (.slice (.named 6)) b,.iv v_],[]),fun x_=>ba x_ (fun c=> .ret (.ret,[.bv false],[])) (fun d=> .ret (.exit 0,[.undef],[]))⟩⟩]}],i:=cu [(.slice (.named 6)),(.slice (.named 6))] [.bool] (N.mB N.fuel)}
theorem y99:aJ Tryz.prog 99 x99.ins:=go Tryz.func99 rfl trivial trivial ⟨⟨fun _ _ _=>⟨rfl,fun _=>by show _=_;kernel_rfl⟩,trivial⟩,trivial⟩ (fun _ _=>by show _=_;kernel_rfl)
def P99:SP:=(99,.pure [(.slice (.named 6)),(.slice (.named 6))] (bj [x99.ins]))
theorem p99:OK P99:=aH Tryz.call99 ⟨y99,trivial⟩
def YN:cg E:={ls:=[{ks:=[0,1,5],rs:=[4],ins:=some [⟨[.v (.slice (.named 7)),.v (.slice (.named 7)),.iv],[],fun a b i=>⟨i,N.ix a b,fun v_=>([.val (.slice (.named 7)) a,.val (.slice (.named 7)) b,.iv v_],[]),fun x_=>ba x_ (fun c=> .ret (.ret,[.bv false],[])) (fun d=> .ret (.exit 0,[.undef],[]))⟩⟩]}],i:=cu [(.slice (.named 7)),(.slice (.named 7))] [.bool] (N.nD N.fuel)}
theorem adG:aJ Tryz.prog 100 YN.ins:=go Tryz.func100 rfl trivial trivial ⟨⟨fun _ _ _=>⟨rfl,fun _=>by show _=_;kernel_rfl⟩,trivial⟩,trivial⟩ (fun _ _=>by show _=_;kernel_rfl)
def ab4:SP:=(100,.pure [(.slice (.named 7)),(.slice (.named 7))] (bj [YN.ins]))
theorem afo:OK ab4:=aH Tryz.call100 ⟨adG,trivial⟩
def x38:cg E:={S:=[ab4,P99],i:=cu [(.named 8),(.named 8)] [.bool] (N.oL N.fuel)}
theorem y38:aJ Tryz.prog 38 x38.ins:=go Tryz.func38 rfl ⟨afo,p99,trivial⟩ trivial trivial (fun _ _=>by show _=_;kernel_rfl)
def P38:SP:=(38,.pure [(.named 8),(.named 8)] (bj [x38.ins]))
theorem p38:OK P38:=aH Tryz.call38 ⟨y38,trivial⟩
def x15:cg E:={S:=[P16,P26,P38],ls:=[{ks:=[2,3,5],rs:=[2,3,4],ins:=some [⟨[.ptr 0 [],.ptr 1 [],.iv],[.bx (.v (.named 10)),.bx (.v (.named 10))],fun i a b=>⟨i,N.gP a b,fun v_=>([.ptr 0 [],.ptr 1 [],.iv v_],[.bx (.nv 10 a),.bx (.nv 10 b)]),fun x_=>ba x_ (fun c=> .ret (.ret,[.ptr 0 [],.ptr 1 [],.bv false],[.bx (.nv 10 a),.bx (.nv 10 b)])) (fun d=> .ret (.exit 0,[.ptr 0 [],.ptr 1 [],.undef],[.bx (.nv 10 a),.bx (.nv 10 b)]))⟩⟩]}],i:=cu [(.named 10),(.named 10)] [.bool] (N.mA N.fuel)}
theorem y15:aJ Tryz.prog 15 x15.ins:=go Tryz.func15 rfl ⟨p16,p26,p38,trivial⟩ trivial ⟨⟨fun _ _ _=>⟨rfl,fun _=>by show _=_;kernel_rfl⟩,trivial⟩,trivial⟩ (fun _ _=>by show _=_;kernel_rfl)
def P15:SP:=(15,.pure [(.named 10),(.named 10)] (bj [x15.ins]))
theorem p15:OK P15:=aH Tryz.call15 ⟨y15,trivial⟩
def YM:cg E:={ls:=[{ks:=[0,1,6,7],rs:=[4,5,6],ins:=some [⟨[.v (.slice (.int .u8)),.iv,.iv,.iv],[],fun b n v i=>⟨(v,i),N.pf b n,fun v_=>([.val (.slice (.int .u8)) b,.iv n,.iv v_.1,.iv v_.2],[]),fun x_=> .ret (.exit 0,[.undef,.undef,.iv x_],[])⟩⟩]}],i:=cu [(.slice (.int .u8)),.i6] [.i6,.bool] (N.xG N.fuel)}
theorem adF:aJ Tryz.prog 101 YM.ins:=go Tryz.func101 rfl trivial trivial ⟨⟨fun _ _ _ _=>⟨rfl,fun _=>by show _=_;kernel_rfl⟩,trivial⟩,trivial⟩ (fun _ _=>by show _=_;kernel_rfl)
def ab3:SP:=(101,.pure [(.slice (.int .u8)),.i6] (bj [YM.ins]))
theorem afn:OK ab3:=aH Tryz.call101 ⟨adF,trivial⟩
def x39:cg E:={S:=[ab3],i:=⟨[.ptr 0 [],.iv],[.bx (.v (.named 14))],fun n r=> .opt (N.mC N.fuel n r) fun x_=> .ret (.ret [.iv x_.1],[.bx (.nv 14 x_.2)])⟩}
theorem y39:aJ Tryz.prog 39 x39.ins:=l4 Tryz.func39 rfl ⟨afn,trivial⟩ trivial trivial (fun _ _=>by show _=_;kernel_rfl)
def P39:SP:=(39,.full [.ptr,.data .i6] false (cC [x39.ins]))
theorem p39:OK P39:=bn ok Tryz.call39 ⟨y39,trivial⟩
def YL:cg E:={i:=cu [(.slice (.int .u8))] [.str,.i6,.bool] N.qc}
theorem adE:aJ Tryz.prog 102 YL.ins:=go Tryz.func102 rfl trivial trivial trivial (fun _=>by show _=_;kernel_rfl)
def ab2:SP:=(102,.pure [(.slice (.int .u8))] (bj [YL.ins]))
theorem afm:OK ab2:=aH Tryz.call102 ⟨adE,trivial⟩
def x40:cg E:={S:=[ab2],i:=⟨[.ptr 0 []],[.bx (.v (.named 14))],fun r=> .opt (N.lF r) fun x_=> .ret (.ret [.sv x_.1],[.bx (.nv 14 x_.2)])⟩}
theorem y40:aJ Tryz.prog 40 x40.ins:=l4 Tryz.func40 rfl ⟨afm,trivial⟩ trivial trivial (fun _=>by show _=_;kernel_rfl)
def P40:SP:=(40,.full [.ptr] false (cC [x40.ins]))
theorem p40:OK P40:=bn ok Tryz.call40 ⟨y40,trivial⟩
def x17:cg E:={S:=[P27,P39,P40,P41],ls:=[{ks:=[0,2,4,5,6],rs:=[0,2,3,4,5],xM:=[.xM (.obj 2) [7] (.named 11)],ins:=some [⟨[.v (.slice (.int .u8)),.ptr 0 [],.ptr 1 [],.ptr 2 [],.iv],[.bx (.agg 12 [.iv,.iv,.iv,.iv,.v .str,.iv,.iv,.bm]),.bx (.v (.named 14)),.bx (.agg 12 [.iv,.iv,.iv,.iv,.v .str,.iv,.iv,.own 3]),.al (.named 11)],fun b n a c d e f g h r j k l m o p q s=>⟨(n,(N.bf.mk a c d e f g h []),r,(N.bf.mk j k l m o p q s)),N.jT N.fuel b,fun v_=>([.val (.slice (.int .u8)) b,.ptr 0 [],.ptr 1 [],.ptr 2 [],.iv v_.1],[.bx (.agg 12 [.iv v_.2.1.Kind,.iv v_.2.1.bg,.iv v_.2.1.aP,.iv v_.2.1.Seq,.sv v_.2.1.Name,.iv v_.2.1.aV,.iv v_.2.1.Mode,.bm]),.bx (.nv 14 v_.2.2.1),.bx (g12 v_.2.2.2 3),.al (.named 11) v_.2.2.2.aN]),fun x_=> .ret (.exit 0,[.val (.slice (.int .u8)) b,.ptr 0 [],.undef,.ptr 1 [],.ptr 2 []],[.bx (.agg 12 [.iv x_.1.Kind,.iv x_.1.bg,.iv x_.1.aP,.iv x_.1.Seq,.sv x_.1.Name,.iv x_.1.aV,.iv x_.1.Mode,.bm]),.bx (.nv 14 x_.2.1),.bx (g12 x_.2.2 3),.al (.named 11) x_.2.2.aN])⟩⟩]}],i:=cu [(.slice (.int .u8))] [(.named 12),.bool] (N.qd N.fuel)}
theorem y17:aJ Tryz.prog 17 x17.ins:=go Tryz.func17 rfl ⟨p27,p39,p40,p41,trivial⟩ trivial ⟨⟨fun _ _ _ _ _ _ _ _ _ _ _ _ _ _ _ _ _ _=>⟨rfl,fun _=>by show _=_;kernel_rfl⟩,trivial⟩,trivial⟩ (fun _=>by show _=_;kernel_rfl)
def P17:SP:=(17,.pure [(.slice (.int .u8))] (bj [x17.ins]))
theorem p17:OK P17:=aH Tryz.call17 ⟨y17,trivial⟩
def x3:cg E:={S:=[P11,P12,P13,P14,P15,P16,P17],ls:=[{ks:=[0,1,5,6,7],rs:=[1,4,5,6],xM:=[.xM (.slot 6) [] (.slice (.int .u8))],ins:=some [⟨[.v (.slice (.arr 4 (.int .u8))),.v (.int .u8),.ptr 0 [],.own 1,.iv],[.bx (.v (.named 10)),.al (.slice (.int .u8))],fun l a i s b=>⟨(i,s,b),N.kz N.fuel l a,fun v_=>([.val (.slice (.arr 4 (.int .u8))) l,.val (.int .u8) a,.ptr 0 [],.own 1,.iv v_.1],[.bx (.nv 10 v_.2.1),.al (.slice (.int .u8)) v_.2.2]),fun x_=>ba x_ (fun c=> .ret (.ret,[.val (.int .u8) a,.bv false,.ptr 0 [],.own 1],[.bx (.nv 10 c.1),.al (.slice (.int .u8)) c.2.2.2,.bx (.nv 10 c.2.1),.bx (.nv 10 c.2.2.1)])) (fun d=> .ret (.exit 0,[.val (.int .u8) a,.undef,.ptr 0 [],.own 1],[.bx (.nv 10 d.1),.al (.slice (.int .u8)) d.2]))⟩⟩]}],i:=cu [(.slice (.arr 4 (.int .u8))),(.int .u8)] [.bool] (N.mF N.fuel)}
theorem z3:ub Tryz.prog E 3 (x3.B Tryz.f3):=cg.JS (x:=x3) sound mix Tryz.func3 rfl ⟨p11,p12,p13,p14,p15,p16,p17,trivial⟩ trivial ⟨⟨fun _ _ _ _ _=>⟨rfl,fun _=>by show _=_;kernel_rfl⟩,trivial⟩,trivial⟩
theorem F3:IB (x3.B Tryz.f3) x3.i:=fun _ _=>by show _=_;kernel_rfl
theorem y3:aJ Tryz.prog 3 x3.ins:=vV z3 F3
def P3:SP:=(3,.pure [(.slice (.arr 4 (.int .u8))),(.int .u8)] (bj [x3.ins]))
theorem p3:OK P3:=aH Tryz.call3 ⟨y3,trivial⟩
end
end Go.Proofs.YtlejgahbbfeagaaGreatDoor.V

set_option linter.unusedSimpArgs false
namespace Go.Proofs.YtlejgahbbfeagaaGreatDoor.N
open Go
theorem bq {n:Int} (h1: -9223372036854775808≤n) (h2:n≤9223372036854775807):ay n=n:=by
 unfold ay;rw[IntKind.wrap_i64];omega
theorem aw {α β:Type} (a:α) (f:α→Option β):(some a).bind f=f a:=rfl
theorem D7 (x:UInt8):0≤i8 x:=Int.natCast_nonneg _
theorem D8 (x:UInt8):i8 x<256:=by have:=x.toNat_lt;unfold i8;omega
theorem Vc {x y:UInt8} (h:i8 x=i8 y):x=y:=UInt8.toNat_inj.1 (by unfold i8 at h;omega)
theorem Rw {n:Int} (h:0≤n) (h2:n<256):i8 (b8 n)=n:=by
 unfold i8 b8
 rw[UInt8.toNat_ofNat_of_lt' (by show n.toNat<256;omega)]
 omega
theorem ig {i:Int} {n:Nat} (h:0≤i) (h2:i<n):cL i n=true:=by
 unfold cL;simp[h,h2]
theorem oa {α:Type} {xs:List α} {i:Nat} {a:α} (h:xs[i]? =some a):i<xs.length:=(List.getElem?_eq_some_iff.1 h).1
def Ez {A S X:Type} (g:A→S→Option (S ⊕ X)) (fin:S→X):List A→S→Option X
 |[],s=>some (fin s)
 |a::r,s=>(g a s).bind fun o=>alt o (fun s'=>Ez g fin r s') (fun x=>some x)
theorem Ic {A S V X:Type} {step:V→Option (V ⊕ X)} {xs:List A} {mk:Nat→S→V} {g:A→S→Option (S ⊕ X)} {fin:S→X}
  (hc: ∀i s a,xs[i]? =some a→step (mk i s)=(g a s).map (Sum.map (mk (i+1)) id)) (he: ∀s,step (mk xs.length s)=some (.inr (fin s))):
  ∀(r:List A) (i:Nat) (s:S) (n:Nat),xs.drop i=r→i≤xs.length→r.length<n→iter step n (mk i s)=Ez g fin r s
 |_,_,_,0,_,_,h=>absurd h (Nat.not_lt_zero _)
 |[],i,s,n+1,hd,hi,_=>by
  have:xs.length≤i:=List.drop_eq_nil_iff.1 hd
  have:i=xs.length:=Nat.le_antisymm hi this
  subst this
  rw[bw,he]
  rfl
 |a::r,i,s,n+1,hd,hi,hn=>by
  have hlt:i<xs.length:=by
   rcases Nat.lt_or_ge i xs.length with h|h
   ·exact h
   ·rw[List.drop_eq_nil_iff.2 h]at hd;cases hd
  have ha:xs[i]? =some a:=by
   have:=List.getElem?_drop (xs:=xs) (i:=i) (j:=0)
   rw[hd]at this
   simpa using this.symm
  have hr:xs.drop (i+1)=r:=by
   have:=List.drop_drop (l:=xs) (i:=1) (j:=i)
   rw[hd]at this
   simpa using this.symm
  rw[bw,hc i s a ha,Ez]
  cases hg:g a s with
  |none=>rfl
  |some o=>
   simp only[Option.map_some,Option.bind_some]
   cases o with
   |inl s'=>exact Ic hc he r (i+1) s' n hr hlt (by simp at hn;omega)
   |inr x=>rfl
theorem kC {A S V X:Type} {step:V→Option (V ⊕ X)} {xs:List A} (mk:Nat→S→V) (g:A→S→Option (S ⊕ X)) (fin:S→X)
  (hc: ∀i s a,xs[i]? =some a→step (mk i s)=(g a s).map (Sum.map (mk (i+1)) id)) (he: ∀s,step (mk xs.length s)=some (.inr (fin s))) (s:S) (hn:xs.length<fuel):
  iter step fuel (mk 0 s)=Ez g fin xs s:=Ic hc he xs 0 s fuel rfl (Nat.zero_le _) hn
theorem cr {n:Nat} (h:n<4294967296):n<fuel:=by rw[pn];exact h
theorem uw {A X:Type} (p:A→Bool) (x y:X): ∀l:List A,Ez (S:=Unit) (fun a _=>bif p a then some (.inl ())else some (.inr x)) (fun _=>y) l ()=some (bif l.all p then y else x)
 |[]=>rfl
 |a::r=>by
  rw[Ez,List.all_cons]
  cases p a with
  |true=>exact uw p x y r
  |false=>rfl
open Go
theorem da {i n:Nat} (h:i<n):decide ((i:Int)<(n:Int))=true:=decide_eq_true (by omega)
theorem db (n:Nat):decide ((n:Int)<(n:Int))=false:=decide_eq_false (by omega)
theorem bP {i n:Nat} (h:i<n):cL (i:Int) n=true:=ig (by omega) (by omega)
theorem bG {i:Nat} (h:i<4294967296):ay ((i:Int)+1)=((i+1:Nat):Int):=by rw[bq (by omega) (by omega)];omega
def SR (a:UInt8):Bool:= !(decide (i8 a<33))&& !(decide (i8 a>126))
def gk (s:List UInt8):Bool:=s.all SR&&(decide ((s.length:Int)≥1)&&decide ((s.length:Int)≤8))
theorem wx (s:List UInt8) (h:s.length<4294967296):zk fuel s=some (gk s):=by
 have hl:A6 fuel s (s.length:Int) s 0=some (bif s.all SR then .inr ()else .inl ()):=by
  unfold A6
  rw[←uw SR (Sum.inl ()) (Sum.inr ()) s]
  refine kC (xs:=s) (fun i (_:Unit)=>(i:Int)) _ _ (fun i _ a ha=> ?_) (fun _=> ?_) () (cr h)
  ·have hi:=oa ha
   simp only[A5,s7,get_ite,aE,aD,aC,aF,aL,aK,da hi,bP hi,Int.toNat_natCast,ha,cond_true,aw,bG (Nat.lt_trans hi h),SR]
   cases decide (i8 a<33)<;>cases decide (i8 a>126)<;>rfl
  ·simp only[A5,s7,get_ite,aE,aD,aC,aF,aL,aK,db,cond_false]
 unfold zk Du
 try simp only[get_ite,aE,aD,aC,aF,aL,aK]
 rw[hl,aw]
 unfold gk
 cases s.all SR<;>cases decide ((s.length:Int)≥1)<;>rfl
theorem EB (s:List UInt8) (h:s.length<4294967296):vm fuel s=some (gk s):=by
 have hl:qa fuel s 0=some (bif s.all SR then .inr ()else .inl ()):=by
  unfold qa
  rw[←uw SR (Sum.inl ()) (Sum.inr ()) s]
  refine kC (xs:=s) (fun i (_:Unit)=>(i:Int)) _ _ (fun i _ a ha=> ?_) (fun _=> ?_) () (cr h)
  ·have hi:=oa ha
   simp only[pZ,kP,get_ite,aE,aD,aC,aF,aL,aK,da hi,bP hi,Int.toNat_natCast,ha,cond_true,aw,bG (Nat.lt_trans hi h),SR]
   cases decide (i8 a<33)<;>cases decide (i8 a>126)<;>rfl
  ·simp only[pZ,kP,get_ite,aE,aD,aC,aF,aL,aK,db,cond_false]
 unfold vm rD
 try simp only[get_ite,aE,aD,aC,aF,aL,aK]
 rw[hl,aw]
 unfold gk
 cases s.all SR<;>cases decide ((s.length:Int)≥1)<;>rfl
theorem CV (w:aX):tu w=bU w:=by
 unfold tu pY bU v7
 try simp only[get_ite,aE,aD,aC,aF,aL,aK]
 by_cases h1:w.og≥0<;>by_cases h2:w.og<24<;>by_cases h3:(w.B.length:Int)≥1<;>by_cases h4:(w.B.length:Int)≤24<;>
  simp only[h1,h2,h3,h4,decide_true,decide_false,cond_true,cond_false,id]
 ·rw[bq (by omega) (by omega),bq (by omega) (by omega)]
  exact decide_eq_decide.2 (by omega)
 ·rw[bq (by omega) (by omega)]
  exact decide_eq_false (by omega)
 ·rw[bq (by omega) (by omega)]
  exact(decide_eq_false (by omega)).symm
 all_goals try rfl
theorem LQ (ws:List aX) (h:ws.length<4294967296):df fuel ws=some (!(ws.all bU)):=by
 have key: ∀(r:List aX) (i:Nat) (n:Nat),ws.drop i=r→i≤ws.length→r.length<n→ ∃j:Int,0≤j∧iter (dQ ws (ws.length:Int)) n (i:Int)=some (bif r.all bU then .inr ()else .inl j):=by
  intro r
  induction r with
  |nil=>
   intro i n hd hi hn
   have:i=ws.length:=Nat.le_antisymm hi (List.drop_eq_nil_iff.1 hd)
   subst this
   refine⟨0,Int.le_refl _,?_⟩
   cases n with
   |zero=>exact absurd hn (Nat.not_lt_zero _)
   |succ n=>
    rw[bw]
    simp only[dQ,eK,get_ite,aE,aD,aC,aF,aL,aK,db,cond_false]
    rfl
  |cons a r ih=>
   intro i n hd hi hn
   have hlt:i<ws.length:=by
    rcases Nat.lt_or_ge i ws.length with h|h
    ·exact h
    ·rw[List.drop_eq_nil_iff.2 h]at hd;cases hd
   have ha:ws[i]? =some a:=by
    have:=List.getElem?_drop (xs:=ws) (i:=i) (j:=0)
    rw[hd]at this
    simpa using this.symm
   have hr:ws.drop (i+1)=r:=by
    have:=List.drop_drop (l:=ws) (i:=1) (j:=i)
    rw[hd]at this
    simpa using this.symm
   cases n with
   |zero=>exact absurd hn (Nat.not_lt_zero _)
   |succ n=>
    rw[bw,List.all_cons]
    simp only[dQ,eK,get_ite,aE,aD,aC,aF,aL,aK,da hlt,bP hlt,Int.toNat_natCast,ha,cond_true,aw,bG (Nat.lt_trans hlt h),vv,id]
    cases bU a with
    |true=>
     obtain⟨j,h1,h2⟩:=ih (i+1) n hr hlt (by simp at hn;omega)
     exact⟨j,h1,h2⟩
    |false=>exact⟨(i:Int),by omega,rfl⟩
 obtain⟨j,h1,h2⟩:=key ws 0 fuel rfl (Nat.zero_le _) (cr h)
 unfold df fJ ni gW lj
 try simp only[get_ite,aE,aD,aC,aF,aL,aK]
 have h2':iter (dQ ws (ws.length:Int)) fuel 0=some (bif ws.all bU then .inr ()else .inl j):=h2
 rw[h2']
 cases ws.all bU with
 |true=>rfl
 |false=>
  show some (decide (j≥0))=some true
  rw[decide_eq_true h1]
theorem OR (x y:aX):aX.ee x y=true↔x=y:=by
 cases x;cases y
 simp[aX.ee]
def uo:List aX→List aX→Bool
 |[],[]=>true
 |x::a,y::b=>aX.ee x y&&uo a b
 |_,_=>false
theorem CS: ∀a b:List aX,uo a b=true↔a=b
 |[],[]=>by simp[uo]
 |[],_::_=>by simp[uo]
 |_::_,[]=>by simp[uo]
 |x::a,y::b=>by simp[uo,OR,CS a b]
theorem CR: ∀a b:List aX,a.length=b.length→uo a b=(a.zip b).all fun p=>aX.ee p.1 p.2
 |[],[],_=>rfl
 |[],_::_,h=>by simp at h
 |_::_,[],h=>by simp at h
 |x::a,y::b,h=>by
  simp only[uo,List.zip_cons_cons,List.all_cons]
  rw[CR a b (by simpa using h)]
theorem HH {a b:List aX} (h:a.length≠b.length):uo a b=false:=by
 cases hs:uo a b with
 |false=>rfl
 |true=>exact absurd (by rw[(CS a b).1 hs]) h
theorem Mo {α β:Type} {a:List α} {b:List β} {i:Nat} {p:α×β} (h:(a.zip b)[i]? =some p):a[i]? =some p.1∧b[i]? =some p.2:=by
 rw[List.getElem?_zip_eq_some]at h
 exact h
theorem PK (a b:List aX) (h:a.length<4294967296):ml fuel a b=some (uo a b):=by
 unfold ml kh
 try simp only[get_ite,aE,aD,aC,aF,aL,aK]
 by_cases hl:a.length=b.length
 ·have hz:(a.zip b).length=a.length:=by rw[List.length_zip];omega
  have hl0:jz fuel a b (a.length:Int) 0=some (bif (a.zip b).all (fun p=>aX.ee p.1 p.2)then .inr ()else .inl ()):=by
   unfold jz
   rw[←uw (fun p:aX×aX=>aX.ee p.1 p.2) (Sum.inl ()) (Sum.inr ()) (a.zip b)]
   refine kC (xs:=a.zip b) (fun i (_:Unit)=>(i:Int)) _ _ (fun i _ p hp=> ?_) (fun _=> ?_) () (cr (by omega))
   ·have hi:=oa hp
    obtain⟨h1,h2⟩:=Mo hp
    rw[hz]at hi
    simp only[jy,fH,get_ite,aE,aD,aC,aF,aL,aK,da hi,bP hi,bP (oa h2),Int.toNat_natCast,h1,h2,cond_true,aw,bG (Nat.lt_trans hi h)]
    cases aX.ee p.1 p.2<;>rfl
   ·simp only[jy,fH,get_ite,aE,aD,aC,aF,aL,aK,hz,db,cond_false]
  have:((a.length:Int) != (b.length:Int))=false:=by simp[hl]
  rw[this,hl0,CR a b hl]
  cases (a.zip b).all (fun p=>aX.ee p.1 p.2)<;>rfl
 ·have:((a.length:Int) != (b.length:Int))=true:=by simp;omega
  rw[this,HH hl]
  rfl
theorem Am (a b:List aX) (h:a.length<4294967296):pX fuel a b=some (uo a b):=by
 unfold pX nw
 try simp only[get_ite,aE,aD,aC,aF,aL,aK]
 by_cases hl:a.length=b.length
 ·have hz:(a.zip b).length=a.length:=by rw[List.length_zip];omega
  have hl0:mu fuel a b 0=some (bif (a.zip b).all (fun p=>aX.ee p.1 p.2)then .inr ()else .inl ()):=by
   unfold mu
   rw[←uw (fun p:aX×aX=>aX.ee p.1 p.2) (Sum.inl ()) (Sum.inr ()) (a.zip b)]
   refine kC (xs:=a.zip b) (fun i (_:Unit)=>(i:Int)) _ _ (fun i _ p hp=> ?_) (fun _=> ?_) () (cr (by omega))
   ·have hi:=oa hp
    obtain⟨h1,h2⟩:=Mo hp
    rw[hz]at hi
    simp only[mr,iw,get_ite,aE,aD,aC,aF,aL,aK,da hi,bP hi,bP (oa h2),Int.toNat_natCast,h1,h2,cond_true,aw,bG (Nat.lt_trans hi h)]
    cases aX.ee p.1 p.2<;>rfl
   ·simp only[mr,iw,get_ite,aE,aD,aC,aF,aL,aK,hz,db,cond_false]
  have:((a.length:Int) != (b.length:Int))=false:=by simp[hl]
  rw[this,hl0,CR a b hl]
  cases (a.zip b).all (fun p=>aX.ee p.1 p.2)<;>rfl
 ·have:((a.length:Int) != (b.length:Int))=true:=by simp;omega
  rw[this,HH hl]
  rfl
def eP (a b:bf):Bool:=a.Kind==b.Kind&&(a.bg==b.bg&&(a.aP==b.aP&&(a.Seq==b.Seq&&(a.Name==b.Name&&(a.aV==b.aV&&(a.Mode==b.Mode&&uo a.aN b.aN))))))
theorem pB (a b:bf):eP a b=true↔a=b:=by
 cases a;cases b
 simp[eP,CS]
theorem eN (a:bf):eP a a=true:=(pB a a).2 rfl
theorem GU (a b:Bool):(a&&b)=bif a then b else false:=by cases a<;>rfl
theorem FM (a b:bf) (h:a.aN.length<4294967296):xU fuel a b=some (eP a b):=by
 unfold xU tC eP
 try simp only[get_ite,aE,aD,aC,aF,aL,aK]
 rw[PK _ _ h]
 simp only[GU,aw]
 cases a.Kind==b.Kind<;>cases a.bg==b.bg<;>cases a.aP==b.aP<;>cases a.Seq==b.Seq<;>cases a.Name==b.Name<;>cases a.aV==b.aV<;>cases a.Mode==b.Mode<;>rfl
theorem uA (a b:bf) (h:a.aN.length<4294967296):cx fuel a b=some (eP a b):=by
 unfold cx qf eP
 try simp only[get_ite,aE,aD,aC,aF,aL,aK]
 rw[Am _ _ h]
 simp only[GU,aw]
 cases a.Kind==b.Kind<;>cases a.bg==b.bg<;>cases a.aP==b.aP<;>cases a.Seq==b.Seq<;>cases a.Name==b.Name<;>cases a.aV==b.aV<;>cases a.Mode==b.Mode<;>rfl
open Go
def pc (lo hi v:Int):Bool:=decide (lo≤v)&&decide (v≤hi)
theorem cJ {lo hi v:Int}:pc lo hi v=true↔lo≤v∧v≤hi:=by simp[pc]
theorem DZ (lo hi v:Int):ga lo hi v=pc lo hi v:=by
 unfold ga Ay pc
 try simp only[get_ite,aE,aD,aC,aF,aL,aK]
 cases decide (lo≤v)<;>rfl
theorem I3 (n least:Int):zb n least=pc least 1073741824 n:=by
 unfold zb xK pc
 try simp only[get_ite,aE,aD,aC,aF,aL,aK]
 simp only[ge_iff_le]
 cases decide (least≤n)<;>rfl
def Kd (a:bf):Bool:=a.Kind==3||a.Kind==4
def want (a:bf):bf:=
 bif a.Kind==1 then⟨a.Kind,a.bg,a.aP,a.Seq,a.Name,0,0,[]⟩else
 bif a.Kind==2 then⟨a.Kind,a.bg,a.aP,a.Seq,[],a.aV,a.Mode,[]⟩else
 bif Kd a then⟨a.Kind,a.bg,a.aP,a.Seq,[],a.aV,0,a.aN⟩else⟨a.Kind,a.bg,a.aP,a.Seq,[],a.aV,0,[]⟩
def w7 (a:bf):Bool:=
 bif a.Kind==1 then gk a.Name else
 bif a.Kind==2 then pc 1 6 a.aV&&pc 1 2 a.Mode else
 bif Kd a then decide ((a.aN.length:Int)≤5)&&((decide ((a.aN.length:Int)>0)||a.Kind==4)&&(pc 1 6 a.aV&&a.aN.all bU))else pc 1 6 a.aV
def cH (a:bf):Bool:=pc 1 5 a.Kind&&(pc 1 3 a.bg&&(pc 0 1073741824 a.aP&&(pc 1 1073741824 a.Seq&&(w7 a&&eP a (want a)))))
theorem Jg (a:bf) (hn:a.Name.length<4294967296) (hw:a.aN.length<4294967296):C4 fuel a=some (want a,w7 a):=by
 unfold C4 xS want w7 Kd
 try simp only[get_ite,aE,aD,aC,aF,aL,aK]
 rw[wx _ hn,LQ _ hw]
 simp only[DZ,aw,Bool.not_not]
 cases h1:a.Kind==1<;>cases h2:a.Kind==2<;>cases h3:a.Kind==3<;>cases h4:a.Kind==4<;>cases pc 1 6 a.aV<;>cases decide ((a.aN.length:Int)≤5)<;>cases decide ((a.aN.length:Int)>0)<;>rfl
theorem Hg (a:bf) (hn:a.Name.length<4294967296) (hw:a.aN.length<4294967296):AA fuel a=some (cH a):=by
 unfold AA vA cH
 try simp only[get_ite,aE,aD,aC,aF,aL,aK]
 rw[Jg a hn hw]
 simp only[DZ,aw]
 rw[FM _ _ hw]
 simp only[GU]
 cases pc 1 5 a.Kind<;>cases pc 1 3 a.bg<;>cases pc 0 1073741824 a.aP<;>cases pc 1 1073741824 a.Seq<;>cases w7 a<;>rfl
theorem BP (a b:bf):eP a b=eP b a:=by
 cases h:eP b a with
 |true=>exact(pB _ _).2 ((pB _ _).1 h).symm
 |false=>
  cases h2:eP a b with
  |false=>rfl
  |true=>rw[((pB _ _).1 h2).symm,eN]at h;cases h
theorem Ha (a x:bf) (ok:Bool) (h:a.aN.length<4294967296):cR fuel a x ok 0=some (ok&&a.aN.all bU):=by
 have hr: ∀(l:List aX) (ok:Bool),Ez (S:=Bool) (X:=Bool) (fun w ok=>some (.inl (bif ok then bU w else false))) (fun ok=>ok) l ok=some (ok&&l.all bU):=by
  intro l
  induction l with
  |nil=>intro ok;cases ok<;>rfl
  |cons w r ih=>
   intro ok
   rw[Ez,List.all_cons]
   simp only[aw,bB]
   rw[ih]
   cases ok<;>rfl
 unfold cR
 rw[←hr]
 refine kC (xs:=a.aN) (fun i (ok:Bool)=>(ok,(i:Int))) _ _ (fun i ok w hw=> ?_) (fun ok=> ?_) ok (cr h)
 ·have hi:=oa hw
  simp only[qg,kS,get_ite,aE,aD,aC,aF,aL,aK,da hi,bP hi,Int.toNat_natCast,hw,cond_true,aw,bG (Nat.lt_trans hi h),CV]
  cases ok<;>rfl
 ·simp only[qg,kS,get_ite,aE,aD,aC,aF,aL,aK,db,cond_false]
theorem wQ (a:bf) (hn:a.Name.length<4294967296) (hw:a.aN.length<4294967296):qI fuel a=some (cH a):=by
 have s1: ∀(k f e s:Int) (nm:List UInt8) (fl m:Int) (b:bf),cx fuel (bf.mk k f e s nm fl m []) b=some (eP b (bf.mk k f e s nm fl m [])):=fun k f e s nm fl m b=>by rw[uA _ _ (by simp),BP]
 have s2: ∀(k f e s:Int) (nm:List UInt8) (fl m:Int) (b:bf),cx fuel (bf.mk k f e s nm fl m a.aN) b=some (eP b (bf.mk k f e s nm fl m a.aN)):=fun k f e s nm fl m b=>by rw[uA (bf.mk k f e s nm fl m a.aN) b hw,BP]
 unfold qI rK
 try simp only[get_ite,aE,aD,aC,aF,aL,aK]
 rw[EB _ hn]
 simp only[s1,s2,Ha _ _ _ hw,I3,aw]
 unfold cH want w7 Kd
 by_cases k0:1≤a.Kind∧a.Kind≤5
 ·obtain⟨k1,k2⟩:=k0
  rw[decide_eq_false (show ¬a.Kind<1 by omega),decide_eq_false (show ¬a.Kind>5 by omega),cJ.2 ⟨k1,k2⟩]
  by_cases f0:1≤a.bg∧a.bg≤3
  ·obtain⟨f1,f2⟩:=f0
   rw[decide_eq_false (show ¬a.bg<1 by omega),decide_eq_false (show ¬a.bg>3 by omega),cJ.2 ⟨f1,f2⟩]
   cases pc 0 1073741824 a.aP<;>cases pc 1 1073741824 a.Seq<;>simp only[Bool.true_and,Bool.false_and,Bool.not_true,Bool.not_false,cond_true,cond_false]
   have hm:pc 1 2 a.Mode=(a.Mode==1||a.Mode==2):=by
    rw[Bool.eq_iff_iff,cJ]
    simp
    omega
   have hf:pc 1 6 a.aV=(decide (a.aV≥1)&&decide (a.aV≤6)):=rfl
   rw[hm,hf]
   have hk:a.Kind=1∨a.Kind=2∨a.Kind=3∨a.Kind=4∨a.Kind=5:=by omega
   rcases hk with hk|hk|hk|hk|hk<;>rw[hk]<;>simp only[Int.reduceBEq,cond_true,cond_false,Bool.or_true,Bool.or_false,Bool.true_or,Bool.false_or,Bool.and_true,Bool.true_and,Bool.and_false,Bool.false_and]
   ·cases gk a.Name<;>rfl
   ·cases decide (a.aV≥1)<;>cases decide (a.aV≤6)<;>cases a.Mode==1<;>cases a.Mode==2<;>rfl
   ·cases decide (a.aV≥1)<;>cases decide (a.aV≤6)<;>cases decide ((a.aN.length:Int)≤5)<;>cases decide ((a.aN.length:Int)>0)<;>cases a.aN.all bU<;>rfl
   ·cases decide (a.aV≥1)<;>cases decide (a.aV≤6)<;>cases decide ((a.aN.length:Int)≤5)<;>cases decide ((a.aN.length:Int)>0)<;>cases a.aN.all bU<;>rfl
   ·cases decide (a.aV≥1)<;>cases decide (a.aV≤6)<;>rfl
  ·have hf:pc 1 3 a.bg=false:=by
    cases h:pc 1 3 a.bg with
    |false=>rfl
    |true=>exact absurd (cJ.1 h) f0
   rw[hf]
   by_cases f1:a.bg<1
   ·rw[decide_eq_true f1];rfl
   ·rw[decide_eq_false f1,decide_eq_true (show a.bg>3 by omega)];rfl
 ·have hk:pc 1 5 a.Kind=false:=by
   cases h:pc 1 5 a.Kind with
   |false=>rfl
   |true=>exact absurd (cJ.1 h) k0
  rw[hk]
  by_cases k1:a.Kind<1
  ·rw[decide_eq_true k1];rfl
  ·rw[decide_eq_false k1,decide_eq_true (show a.Kind>5 by omega)];rfl
theorem QA (x y:bQ):bQ.ee x y=true↔x=y:=by
 cases x;cases y
 simp[bQ.ee]
open Go
def sr (v:Int) (k:Nat):UInt8:=b8 (qE (rv .i64 v (ay (8*(k:Int)))))
def be:Nat→Int→List UInt8
 |0,_=>[]
 |k+1,v=>sr v k::be k v
theorem dO: ∀(k:Nat) (v:Int),(be k v).length=k
 |0,_=>rfl
 |k+1,v=>by rw[be,List.length_cons,dO k v]
theorem KB (v:Int): ∀(i:Nat) (b:List UInt8) (n:Nat),i<n→i≤8→b.length+i≤dy→iter (tc v) n ((i:Int)-1,b)=some (b++be i v)
 |_,_,0,h,_,_=>absurd h (Nat.not_lt_zero _)
 |0,b,n+1,_,_,_=>by
  rw[bw]
  simp only[tc,n9,get_ite,aE,aD,aC,aF,aL,aK]
  rw[decide_eq_false (by omega)]
  show some b=some (b++[])
  rw[List.append_nil]
 |i+1,b,n+1,h,h8,hl=>by
  rw[bw]
  simp only[tc,n9,get_ite,aE,aD,aC,aF,aL,aK]
  have e:((i+1:Nat):Int)-1=(i:Int):=by omega
  rw[e,decide_eq_true (show(i:Int)≥0 by omega),bq (show-9223372036854775808≤8*(i:Int)by omega) (by omega),decide_eq_false (show ¬8*(i:Int)<0 by omega),decide_eq_true (show b.length+1≤dy by omega)]
  simp only[cond_true,cond_false,aw,bB]
  rw[bq (by omega) (by omega),KB v i _ n (by omega) (by omega) (by rw[List.length_append];simp only[List.length_cons,List.length_nil];omega),List.append_assoc]
  rw[show be (i+1) v=sr v i::be i v from rfl]
  unfold sr
  rw[bq (show-9223372036854775808≤8*(i:Int)by omega) (by omega)]
  rfl
theorem td (b:List UInt8) (v:Int) (k:Nat) (h1:1≤k) (h8:k≤8) (hb:b.length+k≤dy):dp fuel b v (k:Int)=some (b++be k v):=by
 unfold dp ss El
 try simp only[get_ite,aE,aD,aC,aF,aL,aK]
 rw[decide_eq_false (show ¬(k:Int)<1 by omega),decide_eq_false (show ¬(k:Int)>8 by omega),bq (by omega) (by omega)]
 simp only[cond_false]
 rw[KB v k b fuel (cr (by omega)) h8 hb]
 rfl
theorem xH (b:List UInt8) (v:Int) (k:Nat) (h1:1≤k) (h8:k≤8) (hb:b.length+k≤dy):gO fuel b v (k:Int)=some (b++be k v):=by
 rw[←td b v k h1 h8 hb]
 unfold gO An dp ss
 try simp only[get_ite,aE,aD,aC,aF,aL,aK]
 rw[decide_eq_true (show b.length≤dy by omega)]
 rfl
theorem KE (b:List UInt8) (v:Int) (h:b.length+1≤dy):dp fuel b v 1=some (b++be 1 v):=td b v 1 (by omega) (by omega) h
theorem adL (b:List UInt8) (v:Int) (h:b.length+2≤dy):dp fuel b v 2=some (b++be 2 v):=td b v 2 (by omega) (by omega) h
theorem Pg (b:List UInt8) (v:Int) (h:b.length+4≤dy):dp fuel b v 4=some (b++be 4 v):=td b v 4 (by omega) (by omega) h
theorem HM (b:List UInt8) (v:Int) (h:b.length+1≤dy):gO fuel b v 1=some (b++be 1 v):=xH b v 1 (by omega) (by omega) h
theorem YS (b:List UInt8) (v:Int) (h:b.length+2≤dy):gO fuel b v 2=some (b++be 2 v):=xH b v 2 (by omega) (by omega) h
theorem Un (b:List UInt8) (v:Int) (h:b.length+4≤dy):gO fuel b v 4=some (b++be 4 v):=xH b v 4 (by omega) (by omega) h
def Qy (s:List UInt8):List UInt8:=b8 (s.length:Int) ::s
theorem jK (s:List UInt8):(Qy s).length=s.length+1:=rfl
theorem IF {n:Int} (h:0≤n) (h2:n<256):qE n=n:=by unfold qE;rw[IntKind.wrap_u8];omega
theorem wJ (b s:List UInt8) (hs:s.length≤255) (hb:b.length+256≤dy):uM b s=some (b++Qy s):=by
 unfold uM ta
 try simp only[get_ite,aE,aD,aC,aF,aL,aK]
 rw[decide_eq_false (show ¬(s.length:Int)>255 by omega),decide_eq_true (show b.length+1≤dy by omega),IF (by omega) (by omega),decide_eq_true (by rw[List.length_append];simp only[List.length_cons,List.length_nil];omega)]
 simp only[cond_true,cond_false,List.append_assoc]
 rfl
theorem BR (b s:List UInt8) (hs:s.length≤255) (hb:b.length+256≤dy):za b s=some (b++Qy s):=by
 unfold za xF
 try simp only[get_ite,aE,aD,aC,aF,aL,aK]
 rw[decide_eq_true (show b.length≤dy by omega),decide_eq_false (show ¬(s.length:Int)>255 by omega),decide_eq_true (show b.length+1≤dy by omega),IF (by omega) (by omega),decide_eq_true (by rw[List.length_append];simp only[List.length_cons,List.length_nil];omega)]
 simp only[cond_true,cond_false,List.append_assoc]
 rfl
def tn (m:Nat):Nat:=if m%2=1 then(m/2)^^^40961 else m/2
theorem lg {m:Nat} (h:m<65536):tn m<65536:=by
 unfold tn
 split
 ·exact Nat.xor_lt_two_pow (n:=16) (by omega) (by omega)
 ·omega
theorem wrap_u16 (n:Int):IntKind.u16.wrap n=n%65536:=by simp[IntKind.wrap,IntKind.bits,IntKind.signed]
theorem LZ {x y:Nat} (hx:x<65536) (hy:y<65536):Hp .u16 (x:Int) (y:Int)=((x^^^y:Nat):Int):=by
 unfold Hp
 have h16:IntKind.u16.bits=16:=rfl
 rw[h16,BitVec.ofInt_natCast,BitVec.ofInt_natCast,BitVec.toNat_xor,BitVec.toNat_ofNat,BitVec.toNat_ofNat,Nat.mod_eq_of_lt (show x<2^16 by omega),Nat.mod_eq_of_lt (show y<2^16 by omega),wrap_u16]
 have:=Nat.xor_lt_two_pow (n:=16) (show x<2^16 by omega) (show y<2^16 by omega)
 omega
theorem L4 {x y:Nat} (hx:x<65536) (hy:y<65536):Hp .i64 (x:Int) (y:Int)=((x^^^y:Nat):Int):=by
 unfold Hp
 have h64:IntKind.i64.bits=64:=rfl
 rw[h64,BitVec.ofInt_natCast,BitVec.ofInt_natCast,BitVec.toNat_xor,BitVec.toNat_ofNat,BitVec.toNat_ofNat,Nat.mod_eq_of_lt (show x<2^64 by omega),Nat.mod_eq_of_lt (show y<2^64 by omega)]
 have:=Nat.xor_lt_two_pow (n:=16) (show x<2^16 by omega) (show y<2^16 by omega)
 exact bq (by omega) (by omega)
theorem R6 {x:Nat} (hx:x<65536):GM .u16 (x:Int) 1=((x%2:Nat):Int):=by
 unfold GM
 have h16:IntKind.u16.bits=16:=rfl
 rw[h16,show(1:Int)=((1:Nat):Int)from rfl,BitVec.ofInt_natCast,BitVec.ofInt_natCast,BitVec.toNat_and,BitVec.toNat_ofNat,BitVec.toNat_ofNat,Nat.mod_eq_of_lt (show x<2^16 by omega),Nat.mod_eq_of_lt (show 1<2^16 by omega),wrap_u16,Nat.and_one_is_mod]
 omega
theorem SB (x:Nat):rv .u16 (x:Int) 1=((x/2:Nat):Int):=by
 unfold rv
 have:min (1:Int).toNat IntKind.u16.bits=1:=rfl
 rw[this]
 show(x:Int).fdiv 2=_
 rw[Int.fdiv_eq_ediv_of_nonneg _ (by omega)]
 omega
def qO (m:Nat) (u:UInt8):Nat:=tn (tn (tn (tn (tn (tn (tn (tn (m^^^u.toNat))))))))
def NH (b:List UInt8):Nat:=b.foldl qO 0
theorem Mq {m:Nat} (h:m<65536) (u:UInt8):m^^^u.toNat<65536:=Nat.xor_lt_two_pow (n:=16) (by omega) (by have:=u.toNat_lt;omega)
theorem sm {m:Nat} (h:m<65536) (u:UInt8):qO m u<65536:=lg (lg (lg (lg (lg (lg (lg (lg (Mq h u))))))))
theorem Ek: ∀(b:List UInt8) {m:Nat},m<65536→b.foldl qO m<65536
 |[],m,h=>h
 |u::r,m,h=>Ek r (sm h u)
theorem JQ (b:List UInt8):NH b<65536:=Ek b (by omega)
theorem Vk (t6:List UInt8) (t7 t8:Int) {m:Nat} (h:m<65536):Bd fuel t6 t7 t8 (m:Int) 0=some ((tn (tn (tn (tn (tn (tn (tn (tn m))))))):Nat):Int):=by
 have key: ∀(i:Nat) (m:Nat),m<65536→i<8→wA t6 t7 t8 ((m:Int),(i:Int))=some (.inl (((tn m:Nat):Int),((i+1:Nat):Int))):=by
  intro i m hm hi
  simp only[wA,yG,get_ite,aE,aD,aC,aF,aL,aK]
  rw[decide_eq_true (show(i:Int)<8 by omega),R6 hm,SB,bG (by omega)]
  unfold tn
  split
  ·rename_i ho
   rw[ho]
   have:=LZ (x:=m/2) (y:=40961) (by omega) (by omega)
   rw[show((40961:Nat):Int)=40961 from rfl]at this
   rw[this]
   rfl
  ·rename_i ho
   have:m%2=0:=by omega
   rw[this]
   rfl
 have last: ∀m:Nat,wA t6 t7 t8 ((m:Int),((8:Nat):Int))=some (.inr (m:Int)):=fun m=>rfl
 unfold Bd
 obtain⟨n,hn⟩: ∃n,fuel=n+9:=⟨4294967287,by rw[pn]⟩
 rw[hn]
 have h0:=h
 have h1:=lg h0
 have h2:=lg h1
 have h3:=lg h2
 have h4:=lg h3
 have h5:=lg h4
 have h6:=lg h5
 have h7:=lg h6
 rw[show(0:Int)=((0:Nat):Int)from rfl,bw,key 0 _ h0 (by omega),aw,bB,bw,key 1 _ h1 (by omega),aw,bB,bw,key 2 _ h2 (by omega),aw,bB,bw,key 3 _ h3 (by omega),aw,bB,
  bw,key 4 _ h4 (by omega),aw,bB,bw,key 5 _ h5 (by omega),aw,bB,bw,key 6 _ h6 (by omega),aw,bB,bw,key 7 _ h7 (by omega),aw,bB,bw,last]
 rfl
theorem Vj (b:List UInt8) (i:Int) {m:Nat} (h:m<65536):xJ fuel b i (m:Int) 0=some ((tn (tn (tn (tn (tn (tn (tn (tn m))))))):Nat):Int):=by
 have key: ∀(k:Nat) (m:Nat),m<65536→k<8→sO b i ((m:Int),(k:Int))=some (.inl (((tn m:Nat):Int),((k+1:Nat):Int))):=by
  intro k m hm hi
  simp only[sO,vn,get_ite,aE,aD,aC,aF,aL,aK]
  have e1:(m:Int).tmod 2=((m%2:Nat):Int):=by rw[Int.tmod_eq_emod_of_nonneg (by omega)];omega
  have e2:ay ((m:Int).tdiv 2)=((m/2:Nat):Int):=by rw[Int.tdiv_eq_ediv_of_nonneg (by omega),bq (by omega) (by omega)];omega
  rw[decide_eq_true (show(k:Int)<8 by omega),e1,e2,bG (by omega)]
  unfold tn
  split
  ·rename_i ho
   rw[ho]
   have:=L4 (x:=m/2) (y:=40961) (by omega) (by omega)
   rw[show((40961:Nat):Int)=40961 from rfl]at this
   rw[this]
   rfl
  ·rename_i ho
   have:m%2=0:=by omega
   rw[this]
   rfl
 have last: ∀m:Nat,sO b i ((m:Int),((8:Nat):Int))=some (.inr (m:Int)):=fun m=>rfl
 unfold xJ
 obtain⟨n,hn⟩: ∃n,fuel=n+9:=⟨4294967287,by rw[pn]⟩
 rw[hn]
 have h0:=h
 have h1:=lg h0
 have h2:=lg h1
 have h3:=lg h2
 have h4:=lg h3
 have h5:=lg h4
 have h6:=lg h5
 have h7:=lg h6
 rw[show(0:Int)=((0:Nat):Int)from rfl,bw,key 0 _ h0 (by omega),aw,bB,bw,key 1 _ h1 (by omega),aw,bB,bw,key 2 _ h2 (by omega),aw,bB,bw,key 3 _ h3 (by omega),aw,bB,
  bw,key 4 _ h4 (by omega),aw,bB,bw,key 5 _ h5 (by omega),aw,bB,bw,key 6 _ h6 (by omega),aw,bB,bw,key 7 _ h7 (by omega),aw,bB,bw,last]
 rfl
theorem NG (b:List UInt8) (hb:b.length<4294967296):JP fuel b=some ((NH b:Nat):Int):=by
 have hl:Bc fuel b (b.length:Int) 0 0=some ((NH b:Nat):Int):=by
  unfold Bc
  have:=kC (xs:=b) (step:=wz fuel b (b.length:Int)) (fun i (m:{m:Nat//m<65536})=>((m.1:Int),(i:Int))) (fun u m=>some (.inl ⟨qO m.1 u,sm m.2 u⟩)) (fun m=>(m.1:Int)) (fun i m u hu=> ?_) (fun m=> ?_) ⟨0,by omega⟩ (cr hb)
  ·rw[show((0:Int),(0:Int))=((((⟨0,by omega⟩:{m:Nat//m<65536}).1:Nat):Int),((0:Nat):Int))from rfl,this]
   have gen: ∀(l:List UInt8) (m:{m:Nat//m<65536}),Ez (X:=Int) (fun u m=>some (.inl ⟨qO m.1 u,sm m.2 u⟩)) (fun m=>(m.1:Int)) l m=some ((l.foldl qO m.1:Nat):Int):=by
    intro l
    induction l with
    |nil=>intro m;rfl
    |cons u r ih=>intro m;rw[Ez,aw,bB,ih];rfl
   exact gen b _
  ·have hi:=oa hu
   simp only[wz,s9,get_ite,aE,aD,aC,aF,aL,aK,da hi,bP hi,Int.toNat_natCast,hu,cond_true,aw,bG (Nat.lt_trans hi hb)]
   have e:Hp .u16 (m.1:Int) (OQ (i8 u))=((m.1^^^u.toNat:Nat):Int):=by
    have hw:OQ (i8 u)=((u.toNat:Nat):Int):=by
     unfold OQ;rw[wrap_u16]
     have h1:=D7 u;have h2:=D8 u
     show i8 u%65536=i8 u
     omega
    rw[hw]
    exact LZ m.2 (by have:=u.toNat_lt;omega)
   rw[e,Vk _ _ _ (Mq m.2 u)]
   rfl
  ·simp only[wz,s9,get_ite,aE,aD,aC,aF,aL,aK,db,cond_false]
 unfold JP Dz
 try simp only[get_ite,aE,aD,aC,aF,aL,aK]
 rw[hl]
 rfl
theorem KA (b:List UInt8) (hb:b.length<4294967296):Fy fuel b=some ((NH b:Nat):Int):=by
 have hl:xI fuel b 0 0=some ((NH b:Nat):Int):=by
  unfold xI
  have:=kC (xs:=b) (step:=sN fuel b) (fun i (m:{m:Nat//m<65536})=>((m.1:Int),(i:Int))) (fun u m=>some (.inl ⟨qO m.1 u,sm m.2 u⟩)) (fun m=>(m.1:Int)) (fun i m u hu=> ?_) (fun m=> ?_) ⟨0,by omega⟩ (cr hb)
  ·rw[show((0:Int),(0:Int))=((((⟨0,by omega⟩:{m:Nat//m<65536}).1:Nat):Int),((0:Nat):Int))from rfl,this]
   have gen: ∀(l:List UInt8) (m:{m:Nat//m<65536}),Ez (X:=Int) (fun u m=>some (.inl ⟨qO m.1 u,sm m.2 u⟩)) (fun m=>(m.1:Int)) l m=some ((l.foldl qO m.1:Nat):Int):=by
    intro l
    induction l with
    |nil=>intro m;rfl
    |cons u r ih=>intro m;rw[Ez,aw,bB,ih];rfl
   exact gen b _
  ·have hi:=oa hu
   simp only[sN,qH,get_ite,aE,aD,aC,aF,aL,aK,da hi,bP hi,Int.toNat_natCast,hu,cond_true,aw,bG (Nat.lt_trans hi hb)]
   have e:Hp .i64 (m.1:Int) (ay (i8 u))=((m.1^^^u.toNat:Nat):Int):=by
    have hw:ay (i8 u)=((u.toNat:Nat):Int):=by
     have h1:=D7 u;have h2:=D8 u
     rw[bq (by omega) (by omega)]
    rw[hw]
    exact L4 m.2 (by have:=u.toNat_lt;omega)
   rw[e,Vj _ _ (Mq m.2 u)]
   rfl
  ·simp only[sN,qH,get_ite,aE,aD,aC,aF,aL,aK,db,cond_false]
 unfold Fy Ao
 try simp only[get_ite,aE,aD,aC,aF,aL,aK]
 rw[hl,aw]
 have:=JQ b
 unfold OQ
 rw[wrap_u16]
 congr 1
 omega
def Kr (b:List UInt8):List UInt8:=b++be 2 (NH b:Int)
theorem He (b:List UInt8) (hb:b.length+2≤dy):Ax fuel b=some (Kr b):=by
 unfold Ax vw
 try simp only[get_ite,aE,aD,aC,aF,aL,aK]
 have h:=JQ b
 rw[NG b (by have:dy=2147483648:=rfl;omega),aw,bq (by omega) (by omega),adL _ _ hb]
 rfl
theorem EC (b:List UInt8) (hb:b.length+2≤dy):vo fuel b=some (Kr b):=by
 unfold vo rF
 try simp only[get_ite,aE,aD,aC,aF,aL,aK]
 have h:=JQ b
 rw[KA b (by have:dy=2147483648:=rfl;omega),aw,bq (by omega) (by omega),YS _ _ hb]
 rfl
open Go
theorem cw:dy=2147483648:=rfl
def V4 (w:aX):List UInt8:=be 1 w.og++Qy w.B
def Ht (l:List aX):List UInt8:=(l.map V4).flatten
def ze (a:bf):List UInt8:=be 1 a.Kind++(be 1 a.bg++(be 4 a.aP++(be 4 a.Seq++(Qy a.Name++(be 1 a.aV++(be 1 a.Mode++be 1 (a.aN.length:Int)))))))
def mj (a:bf):List UInt8:=ze a++Ht a.aN
def cP (a:bf):List UInt8:=bif cH a then Kr (mj a)else[]
theorem ji {w:aX}:bU w=true↔0≤w.og∧1≤(w.B.length:Int)∧(w.B.length:Int)≤24∧w.og≤24-(w.B.length:Int):=by
 unfold bU v7
 try simp only[get_ite,aE,aD,aC,aF,aL,aK]
 by_cases h1:w.og≥0<;>by_cases h2:(w.B.length:Int)≥1<;>by_cases h3:(w.B.length:Int)≤24<;>simp only[h1,h2,h3,decide_true,decide_false,cond_true,cond_false,id]
 ·rw[bq (by omega) (by omega)]
  simp
 all_goals (simp<;>omega)
theorem xV {s:List UInt8}:gk s=true→1≤s.length∧s.length≤8:=by
 intro h
 simp[gk]at h
 omega
theorem fb {a:bf} (h:cH a=true):(1≤a.Kind∧a.Kind≤5)∧(1≤a.bg∧a.bg≤3)∧(0≤a.aP∧a.aP≤1073741824)∧(1≤a.Seq∧a.Seq≤1073741824)∧a.Name.length≤8∧(0≤a.aV∧a.aV≤6)∧(0≤a.Mode∧a.Mode≤2)∧a.aN.length≤5∧ ∀w∈a.aN,bU w=true:=by
 unfold cH at h
 simp only[Bool.and_eq_true]at h
 obtain⟨h1,h2,h3,h4,h5,h6⟩:=h
 rw[cJ]at h1 h2 h3 h4
 refine⟨h1,h2,h3,h4,?_⟩
 have h6:=(pB _ _).1 h6
 unfold want at h6
 unfold w7 at h5
 cases k1:a.Kind==1 with
 |true=>
  rw[k1]at h6 h5
  simp only[cond_true]at h6 h5
  have:=xV h5
  rw[h6]
  simp
  omega
 |false=>
  rw[k1]at h6 h5
  simp only[cond_false]at h6 h5
  cases k2:a.Kind==2 with
  |true=>
   rw[k2]at h6 h5
   simp only[cond_true,Bool.and_eq_true,cJ]at h6 h5
   rw[h6]
   simp
   omega
  |false=>
   rw[k2]at h6 h5
   simp only[cond_false]at h6 h5
   cases k3:Kd a with
   |true=>
    rw[k3]at h6 h5
    simp only[cond_true,Bool.and_eq_true,cJ,decide_eq_true_eq]at h6 h5
    obtain⟨g1,g2,g3,g4⟩:=h5
    have e1:a.Name=[]:=by rw[h6]
    have e2:a.Mode=0:=by rw[h6]
    refine⟨by rw[e1];simp,by omega,by omega,by omega,fun w hw=> ?_⟩
    rw[List.all_eq_true]at g4
    exact g4 w hw
   |false=>
    rw[k3]at h6 h5
    simp only[cond_false,cJ]at h6 h5
    have e1:a.Name=[]:=by rw[h6]
    have e2:a.Mode=0:=by rw[h6]
    have e3:a.aN=[]:=by rw[h6]
    refine⟨by rw[e1];simp,by omega,by omega,by rw[e3];simp,fun w hw=> ?_⟩
    rw[e3]at hw;cases hw
theorem Sq (w:aX):(V4 w).length=2+w.B.length:=by unfold V4;rw[List.length_append,dO,jK];omega
theorem NU: ∀l:List aX,(∀w∈l,bU w=true)→(Ht l).length≤26*l.length
 |[],_=>by simp[Ht]
 |w::r,h=>by
  have h1:=NU r (fun x hx=>h x (by simp[hx]))
  have h2:=ji.1 (h w (by simp))
  have h3:=Sq w
  simp only[Ht,List.map_cons,List.flatten_cons,List.length_append,List.length_cons]at h1⊢
  omega
theorem Lh (a:bf):(ze a).length=14+a.Name.length:=by
 unfold ze
 simp only[List.length_append,dO,jK]
 omega
theorem yL {a:bf} (h:cH a=true):(mj a).length≤160:=by
 obtain⟨_,_,_,_,h5,_,_,h8,h9⟩:=fb h
 have h1:=NU a.aN h9
 have h2:=Lh a
 unfold mj
 rw[List.length_append]
 omega
theorem MT (a:bf) (b:List UInt8) (hw: ∀w∈a.aN,bU w=true) (hl:a.aN.length≤5) (hb:b.length≤1000):
  zN fuel a.aN (a.aN.length:Int) a b 0=some (b++Ht a.aN):=by
 have key: ∀(r:List aX) (i:Nat) (b:List UInt8) (n:Nat),a.aN.drop i=r→i≤a.aN.length→r.length<n→b.length+26*r.length≤2000→iter (ph fuel a.aN (a.aN.length:Int) a) n (b,(i:Int))=some (b++Ht r):=by
  intro r
  induction r with
  |nil=>
   intro i b n hd hi hn hb
   have:i=a.aN.length:=Nat.le_antisymm hi (List.drop_eq_nil_iff.1 hd)
   subst this
   cases n with
   |zero=>exact absurd hn (Nat.not_lt_zero _)
   |succ n=>
    rw[bw]
    simp only[ph,nJ,get_ite,aE,aD,aC,aF,aL,aK,db,cond_false,aw,fu,Ht,List.map_nil,List.flatten_nil,List.append_nil]
  |cons w r ih=>
   intro i b n hd hi hn hb
   have hlt:i<a.aN.length:=by
    rcases Nat.lt_or_ge i a.aN.length with h|h
    ·exact h
    ·rw[List.drop_eq_nil_iff.2 h]at hd;cases hd
   have ha:a.aN[i]? =some w:=by
    have:=List.getElem?_drop (xs:=a.aN) (i:=i) (j:=0)
    rw[hd]at this
    simpa using this.symm
   have hr:a.aN.drop (i+1)=r:=by
    have:=List.drop_drop (l:=a.aN) (i:=1) (j:=i)
    rw[hd]at this
    simpa using this.symm
   have hwm:=ji.1 (hw w (List.mem_of_getElem? ha))
   cases n with
   |zero=>exact absurd hn (Nat.not_lt_zero _)
   |succ n=>
    simp only[List.length_cons]at hb hn
    rw[bw]
    simp only[ph,nJ,get_ite,aE,aD,aC,aF,aL,aK,da hlt,bP hlt,Int.toNat_natCast,ha,cond_true,aw]
    rw[KE _ _ (by rw[cw];omega),aw,wJ _ _ (by omega) (by rw[cw,List.length_append,dO];omega),aw,bG (by omega),aw,bB,
     ih (i+1) _ n hr hlt (by omega) (by simp only[List.length_append,dO,jK];omega)]
    simp only[Ht,List.map_cons,List.flatten_cons,V4,List.append_assoc]
 exact key a.aN 0 b fuel rfl (Nat.zero_le _) (cr (by omega)) (by omega)
theorem Kv (a:bf) (b:List UInt8) (hw: ∀w∈a.aN,bU w=true) (hl:a.aN.length≤5) (hb:b.length≤1000):
  wP fuel a b 0=some (b++Ht a.aN):=by
 have key: ∀(r:List aX) (i:Nat) (b:List UInt8) (n:Nat),a.aN.drop i=r→i≤a.aN.length→r.length<n→b.length+26*r.length≤2000→iter (ma fuel a) n (b,(i:Int))=some (b++Ht r):=by
  intro r
  induction r with
  |nil=>
   intro i b n hd hi hn hb
   have:i=a.aN.length:=Nat.le_antisymm hi (List.drop_eq_nil_iff.1 hd)
   subst this
   cases n with
   |zero=>exact absurd hn (Nat.not_lt_zero _)
   |succ n=>
    rw[bw]
    simp only[ma,kR,get_ite,aE,aD,aC,aF,aL,aK,db,cond_false,aw,fu,Ht,List.map_nil,List.flatten_nil,List.append_nil]
  |cons w r ih=>
   intro i b n hd hi hn hb
   have hlt:i<a.aN.length:=by
    rcases Nat.lt_or_ge i a.aN.length with h|h
    ·exact h
    ·rw[List.drop_eq_nil_iff.2 h]at hd;cases hd
   have ha:a.aN[i]? =some w:=by
    have:=List.getElem?_drop (xs:=a.aN) (i:=i) (j:=0)
    rw[hd]at this
    simpa using this.symm
   have hr:a.aN.drop (i+1)=r:=by
    have:=List.drop_drop (l:=a.aN) (i:=1) (j:=i)
    rw[hd]at this
    simpa using this.symm
   have hwm:=ji.1 (hw w (List.mem_of_getElem? ha))
   cases n with
   |zero=>exact absurd hn (Nat.not_lt_zero _)
   |succ n=>
    simp only[List.length_cons]at hb hn
    rw[bw]
    simp only[ma,kR,get_ite,aE,aD,aC,aF,aL,aK,da hlt,bP hlt,Int.toNat_natCast,ha,cond_true,aw]
    rw[HM _ _ (by rw[cw];omega),aw,BR _ _ (by omega) (by rw[cw,List.length_append,dO];omega),aw,bG (by omega),aw,bB,
     ih (i+1) _ n hr hlt (by omega) (by simp only[List.length_append,dO,jK];omega)]
    simp only[Ht,List.map_cons,List.flatten_cons,V4,List.append_assoc]
 exact key a.aN 0 b fuel rfl (Nat.zero_le _) (cr (by omega)) (by omega)
theorem Hf (a:bf) (hn:a.Name.length<4294967296) (hw:a.aN.length<4294967296):Az fuel a=some (cP a):=by
 unfold Az vz cP
 try simp only[get_ite,aE,aD,aC,aF,aL,aK]
 rw[Hg a hn hw,aw]
 cases h:cH a with
 |false=>rfl
 |true=>
  obtain⟨_,_,_,_,h5,_,_,h8,h9⟩:=fb h
  simp only[Bool.not_true,cond_false,cond_true]
  rw[KE _ _ (by rw[cw];simp),aw,KE _ _ (by rw[cw];simp only[List.length_append,List.length_nil,dO];omega),aw,Pg _ _ (by rw[cw];simp only[List.length_append,List.length_nil,dO];omega),aw,Pg _ _ (by rw[cw];simp only[List.length_append,List.length_nil,dO];omega),aw,
   wJ _ _ (by omega) (by rw[cw];simp only[List.length_append,List.length_nil,dO];omega),aw,KE _ _ (by rw[cw];simp only[List.length_append,List.length_nil,dO,jK];omega),aw,KE _ _ (by rw[cw];simp only[List.length_append,List.length_nil,dO,jK];omega),aw,
   KE _ _ (by rw[cw];simp only[List.length_append,List.length_nil,dO,jK];omega),aw,MT a _ h9 h8 (by simp only[List.length_append,List.length_nil,dO,jK];omega),aw]
  have e:(((((((([]++be 1 a.Kind)++be 1 a.bg)++be 4 a.aP)++be 4 a.Seq)++Qy a.Name)++be 1 a.aV)++be 1 a.Mode)++be 1 (a.aN.length:Int))++Ht a.aN=mj a:=by
   simp only[mj,ze,List.nil_append,List.append_assoc]
  rw[e,He _ (by have:=yL h;rw[cw];omega),aw]
theorem wO (a:bf) (hn:a.Name.length<4294967296) (hw:a.aN.length<4294967296):aZ fuel a=some (cP a):=by
 unfold aZ rJ cP
 try simp only[get_ite,aE,aD,aC,aF,aL,aK]
 rw[wQ a hn hw,aw]
 cases h:cH a with
 |false=>rfl
 |true=>
  obtain⟨_,_,_,_,h5,_,_,h8,h9⟩:=fb h
  simp only[Bool.not_true,cond_false,cond_true]
  rw[HM _ _ (by rw[cw];simp),aw,HM _ _ (by rw[cw];simp only[List.length_append,List.length_nil,dO];omega),aw,Un _ _ (by rw[cw];simp only[List.length_append,List.length_nil,dO];omega),aw,Un _ _ (by rw[cw];simp only[List.length_append,List.length_nil,dO];omega),aw,
   BR _ _ (by omega) (by rw[cw];simp only[List.length_append,List.length_nil,dO];omega),aw,HM _ _ (by rw[cw];simp only[List.length_append,List.length_nil,dO,jK];omega),aw,HM _ _ (by rw[cw];simp only[List.length_append,List.length_nil,dO,jK];omega),aw,
   HM _ _ (by rw[cw];simp only[List.length_append,List.length_nil,dO,jK];omega),aw,Kv a _ h9 h8 (by simp only[List.length_append,List.length_nil,dO,jK];omega),aw]
  have e:(((((((([]++be 1 a.Kind)++be 1 a.bg)++be 4 a.aP)++be 4 a.Seq)++Qy a.Name)++be 1 a.aV)++be 1 a.Mode)++be 1 (a.aN.length:Int))++Ht a.aN=mj a:=by
   simp only[mj,ze,List.nil_append,List.append_assoc]
  rw[e,EC _ (by have:=yL h;rw[cw];omega),aw]
open Go
def val (l:List UInt8):Int:=l.foldl (fun v x=>v*256+i8 x) 0
def num (k:Nat) (b:List UInt8):Option (Int×List UInt8):=if b.length<k then none else some (val (b.take k),b.drop k)
theorem Tp {v x:Nat} (hv:v<36028797018963968) (hx:x<256):bor .i64 (QG .i64 (v:Int) 8) (x:Int)=(v:Int)*256+(x:Int):=by
 have h1:QG .i64 (v:Int) 8=((v<<<8:Nat):Int):=by
  unfold QG
  have:min (8:Int).toNat IntKind.i64.bits=8:=rfl
  rw[this,Nat.shiftLeft_eq]
  show ay ((v:Int)*2^8)=_
  rw[bq (by omega) (by omega)]
  omega
 rw[h1]
 unfold bor
 have h64:IntKind.i64.bits=64:=rfl
 have hs:v<<<8<2^64:=by rw[Nat.shiftLeft_eq];omega
 rw[h64,BitVec.ofInt_natCast,BitVec.ofInt_natCast,BitVec.toNat_or,BitVec.toNat_ofNat,BitVec.toNat_ofNat,Nat.mod_eq_of_lt hs,Nat.mod_eq_of_lt (show x<2^64 by omega),←Nat.shiftLeft_add_eq_or_of_lt (show x<2^8 by omega),Nat.shiftLeft_eq]
 show ay _=_
 rw[bq (by omega) (by omega)]
 omega
theorem Qv (v:Int) (x:UInt8) (h0:0≤v) (h1:v<36028797018963968):bor .i64 (QG .i64 v 8) (ay (i8 x))=v*256+i8 x:=by
 have e:=Tp (v:=v.toNat) (x:=x.toNat) (by omega) x.toNat_lt
 have hx0:=D7 x
 have hx1:=D8 x
 rw[bq (by omega) (by omega)]
 have e1:((v.toNat:Nat):Int)=v:=by omega
 rw[e1]at e
 exact e
theorem AS: ∀(l:List UInt8) (v:Int),0≤v→0≤l.foldl (fun v x=>v*256+i8 x) v∧l.foldl (fun v x=>v*256+i8 x) v<(v+1)*256^l.length
 |[],v,h=>by simp;omega
 |x::r,v,h=>by
  have h1:=D7 x
  have h2:=D8 x
  obtain⟨g1,g2⟩:=AS r (v*256+i8 x) (by omega)
  refine⟨g1,?_⟩
  have h3:(v*256+i8 x+1)≤(v+1)*256:=by omega
  have h4:(0:Int)≤256^r.length:=by have:(0:Int)<256^r.length:=Int.pow_pos (by omega);omega
  have h5:=Int.mul_le_mul_of_nonneg_right h3 h4
  have h6:(v+1)*256^(x::r).length=(v+1)*256*256^r.length:=by rw[List.length_cons,Int.pow_succ,Int.mul_assoc,Int.mul_comm (256^r.length) 256]
  rw[h6]
  exact Int.lt_of_lt_of_le g2 h5
theorem My (l:List UInt8):0≤val l:=(AS l 0 (Int.le_refl _)).1
theorem Mz (l:List UInt8):val l<256^l.length:=by have:=(AS l 0 (Int.le_refl _)).2;rw[Int.zero_add,Int.one_mul]at this;exact this
theorem Oa {k:Nat} (h:k≤6):(256:Int)^k≤281474976710656:=by
 have:k=0∨k=1∨k=2∨k=3∨k=4∨k=5∨k=6:=by omega
 rcases this with rfl|rfl|rfl|rfl|rfl|rfl|rfl<;>decide
theorem O0 (l:List UInt8) (ok:Bool) (h7:l.length≤7):Cz fuel l (l.length:Int) ok 0 0=some (val l):=by
 have key: ∀(r p:List UInt8) (n:Nat),l=p++r→r.length<n→iter (qP l (l.length:Int) ok) n (val p,(p.length:Int))=some (val l):=by
  intro r
  induction r with
  |nil=>
   intro p n hp hn
   rw[List.append_nil]at hp
   subst hp
   cases n with
   |zero=>exact absurd hn (Nat.not_lt_zero _)
   |succ n=>
    rw[bw]
    simp only[qP,pr,get_ite,aE,aD,aC,aF,aL,aK,db,cond_false,aw,fu]
  |cons x r ih=>
   intro p n hp hn
   have hlt:p.length<l.length:=by rw[hp];simp
   have hx:l[p.length]? =some x:=by rw[hp];simp
   cases n with
   |zero=>exact absurd hn (Nat.not_lt_zero _)
   |succ n=>
    rw[bw]
    simp only[qP,pr,get_ite,aE,aD,aC,aF,aL,aK,da hlt,bP hlt,Int.toNat_natCast,hx,cond_true,aw,bB]
    have hb:=Mz p
    have hp6:=Oa (k:=p.length) (by omega)
    rw[Qv _ _ (My p) (by omega),bG (by omega)]
    have e:val p*256+i8 x=val (p++[x]):=by unfold val;rw[List.foldl_append];rfl
    have e2:((p.length+1:Nat):Int)=((p++[x]).length:Int):=by simp
    rw[e,e2]
    exact ih (p++[x]) n (by rw[hp];simp) (by simp at hn;omega)
 exact key l [] fuel rfl (cr (by omega))
theorem MN (b:List UInt8) (k:Nat) (h7:k≤7) (hk:k≤b.length):BS fuel b (k:Int) 0 0=some (val (b.take k)):=by
 have key: ∀(r p:List UInt8) (n:Nat),b.take k=p++r→r.length<n→iter (qG b (k:Int)) n (val p,(p.length:Int))=some (val (b.take k)):=by
  have hlen:(b.take k).length=k:=by rw[List.length_take];omega
  intro r
  induction r with
  |nil=>
   intro p n hp hn
   rw[List.append_nil]at hp
   have hpk:p.length=k:=by rw[←hp];exact hlen
   cases n with
   |zero=>exact absurd hn (Nat.not_lt_zero _)
   |succ n=>
    rw[bw]
    simp only[qG,pf,get_ite,aE,aD,aC,aF,aL,aK,hpk,db,cond_false,aw,fu,hp]
  |cons x r ih=>
   intro p n hp hn
   have hlt:p.length<k:=by rw[←hlen,hp];simp
   have hx:b[p.length]? =some x:=by
    have:(b.take k)[p.length]? =some x:=by rw[hp];simp
    rw[List.getElem?_take,if_pos hlt]at this
    exact this
   cases n with
   |zero=>exact absurd hn (Nat.not_lt_zero _)
   |succ n=>
    rw[bw]
    simp only[qG,pf,get_ite,aE,aD,aC,aF,aL,aK,da hlt,bP (oa hx),Int.toNat_natCast,hx,cond_true,aw,bB]
    have hb:=Mz p
    have hb0:=My p
    have hp6:=Oa (k:=p.length) (by omega)
    have hx0:=D7 x
    have hx1:=D8 x
    rw[bq (show-9223372036854775808≤val p*256 by omega) (by omega),bq (show-9223372036854775808≤i8 x by omega) (by omega),bq (show-9223372036854775808≤val p*256+i8 x by omega) (by omega),bG (by omega)]
    have e:val p*256+i8 x=val (p++[x]):=by unfold val;rw[List.foldl_append];rfl
    have e2:((p.length+1:Nat):Int)=((p++[x]).length:Int):=by simp
    rw[e,e2]
    exact ih (p++[x]) n (by rw[hp];simp) (by simp at hn;omega)
 exact key (b.take k) [] fuel rfl (cr (by rw[List.length_take];omega))
theorem fE {lo hi:Int} {n:Nat} (h1:0≤lo) (h2:lo≤hi) (h3:hi≤n):j2 lo hi n=true:=by
 unfold j2;simp[h1,h2,h3]
theorem qY {α:Type} (b:List α) (k:Nat):eD b 0 (k:Int)=b.take k:=by
 unfold eD;simp
theorem nV {α:Type} (b:List α) (k:Nat):eD b (k:Int) (b.length:Int)=b.drop k:=by
 unfold eD;simp
theorem zZ (b:List UInt8) (k:Nat):wI b (k:Int)=some (if b.length<k then .inr ()else .inl (b.take k)):=by
 unfold wI wH
 try simp only[get_ite,aE,aD,aC,aF,aL,aK]
 by_cases h:b.length<k
 ·rw[decide_eq_true (show(b.length:Int)<k by omega),if_pos h];rfl
 ·rw[decide_eq_false (show ¬(b.length:Int)<k by omega),if_neg h,fE (by omega) (by omega) (by omega),qY];rfl
theorem wK (b:List UInt8) (k:Nat) (h1:1≤k) (h7:k≤7):uN fuel b (k:Int)=some (match num k b with|some (v,_)=>(v,true)|none=>(0,false)):=by
 unfold uN yM
 try simp only[get_ite,aE,aD,aC,aF,aL,aK]
 rw[decide_eq_false (show ¬(k:Int)<1 by omega),decide_eq_false (show ¬(k:Int)>7 by omega),zZ]
 unfold num
 by_cases h:b.length<k
 ·rw[if_pos h,if_pos h];rfl
 ·have hl:(b.take k).length=k:=by rw[List.length_take];omega
  rw[if_neg h,if_neg h]
  simp only[cond_false,aw,bB]
  rw[O0 _ _ (by omega)]
  rfl
theorem I2 (b:List UInt8) (k:Nat) (h1:1≤k) (h7:k≤7):CX fuel b (k:Int)=some (match num k b with|some (v,_)=>(v,true)|none=>(0,false)):=by
 unfold CX xG
 try simp only[get_ite,aE,aD,aC,aF,aL,aK]
 rw[decide_eq_false (show ¬(k:Int)<1 by omega),decide_eq_false (show ¬(k:Int)>7 by omega)]
 unfold num
 by_cases h:b.length<k
 ·rw[if_pos h,decide_eq_true (show(b.length:Int)<k by omega)];rfl
 ·rw[if_neg h,decide_eq_false (show ¬(b.length:Int)<k by omega)]
  simp only[cond_false]
  rw[MN _ _ h7 (by omega)]
  rfl
theorem zK (b:List UInt8) (k:Nat) (h1:1≤k) (h7:k≤7):dn fuel (k:Int) ⟨b⟩=some (match num k b with|some (v,r)=> .inl (v,⟨r⟩)|none=> .inr ()):=by
 unfold dn oN
 try simp only[get_ite,aE,aD,aC,aF,aL,aK]
 rw[wK b k h1 h7]
 unfold num
 by_cases h:b.length<k
 ·rw[if_pos h];rfl
 ·rw[if_neg h]
  simp only[aw,Bool.not_true,cond_false]
  rw[fE (by omega) (by omega) (by omega),nV]
  rfl
def IZ (k:Nat) (r:bp):Int×bp:=if r.wM then(0,⟨r.B,true⟩)else match num k r.B with|some (v,s)=>(v,⟨s,false⟩)|none=>(0,⟨r.B,true⟩)
theorem BU (r:bp) (k:Nat) (h1:1≤k) (h7:k≤7):cK fuel (k:Int) r=some (IZ k r):=by
 obtain⟨b,bad⟩:=r
 unfold cK mC IZ
 try simp only[get_ite,aE,aD,aC,aF,aL,aK]
 rw[I2 _ k h1 h7]
 unfold num
 by_cases h:b.length<k
 ·rw[if_pos h];cases bad<;>rfl
 ·rw[if_neg h]
  cases bad with
  |true=>rfl
  |false=>
   simp only[aw,Bool.not_true,cond_false]
   rw[fE (by omega) (by omega) (by omega),nV]
   rfl
def text:List UInt8→Option (List UInt8×List UInt8)
 |[]=>none
 |x::r=>if r.length<x.toNat then none else some (r.take x.toNat,r.drop x.toNat)
theorem y1 (x:UInt8) (r:List UInt8):text (x::r)=if r.length<x.toNat then none else some (r.take x.toNat,r.drop x.toNat):=rfl
theorem Bt (b:List UInt8) (hb:b.length≤dy):pt b=some (match text b with|some (s,_)=>(s,(s.length:Int)+1,true)|none=>([],0,false)):=by
 unfold pt qn
 try simp only[get_ite,aE,aD,aC,aF,aL,aK]
 have h1:=zZ b 1
 rw[show((1:Nat):Int)=1 from rfl]at h1
 rw[h1]
 cases b with
 |nil=>rfl
 |cons x r=>
  have hx0:=D7 x
  have hx1:=D8 x
  rw[if_neg (by simp)]
  simp only[aw,bB]
  have h2:cL 0 ((x::r).take 1).length=true:=ig (by omega) (by simp)
  have h3:((x::r).take 1)[0]? =some x:=rfl
  rw[h2,h3]
  simp only[cond_true,aw]
  rw[bq (show-9223372036854775808≤i8 x by omega) (by omega),bq (show-9223372036854775808≤i8 x+1 by omega) (by omega)]
  rw[y1]
  by_cases h:r.length<x.toNat
  ·rw[if_pos h,decide_eq_true (by rw[List.length_cons];show((r.length+1:Nat):Int)<((x.toNat:Nat):Int)+1;omega)];rfl
  ·have e:eD (x::r) 1 (i8 x+1)=r.take x.toNat:=by
    unfold eD
    have:(i8 x+1).toNat=x.toNat+1:=by unfold i8;omega
    rw[this]
    simp
   rw[if_neg h,decide_eq_false (by rw[List.length_cons];show ¬((r.length+1:Nat):Int)<((x.toNat:Nat):Int)+1;omega),fE (by omega) (by omega) (by rw[List.length_cons];show((x.toNat:Nat):Int)+1≤((r.length+1:Nat):Int);omega),e]
   have e2:((r.take x.toNat).length:Int)=i8 x:=by rw[List.length_take];unfold i8;omega
   simp only[cond_false,cond_true,e2]
theorem G9 (b:List UInt8) (hb:b.length≤dy):tv b=some (match text b with|some (s,_)=>(s,(s.length:Int)+1,true)|none=>([],0,false)):=by
 unfold tv qc
 try simp only[get_ite,aE,aD,aC,aF,aL,aK]
 rw[cw]at hb
 cases b with
 |nil=>rfl
 |cons x r=>
  have hx0:=D7 x
  have hx1:=D8 x
  rw[List.length_cons]at hb
  rw[decide_eq_false (show ¬(((x::r).length:Nat):Int)<1 by rw[List.length_cons];omega),ig (by omega) (by rw[List.length_cons];omega)]
  have h3:(x::r)[0]? =some x:=rfl
  rw[h3]
  simp only[cond_true,cond_false,aw]
  rw[bq (show-9223372036854775808≤i8 x by omega) (by omega),bq (show-9223372036854775808≤i8 x+1 by omega) (by omega),bq (show-9223372036854775808≤(((x::r).length:Nat):Int)-1 by rw[List.length_cons];omega) (by rw[List.length_cons];omega)]
  rw[y1]
  by_cases h:r.length<x.toNat
  ·rw[if_pos h,decide_eq_true (by rw[List.length_cons];show((r.length+1:Nat):Int)-1<((x.toNat:Nat):Int);omega)];rfl
  ·have e:eD (x::r) 1 (i8 x+1)=r.take x.toNat:=by
    unfold eD
    have:(i8 x+1).toNat=x.toNat+1:=by unfold i8;omega
    rw[this]
    simp
   rw[if_neg h,decide_eq_false (by rw[List.length_cons];show ¬((r.length+1:Nat):Int)-1<((x.toNat:Nat):Int);omega),fE (by omega) (by omega) (by rw[List.length_cons];show((x.toNat:Nat):Int)+1≤((r.length+1:Nat):Int);omega),e]
   have e2:((r.take x.toNat).length:Int)=i8 x:=by rw[List.length_take];unfold i8;omega
   simp only[cond_false,cond_true,e2]
theorem rh {b s r:List UInt8} (h:text b=some (s,r)):s.length≤255∧s.length+1≤b.length∧r=b.drop (s.length+1):=by
 cases b with
 |nil=>cases h
 |cons x t=>
  rw[y1]at h
  have hx:=x.toNat_lt
  by_cases hl:t.length<x.toNat
  ·rw[if_pos hl]at h;cases h
  ·rw[if_neg hl]at h
   cases h
   have e:(t.take x.toNat).length=x.toNat:=by rw[List.length_take];omega
   refine⟨by omega,by rw[List.length_cons];omega,by rw[e];rfl⟩
theorem xL (b:List UInt8) (hb:b.length≤dy):mb ⟨b⟩=some (match text b with|some (s,r)=> .inl (s,⟨r⟩)|none=> .inr ()):=by
 unfold mb nI
 try simp only[get_ite,aE,aD,aC,aF,aL,aK]
 rw[Bt b hb]
 cases h:text b with
 |none=>rfl
 |some p=>
  obtain⟨s,r⟩:=p
  obtain⟨h1,h2,h3⟩:=rh h
  simp only[aw,Bool.not_true,cond_false]
  rw[fE (by omega) (by omega) (by omega)]
  have:=nV b (s.length+1)
  rw[show((s.length+1:Nat):Int)=(s.length:Int)+1 by omega]at this
  rw[this,h3]
  rfl
def Ft (r:bp):List UInt8×bp:=if r.wM then([],⟨r.B,true⟩)else match text r.B with|some (v,s)=>(v,⟨s,false⟩)|none=>([],⟨r.B,true⟩)
theorem ib (r:bp) (hb:r.B.length≤dy):jU r=some (Ft r):=by
 obtain⟨b,bad⟩:=r
 unfold jU lF Ft
 try simp only[get_ite,aE,aD,aC,aF,aL,aK]
 rw[G9 b hb]
 cases h:text b with
 |none=>cases bad<;>rfl
 |some p=>
  obtain⟨s,r⟩:=p
  obtain⟨h1,h2,h3⟩:=rh h
  cases bad with
  |true=>rfl
  |false=>
   simp only[aw,Bool.not_true,cond_false]
   rw[fE (by omega) (by omega) (by omega)]
   have:=nV b (s.length+1)
   rw[show((s.length+1:Nat):Int)=(s.length:Int)+1 by omega]at this
   rw[this,h3]
   rfl
open Go
def gR:Nat→List UInt8→List aX→Option (List aX×List UInt8)
 |0,b,l=>some (l,b)
 |n+1,b,l=>(num 1 b).bind fun o=>(text o.2).bind fun t=>gR n t.2 (l++[⟨o.1,t.1⟩])
def FF (b:List UInt8):Option (bf×List UInt8):=
 (num 1 b).bind fun k=>(num 1 k.2).bind fun f=>(num 4 f.2).bind fun e=>(num 4 e.2).bind fun s=>(text s.2).bind fun nm=>(num 1 nm.2).bind fun fl=>(num 1 fl.2).bind fun m=>(num 1 m.2).bind fun n=>
  (gR n.1.toNat n.2 []).bind fun w=>some (⟨k.1,f.1,e.1,s.1,nm.1,fl.1,m.1,w.1⟩,w.2)
theorem cO {k:Nat} {b:List UInt8} {v:Int} {r:List UInt8} (h:num k b=some (v,r)):r.length+k=b.length∧0≤v∧v<256^k∧v=val (b.take k)∧r=b.drop k:=by
 unfold num at h
 by_cases hl:b.length<k
 ·rw[if_pos hl]at h;cases h
 ·rw[if_neg hl]at h
  cases h
  have e:(b.take k).length=k:=by rw[List.length_take];omega
  have:=Mz (b.take k)
  rw[e]at this
  exact⟨by rw[List.length_drop];omega,My _,this,rfl,rfl⟩
theorem Br {b s r:List UInt8} (h:text b=some (s,r)):r.length+s.length+1=b.length:=by
 obtain⟨h1,h2,h3⟩:=rh h
 rw[h3,List.length_drop];omega
theorem V5 (b:List UInt8):dn fuel 1 ⟨b⟩=some (match num 1 b with|some (v,r)=> .inl (v,⟨r⟩)|none=> .inr ()):=zK b 1 (by omega) (by omega)
theorem rd4 (b:List UInt8):dn fuel 4 ⟨b⟩=some (match num 4 b with|some (v,r)=> .inl (v,⟨r⟩)|none=> .inr ()):=zK b 4 (by omega) (by omega)
def Ss (o:Option (List aX×List UInt8)) (a:bf) (s:(cq×bf) ⊕ ((cq×bf×aX) ⊕ (cq×bf))):Prop:=
 match o with
 |some (l,r)=>s= .inr (.inr (⟨r⟩,⟨a.Kind,a.bg,a.aP,a.Seq,a.Name,a.aV,a.Mode,l⟩))
 |none=>(∃q,s= .inl q)∨ ∃q,s= .inr (.inl q)
theorem Ma: ∀(m:Nat) (b:List UInt8) (a:bf) (n:Nat),m<n→m≤255→a.aN.length+m≤1000→b.length≤dy→ ∃s,iter (jW fuel) n ((m:Int),⟨b⟩,a)=some s∧Ss (gR m b a.aN) a s
 |_,_,_,0,h,_,_,_=>absurd h (Nat.not_lt_zero _)
 |0,b,a,n+1,_,_,_,_=>by
  refine⟨_,?_,rfl⟩
  rw[bw]
  simp only[jW,je,get_ite,aE,aD,aC,aF,aL,aK]
  rfl
 |m+1,b,a,n+1,h,h2,h3,h4=>by
  rw[bw]
  simp only[jW,je,get_ite,aE,aD,aC,aF,aL,aK]
  rw[decide_eq_true (show((m+1:Nat):Int)>0 by omega),V5]
  simp only[cond_true,aw,gR]
  cases hn:num 1 b with
  |none=>exact⟨_,rfl,.inl ⟨_,rfl⟩⟩
  |some p=>
   obtain⟨v,r⟩:=p
   have hp:=cO hn
   simp only[bB,aw]
   rw[xL r (by omega)]
   cases ht:text r with
   |none=>exact⟨_,rfl,.inr ⟨_,rfl⟩⟩
   |some q=>
    obtain⟨s,t⟩:=q
    have hq:=Br ht
    simp only[bB,aw]
    rw[decide_eq_true (show a.aN.length+1≤dy by rw[cw];omega),bq (by omega) (by omega)]
    have e:((m+1:Nat):Int)-1=(m:Int):=by omega
    rw[e]
    simp only[cond_true,aw,bB]
    obtain⟨s',h5,h6⟩:=Ma m t ⟨a.Kind,a.bg,a.aP,a.Seq,a.Name,a.aV,a.Mode,a.aN++[⟨v,s⟩]⟩ n (by omega) (by omega) (by simp;omega) (by omega)
    refine⟨s',h5,?_⟩
    generalize gR m t (a.aN++[⟨v,s⟩])=o at h6⊢
    cases o with
    |none=>exact h6
    |some p=>exact h6
def YU {α:Type} (o:Option (α×List UInt8)) (s:(α×cq) ⊕ cq):Prop:=
 match o with
 |some (a,r)=>s= .inl (a,⟨r⟩)
 |none=> ∃q,s= .inr q
theorem Hb (b:List UInt8) (hb:b.length≤dy): ∃s,rQ fuel ⟨b⟩=some s∧YU (FF b) s:=by
 unfold rQ oO FF
 try simp only[get_ite,aE,aD,aC,aF,aL,aK]
 rw[V5]
 cases h1:num 1 b with
 |none=>exact⟨_,rfl,_,rfl⟩
 |some p1=>
  obtain⟨k,b1⟩:=p1
  have g1:=cO h1
  simp only[aw,bB]
  rw[V5]
  cases h2:num 1 b1 with
  |none=>exact⟨_,rfl,_,rfl⟩
  |some p2=>
   obtain⟨f,b2⟩:=p2
   have g2:=cO h2
   simp only[aw,bB]
   rw[rd4]
   cases h3:num 4 b2 with
   |none=>exact⟨_,rfl,_,rfl⟩
   |some p3=>
    obtain⟨e,b3⟩:=p3
    have g3:=cO h3
    simp only[aw,bB]
    rw[rd4]
    cases h4:num 4 b3 with
    |none=>exact⟨_,rfl,_,rfl⟩
    |some p4=>
     obtain⟨s,b4⟩:=p4
     have g4:=cO h4
     simp only[aw,bB]
     rw[xL _ (by omega)]
     cases h5:text b4 with
     |none=>exact⟨_,rfl,_,rfl⟩
     |some p5=>
      obtain⟨nm,b5⟩:=p5
      have g5:=Br h5
      simp only[aw,bB]
      rw[V5]
      cases h6:num 1 b5 with
      |none=>exact⟨_,rfl,_,rfl⟩
      |some p6=>
       obtain⟨fl,b6⟩:=p6
       have g6:=cO h6
       simp only[aw,bB]
       rw[V5]
       cases h7:num 1 b6 with
       |none=>exact⟨_,rfl,_,rfl⟩
       |some p7=>
        obtain⟨m,b7⟩:=p7
        have g7:=cO h7
        simp only[aw,bB]
        rw[V5]
        cases h8:num 1 b7 with
        |none=>exact⟨_,rfl,_,rfl⟩
        |some p8=>
         obtain⟨n,b8⟩:=p8
         obtain⟨g8,g9,g10,_,_⟩:=cO h8
         simp only[aw,bB]
         have g10:n<256:=g10
         obtain⟨o,h9,h10⟩:=Ma n.toNat b8 ⟨k,f,e,s,nm,fl,m,[]⟩ fuel (cr (by omega)) (by omega) (by simp;omega) (by omega)
         have en:((n.toNat:Nat):Int)=n:=by omega
         rw[en]at h9
         have h9':sS fuel n ⟨b8⟩ ⟨k,f,e,s,nm,fl,m,[]⟩=some o:=h9
         rw[h9']
         cases hw:gR n.toNat b8 []with
         |none=>
          have h10:Ss (gR n.toNat b8 []) ⟨k,f,e,s,nm,fl,m,[]⟩ o:=h10
          rw[hw]at h10
          rcases h10 with⟨q,rfl⟩|⟨q,rfl⟩
          ·exact⟨_,rfl,_,rfl⟩
          ·exact⟨_,rfl,_,rfl⟩
         |some p9=>
          have h10:Ss (gR n.toNat b8 []) ⟨k,f,e,s,nm,fl,m,[]⟩ o:=h10
          rw[hw]at h10
          have h10:=h10
          simp only[Ss]at h10
          subst h10
          exact⟨_,rfl,rfl⟩
theorem xN: ∀(n:Nat) (b:List UInt8) (l l':List aX) (r:List UInt8),gR n b l=some (l',r)→l'.length=l.length+n∧r.length≤b.length
 |0,b,l,l',r,h=>by cases h;exact⟨rfl,Nat.le_refl _⟩
 |n+1,b,l,l',r,h=>by
  simp only[gR]at h
  cases h1:num 1 b with
  |none=>rw[h1]at h;cases h
  |some p=>
   obtain⟨o,b1⟩:=p
   rw[h1,aw]at h
   have g1:=cO h1
   cases h2:text b1 with
   |none=>simp only[h2]at h;cases h
   |some q=>
    obtain⟨t,b2⟩:=q
    simp only[h2,aw]at h
    have g2:=Br h2
    obtain⟨h3,h4⟩:=xN n b2 _ l' r h
    rw[List.length_append]at h3
    simp only[List.length_cons,List.length_nil]at h3
    exact⟨by omega,by omega⟩
theorem FE {b:List UInt8} {a:bf} {r:List UInt8} (h:FF b=some (a,r)):a.Name.length≤255∧a.aN.length≤255∧b≠[]:=by
 unfold FF at h
 simp only[Option.bind_eq_some_iff]at h
 obtain⟨p1,h1,p2,h2,p3,h3,p4,h4,p5,h5,p6,h6,p7,h7,p8,h8,p9,h9,h10⟩:=h
 cases h10
 have g8:=cO h8
 have g9:=xN _ _ _ _ _ h9
 have g10:p8.1<256:=g8.2.2.1
 have g5:=rh h5
 refine⟨g5.1,by rw[g9.1];simp;omega,?_⟩
 rintro rfl
 cases h1
theorem Lu (a b:List UInt8) (h:a.length<4294967296):nj fuel a b=some (a==b):=by
 have zipeq: ∀a b:List UInt8,a.length=b.length→((a.zip b).all fun p=> !(i8 p.1 != i8 p.2))=(a==b):=by
  intro a
  induction a with
  |nil=>intro b hb;cases b with|nil=>rfl|cons=>simp at hb
  |cons x r ih=>
   intro b hb
   cases b with
   |nil=>simp at hb
   |cons y s=>
    have e:=ih s (by simpa using hb)
    simp only[List.zip_cons_cons,List.all_cons,e,List.cons_beq_cons]
    congr 1
    by_cases hxy:x=y
    ·subst hxy;simp
    ·have:i8 x≠i8 y:=fun h=>hxy (Vc h)
     rw[show(i8 x != i8 y)=true from by rw[bne_iff_ne];exact this]
     rw[show(x==y)=false from by rw[beq_eq_false_iff_ne];exact hxy]
     rfl
 unfold nj lB
 try simp only[get_ite,aE,aD,aC,aF,aL,aK]
 by_cases hl:a.length=b.length
 ·have hz:(a.zip b).length=a.length:=by rw[List.length_zip];omega
  have hl0:kg fuel a b (a.length:Int) 0=some (bif (a.zip b).all (fun p=> !(i8 p.1 != i8 p.2))then .inr ()else .inl ()):=by
   unfold kg
   rw[←uw (fun p:UInt8×UInt8=> !(i8 p.1 != i8 p.2)) (Sum.inl ()) (Sum.inr ()) (a.zip b)]
   refine kC (xs:=a.zip b) (fun i (_:Unit)=>(i:Int)) _ _ (fun i _ p hp=> ?_) (fun _=> ?_) () (cr (by omega))
   ·have hi:=oa hp
    obtain⟨h1,h2⟩:=Mo hp
    rw[hz]at hi
    simp only[kf,gi,get_ite,aE,aD,aC,aF,aL,aK,da hi,bP hi,bP (oa h2),Int.toNat_natCast,h1,h2,cond_true,aw,bG (Nat.lt_trans hi h)]
    cases (i8 p.1 != i8 p.2)<;>rfl
   ·simp only[kf,gi,get_ite,aE,aD,aC,aF,aL,aK,hz,db,cond_false]
  have:((a.length:Int) != (b.length:Int))=false:=by simp[hl]
  rw[this,hl0,←zipeq a b hl]
  cases (a.zip b).all (fun p=> !(i8 p.1 != i8 p.2))<;>rfl
 ·have:((a.length:Int) != (b.length:Int))=true:=by simp;omega
  have h2:(a==b)=false:=by
   cases he:a==b with
   |false=>rfl
   |true=>exact absurd (by rw[eq_of_beq he]) hl
  rw[this,h2]
  rfl
def Ra:bf:=⟨0,0,0,0,[],0,0,[]⟩
def iW (b:List UInt8):bf×Bool:=
 match FF b with
 |some (a,_)=>bif cP a==b then(a,true)else(Ra,false)
 |none=>(Ra,false)
theorem O8 (b:List UInt8):(Kr b).length=b.length+2:=by unfold Kr;rw[List.length_append,dO]
theorem FA (a:bf):(cP a).length≤162:=by
 unfold cP
 cases h:cH a with
 |false=>simp
 |true=>have:=yL h;simp only[cond_true,O8];omega
theorem FL (b:List UInt8) (hb:b.length≤dy):xT fuel b=some (iW b):=by
 obtain⟨s,h1,h2⟩:=Hb b hb
 unfold xT tz zM qh
 try simp only[get_ite,aE,aD,aC,aF,aL,aK]
 rw[h1]
 unfold iW
 cases hp:FF b with
 |none=>
  rw[hp]at h2
  obtain⟨q,rfl⟩:=h2
  rfl
 |some p=>
  obtain⟨a,r⟩:=p
  rw[hp]at h2
  simp only[YU]at h2
  subst h2
  obtain⟨g1,g2,g3⟩:=FE hp
  have hb0:((b.length:Int)==0)=false:=by
   cases b with
   |nil=>exact absurd rfl g3
   |cons x t=>simp;omega
  simp only[aw,bB]
  rw[hb0,Hf a (by omega) (by omega)]
  simp only[aw,cond_false]
  rw[Lu _ _ (by have:=FA a;omega)]
  cases cP a==b<;>rfl
end Go.Proofs.YtlejgahbbfeagaaGreatDoor.N

/- Plain words for this seat (1). Plain words for this seat (2). Plain words for this seat (3). Plain words for this seat (4). Plain words for this seat (5). Plain words for this seat (6). Plain words for this seat (7). Plain words for this seat (8). Plain words for this seat (9). Plain words for this seat (11). Plain words for this seat (12). -/
import Derived.Test.YtlejgahbbfeagaaGreatDoorSeat2
import Derived.Test.YtlejgahbbfeagaaGreatDoorSeat5
set_option linter.unusedVariables false
set_option linter.unusedSimpArgs false
namespace Go.Proofs.YtlejgahbbfeagaaGreatDoor.N
open Go
theorem dh {i n:Nat} (h:i<n):decide ((i:Int)<(n:Int))=true:=decide_eq_true (by omega)
theorem dv (n:Nat):decide ((n:Int)<(n:Int))=false:=decide_eq_false (by omega)
theorem bP {i n:Nat} (h:i<n):cN (i:Int) n=true:=fO (by omega) (by omega)
theorem bI {i:Nat} (h:i<4294967296):ay ((i:Int)+1)=((i+1:Nat):Int):=by rw[bh (by omega) (by omega)];omega
def R7 (a:UInt8):Bool:= !(decide (i8 a<33))&& !(decide (i8 a>126))
def gl (s:List UInt8):Bool:=s.all R7&&(decide ((s.length:Int)≥1)&&decide ((s.length:Int)≤8))
theorem vO (s:List UInt8) (h:s.length<4294967296):yO fuel s=some (gl s):=by
 have hl:AB fuel s (s.length:Int) s 0=some (bif s.all R7 then .inr ()else .inl ()):=by
  unfold AB
  rw[←tL R7 (Sum.inl ()) (Sum.inr ()) s]
  refine kB (xs:=s) (fun i (_:Unit)=>(i:Int)) _ _ (fun i _ a ha=> ?_) (fun _=> ?_) () (cm h)
  ·have hi:=og ha
   simp only[AA,sC,get_ite,aE,aD,aC,aF,aL,aK,dh hi,bP hi,Int.toNat_natCast,ha,cond_true,aw,bI (Nat.lt_trans hi h),R7]
   cases decide (i8 a<33)<;>cases decide (i8 a>126)<;>rfl
  ·simp only[AA,sC,get_ite,aE,aD,aC,aF,aL,aK,dv,cond_false]
 unfold yO CY
 try simp only[get_ite,aE,aD,aC,aF,aL,aK]
 rw[hl,aw]
 unfold gl
 cases s.all R7<;>cases decide ((s.length:Int)≥1)<;>rfl
theorem D4 (s:List UInt8) (h:s.length<4294967296):uG fuel s=some (gl s):=by
 have hl:pM fuel s 0=some (bif s.all R7 then .inr ()else .inl ()):=by
  unfold pM
  rw[←tL R7 (Sum.inl ()) (Sum.inr ()) s]
  refine kB (xs:=s) (fun i (_:Unit)=>(i:Int)) _ _ (fun i _ a ha=> ?_) (fun _=> ?_) () (cm h)
  ·have hi:=og ha
   simp only[pL,kQ,get_ite,aE,aD,aC,aF,aL,aK,dh hi,bP hi,Int.toNat_natCast,ha,cond_true,aw,bI (Nat.lt_trans hi h),R7]
   cases decide (i8 a<33)<;>cases decide (i8 a>126)<;>rfl
  ·simp only[pL,kQ,get_ite,aE,aD,aC,aF,aL,aK,dv,cond_false]
 unfold uG ra
 try simp only[get_ite,aE,aD,aC,aF,aL,aK]
 rw[hl,aw]
 unfold gl
 cases s.all R7<;>cases decide ((s.length:Int)≥1)<;>rfl
theorem Cs (w:aY):sQ w=bQ w:=by
 unfold sQ pK bQ vD
 try simp only[get_ite,aE,aD,aC,aF,aL,aK]
 by_cases h1:w.nS≥0<;>by_cases h2:w.nS<24<;>by_cases h3:(w.B.length:Int)≥1<;>by_cases h4:(w.B.length:Int)≤24<;>
  simp only[h1,h2,h3,h4,decide_true,decide_false,cond_true,cond_false,id]
 ·rw[bh (by omega) (by omega),bh (by omega) (by omega)]
  exact decide_eq_decide.2 (by omega)
 ·rw[bh (by omega) (by omega)]
  exact decide_eq_false (by omega)
 ·rw[bh (by omega) (by omega)]
  exact(decide_eq_false (by omega)).symm
 all_goals try rfl
theorem K5 (ws:List aY) (h:ws.length<4294967296):c9 fuel ws=some (!(ws.all bQ)):=by
 have key: ∀(r:List aY) (i:Nat) (n:Nat),ws.drop i=r→i≤ws.length→r.length<n→ ∃j:Int,0≤j∧iter (dO ws (ws.length:Int)) n (i:Int)=some (bif r.all bQ then .inr ()else .inl j):=by
  intro r
  induction r with
  |nil=>
   intro i n hd hi hn
   have:i=ws.length:=Nat.le_antisymm hi (List.drop_eq_nil_iff.1 hd)
   subst this
   refine⟨0,Int.le_refl _,?_⟩
   cases n with
   |zero=>exact absurd hn (Nat.not_lt_zero _)
   |succ n=>
    rw[bw]
    simp only[dO,eD,get_ite,aE,aD,aC,aF,aL,aK,dv,cond_false]
    rfl
  |cons a r ih=>
   intro i n hd hi hn
   have hlt:i<ws.length:=by
    rcases Nat.lt_or_ge i ws.length with h|h
    ·exact h
    ·rw[List.drop_eq_nil_iff.2 h]at hd;cases hd
   have ha:ws[i]? =some a:=by
    have:=List.getElem?_drop (xs:=ws) (i:=i) (j:=0)
    rw[hd]at this
    simpa using this.symm
   have hr:ws.drop (i+1)=r:=by
    have:=List.drop_drop (l:=ws) (i:=1) (j:=i)
    rw[hd]at this
    simpa using this.symm
   cases n with
   |zero=>exact absurd hn (Nat.not_lt_zero _)
   |succ n=>
    rw[bw,List.all_cons]
    simp only[dO,eD,get_ite,aE,aD,aC,aF,aL,aK,dh hlt,bP hlt,Int.toNat_natCast,ha,cond_true,aw,bI (Nat.lt_trans hlt h),uS,id]
    cases bQ a with
    |true=>
     obtain⟨j,h1,h2⟩:=ih (i+1) n hr hlt (by simp at hn;omega)
     exact⟨j,h1,h2⟩
    |false=>exact⟨(i:Int),by omega,rfl⟩
 obtain⟨j,h1,h2⟩:=key ws 0 fuel rfl (Nat.zero_le _) (cm h)
 unfold c9 fK m9 gT lj
 try simp only[get_ite,aE,aD,aC,aF,aL,aK]
 have h2':iter (dO ws (ws.length:Int)) fuel 0=some (bif ws.all bQ then .inr ()else .inl j):=h2
 rw[h2']
 cases ws.all bQ with
 |true=>rfl
 |false=>
  show some (decide (j≥0))=some true
  rw[decide_eq_true h1]
theorem NT (x y:aY):aY.er x y=true↔x=y:=by
 cases x;cases y
 simp[aY.er]
def tI:List aY→List aY→Bool
 |[],[]=>true
 |x::a,y::b=>aY.er x y&&tI a b
 |_,_=>false
theorem Cp: ∀a b:List aY,tI a b=true↔a=b
 |[],[]=>by simp[tI]
 |[],_::_=>by simp[tI]
 |_::_,[]=>by simp[tI]
 |x::a,y::b=>by simp[tI,NT,Cp a b]
theorem Co: ∀a b:List aY,a.length=b.length→tI a b=(a.zip b).all fun p=>aY.er p.1 p.2
 |[],[],_=>rfl
 |[],_::_,h=>by simp at h
 |_::_,[],h=>by simp at h
 |x::a,y::b,h=>by
  simp only[tI,List.zip_cons_cons,List.all_cons]
  rw[Co a b (by simpa using h)]
theorem G4 {a b:List aY} (h:a.length≠b.length):tI a b=false:=by
 cases hs:tI a b with
 |false=>rfl
 |true=>exact absurd (by rw[(Cp a b).1 hs]) h
theorem Lu {α β:Type} {a:List α} {b:List β} {i:Nat} {p:α×β} (h:(a.zip b)[i]? =some p):a[i]? =some p.1∧b[i]? =some p.2:=by
 rw[List.getElem?_zip_eq_some]at h
 exact h
theorem OV (a b:List aY) (h:a.length<4294967296):mj fuel a b=some (tI a b):=by
 unfold mj kf
 try simp only[get_ite,aE,aD,aC,aF,aL,aK]
 by_cases hl:a.length=b.length
 ·have hz:(a.zip b).length=a.length:=by rw[List.length_zip];omega
  have hl0:jA fuel a b (a.length:Int) 0=some (bif (a.zip b).all (fun p=>aY.er p.1 p.2)then .inr ()else .inl ()):=by
   unfold jA
   rw[←tL (fun p:aY×aY=>aY.er p.1 p.2) (Sum.inl ()) (Sum.inr ()) (a.zip b)]
   refine kB (xs:=a.zip b) (fun i (_:Unit)=>(i:Int)) _ _ (fun i _ p hp=> ?_) (fun _=> ?_) () (cm (by omega))
   ·have hi:=og hp
    obtain⟨h1,h2⟩:=Lu hp
    rw[hz]at hi
    simp only[jz,fI,get_ite,aE,aD,aC,aF,aL,aK,dh hi,bP hi,bP (og h2),Int.toNat_natCast,h1,h2,cond_true,aw,bI (Nat.lt_trans hi h)]
    cases aY.er p.1 p.2<;>rfl
   ·simp only[jz,fI,get_ite,aE,aD,aC,aF,aL,aK,hz,dv,cond_false]
  have:((a.length:Int) != (b.length:Int))=false:=by simp[hl]
  rw[this,hl0,Co a b hl]
  cases (a.zip b).all (fun p=>aY.er p.1 p.2)<;>rfl
 ·have:((a.length:Int) != (b.length:Int))=true:=by simp;omega
  rw[this,G4 hl]
  rfl
theorem zM (a b:List aY) (h:a.length<4294967296):pJ fuel a b=some (tI a b):=by
 unfold pJ nq
 try simp only[get_ite,aE,aD,aC,aF,aL,aK]
 by_cases hl:a.length=b.length
 ·have hz:(a.zip b).length=a.length:=by rw[List.length_zip];omega
  have hl0:mr fuel a b 0=some (bif (a.zip b).all (fun p=>aY.er p.1 p.2)then .inr ()else .inl ()):=by
   unfold mr
   rw[←tL (fun p:aY×aY=>aY.er p.1 p.2) (Sum.inl ()) (Sum.inr ()) (a.zip b)]
   refine kB (xs:=a.zip b) (fun i (_:Unit)=>(i:Int)) _ _ (fun i _ p hp=> ?_) (fun _=> ?_) () (cm (by omega))
   ·have hi:=og hp
    obtain⟨h1,h2⟩:=Lu hp
    rw[hz]at hi
    simp only[mq,ir,get_ite,aE,aD,aC,aF,aL,aK,dh hi,bP hi,bP (og h2),Int.toNat_natCast,h1,h2,cond_true,aw,bI (Nat.lt_trans hi h)]
    cases aY.er p.1 p.2<;>rfl
   ·simp only[mq,ir,get_ite,aE,aD,aC,aF,aL,aK,hz,dv,cond_false]
  have:((a.length:Int) != (b.length:Int))=false:=by simp[hl]
  rw[this,hl0,Co a b hl]
  cases (a.zip b).all (fun p=>aY.er p.1 p.2)<;>rfl
 ·have:((a.length:Int) != (b.length:Int))=true:=by simp;omega
  rw[this,G4 hl]
  rfl
def eJ (a b:bp):Bool:=a.Kind==b.Kind&&(a.bn==b.bn&&(a.aS==b.aS&&(a.Seq==b.Seq&&(a.Name==b.Name&&(a.aX==b.aX&&(a.Mode==b.Mode&&tI a.aQ b.aQ))))))
theorem pd (a b:bp):eJ a b=true↔a=b:=by
 cases a;cases b
 simp[eJ,Cp]
theorem eI (a:bp):eJ a a=true:=(pd a a).2 rfl
theorem Gn (a b:Bool):(a&&b)=bif a then b else false:=by cases a<;>rfl
theorem Fb (a b:bp) (h:a.aQ.length<4294967296):xu fuel a b=some (eJ a b):=by
 unfold xu sS eJ
 try simp only[get_ite,aE,aD,aC,aF,aL,aK]
 rw[OV _ _ h]
 simp only[Gn,aw]
 cases a.Kind==b.Kind<;>cases a.bn==b.bn<;>cases a.aS==b.aS<;>cases a.Seq==b.Seq<;>cases a.Name==b.Name<;>cases a.aX==b.aX<;>cases a.Mode==b.Mode<;>rfl
theorem tM (a b:bp) (h:a.aQ.length<4294967296):ct fuel a b=some (eJ a b):=by
 unfold ct pN eJ
 try simp only[get_ite,aE,aD,aC,aF,aL,aK]
 rw[zM _ _ h]
 simp only[Gn,aw]
 cases a.Kind==b.Kind<;>cases a.bn==b.bn<;>cases a.aS==b.aS<;>cases a.Seq==b.Seq<;>cases a.Name==b.Name<;>cases a.aX==b.aX<;>cases a.Mode==b.Mode<;>rfl
open Go
def oR (lo hi v:Int):Bool:=decide (lo≤v)&&decide (v≤hi)
theorem cH {lo hi v:Int}:oR lo hi v=true↔lo≤v∧v≤hi:=by simp[oR]
theorem Dy (lo hi v:Int):gb lo hi v=oR lo hi v:=by
 unfold gb zZ oR
 try simp only[get_ite,aE,aD,aC,aF,aL,aK]
 cases decide (lo≤v)<;>rfl
theorem Ik (n least:Int):yG n least=oR least 1073741824 n:=by
 unfold yG xg oR
 try simp only[get_ite,aE,aD,aC,aF,aL,aK]
 simp only[ge_iff_le]
 cases decide (least≤n)<;>rfl
def Jw (a:bp):Bool:=a.Kind==3||a.Kind==4
def want (a:bp):bp:=
 bif a.Kind==1 then⟨a.Kind,a.bn,a.aS,a.Seq,a.Name,0,0,[]⟩else
 bif a.Kind==2 then⟨a.Kind,a.bn,a.aS,a.Seq,[],a.aX,a.Mode,[]⟩else
 bif Jw a then⟨a.Kind,a.bn,a.aS,a.Seq,[],a.aX,0,a.aQ⟩else⟨a.Kind,a.bn,a.aS,a.Seq,[],a.aX,0,[]⟩
def wE (a:bp):Bool:=
 bif a.Kind==1 then gl a.Name else
 bif a.Kind==2 then oR 1 6 a.aX&&oR 1 2 a.Mode else
 bif Jw a then decide ((a.aQ.length:Int)≤5)&&((decide ((a.aQ.length:Int)>0)||a.Kind==4)&&(oR 1 6 a.aX&&a.aQ.all bQ))else oR 1 6 a.aX
def cL (a:bp):Bool:=oR 1 5 a.Kind&&(oR 1 3 a.bn&&(oR 0 1073741824 a.aS&&(oR 1 1073741824 a.Seq&&(wE a&&eJ a (want a)))))
theorem IB (a:bp) (hn:a.Name.length<4294967296) (hw:a.aQ.length<4294967296):Cz fuel a=some (want a,wE a):=by
 unfold Cz xq want wE Jw
 try simp only[get_ite,aE,aD,aC,aF,aL,aK]
 rw[vO _ hn,K5 _ hw]
 simp only[Dy,aw,Bool.not_not]
 cases h1:a.Kind==1<;>cases h2:a.Kind==2<;>cases h3:a.Kind==3<;>cases h4:a.Kind==4<;>cases oR 1 6 a.aX<;>cases decide ((a.aQ.length:Int)≤5)<;>cases decide ((a.aQ.length:Int)>0)<;>rfl
theorem GJ (a:bp) (hn:a.Name.length<4294967296) (hw:a.aQ.length<4294967296):z7 fuel a=some (cL a):=by
 unfold z7 uV cL
 try simp only[get_ite,aE,aD,aC,aF,aL,aK]
 rw[IB a hn hw]
 simp only[Dy,aw]
 rw[Fb _ _ hw]
 simp only[Gn]
 cases oR 1 5 a.Kind<;>cases oR 1 3 a.bn<;>cases oR 0 1073741824 a.aS<;>cases oR 1 1073741824 a.Seq<;>cases wE a<;>rfl
theorem Bi (a b:bp):eJ a b=eJ b a:=by
 cases h:eJ b a with
 |true=>exact(pd _ _).2 ((pd _ _).1 h).symm
 |false=>
  cases h2:eJ a b with
  |false=>rfl
  |true=>rw[((pd _ _).1 h2).symm,eI]at h;cases h
theorem GA (a x:bp) (ok:Bool) (h:a.aQ.length<4294967296):cO fuel a x ok 0=some (ok&&a.aQ.all bQ):=by
 have hr: ∀(l:List aY) (ok:Bool),D2 (S:=Bool) (X:=Bool) (fun w ok=>some (.inl (bif ok then bQ w else false))) (fun ok=>ok) l ok=some (ok&&l.all bQ):=by
  intro l
  induction l with
  |nil=>intro ok;cases ok<;>rfl
  |cons w r ih=>
   intro ok
   rw[D2,List.all_cons]
   simp only[aw,bu]
   rw[ih]
   cases ok<;>rfl
 unfold cO
 rw[←hr]
 refine kB (xs:=a.aQ) (fun i (ok:Bool)=>(ok,(i:Int))) _ _ (fun i ok w hw=> ?_) (fun ok=> ?_) ok (cm h)
 ·have hi:=og hw
  simp only[pO,kS,get_ite,aE,aD,aC,aF,aL,aK,dh hi,bP hi,Int.toNat_natCast,hw,cond_true,aw,bI (Nat.lt_trans hi h),Cs]
  cases ok<;>rfl
 ·simp only[pO,kS,get_ite,aE,aD,aC,aF,aL,aK,dv,cond_false]
theorem D7 (a:bp) (hn:a.Name.length<4294967296) (hw:a.aQ.length<4294967296):uM fuel a=some (cL a):=by
 have s1: ∀(k f e s:Int) (nm:List UInt8) (fl m:Int) (b:bp),ct fuel (bp.mk k f e s nm fl m []) b=some (eJ b (bp.mk k f e s nm fl m [])):=fun k f e s nm fl m b=>by rw[tM _ _ (by simp),Bi]
 have s2: ∀(k f e s:Int) (nm:List UInt8) (fl m:Int) (b:bp),ct fuel (bp.mk k f e s nm fl m a.aQ) b=some (eJ b (bp.mk k f e s nm fl m a.aQ)):=fun k f e s nm fl m b=>by rw[tM (bp.mk k f e s nm fl m a.aQ) b hw,Bi]
 unfold uM rf
 try simp only[get_ite,aE,aD,aC,aF,aL,aK]
 rw[D4 _ hn]
 simp only[s1,s2,GA _ _ _ hw,Ik,aw]
 unfold cL want wE Jw
 by_cases k0:1≤a.Kind∧a.Kind≤5
 ·obtain⟨k1,k2⟩:=k0
  rw[decide_eq_false (show ¬a.Kind<1 by omega),decide_eq_false (show ¬a.Kind>5 by omega),cH.2 ⟨k1,k2⟩]
  by_cases f0:1≤a.bn∧a.bn≤3
  ·obtain⟨f1,f2⟩:=f0
   rw[decide_eq_false (show ¬a.bn<1 by omega),decide_eq_false (show ¬a.bn>3 by omega),cH.2 ⟨f1,f2⟩]
   cases oR 0 1073741824 a.aS<;>cases oR 1 1073741824 a.Seq<;>simp only[Bool.true_and,Bool.false_and,Bool.not_true,Bool.not_false,cond_true,cond_false]
   have hm:oR 1 2 a.Mode=(a.Mode==1||a.Mode==2):=by
    rw[Bool.eq_iff_iff,cH]
    simp
    omega
   have hf:oR 1 6 a.aX=(decide (a.aX≥1)&&decide (a.aX≤6)):=rfl
   rw[hm,hf]
   have hk:a.Kind=1∨a.Kind=2∨a.Kind=3∨a.Kind=4∨a.Kind=5:=by omega
   rcases hk with hk|hk|hk|hk|hk<;>rw[hk]<;>simp only[Int.reduceBEq,cond_true,cond_false,Bool.or_true,Bool.or_false,Bool.true_or,Bool.false_or,Bool.and_true,Bool.true_and,Bool.and_false,Bool.false_and]
   ·cases gl a.Name<;>rfl
   ·cases decide (a.aX≥1)<;>cases decide (a.aX≤6)<;>cases a.Mode==1<;>cases a.Mode==2<;>rfl
   ·cases decide (a.aX≥1)<;>cases decide (a.aX≤6)<;>cases decide ((a.aQ.length:Int)≤5)<;>cases decide ((a.aQ.length:Int)>0)<;>cases a.aQ.all bQ<;>rfl
   ·cases decide (a.aX≥1)<;>cases decide (a.aX≤6)<;>cases decide ((a.aQ.length:Int)≤5)<;>cases decide ((a.aQ.length:Int)>0)<;>cases a.aQ.all bQ<;>rfl
   ·cases decide (a.aX≥1)<;>cases decide (a.aX≤6)<;>rfl
  ·have hf:oR 1 3 a.bn=false:=by
    cases h:oR 1 3 a.bn with
    |false=>rfl
    |true=>exact absurd (cH.1 h) f0
   rw[hf]
   by_cases f1:a.bn<1
   ·rw[decide_eq_true f1];rfl
   ·rw[decide_eq_false f1,decide_eq_true (show a.bn>3 by omega)];rfl
 ·have hk:oR 1 5 a.Kind=false:=by
   cases h:oR 1 5 a.Kind with
   |false=>rfl
   |true=>exact absurd (cH.1 h) k0
  rw[hk]
  by_cases k1:a.Kind<1
  ·rw[decide_eq_true k1];rfl
  ·rw[decide_eq_false k1,decide_eq_true (show a.Kind>5 by omega)];rfl
open Go
def rM (v:Int) (k:Nat):UInt8:=b8 (qj (qX .i64 v (ay (8*(k:Int)))))
def be:Nat→Int→List UInt8
 |0,_=>[]
 |k+1,v=>rM v k::be k v
theorem dM: ∀(k:Nat) (v:Int),(be k v).length=k
 |0,_=>rfl
 |k+1,v=>by rw[be,List.length_cons,dM k v]
theorem JP (v:Int): ∀(i:Nat) (b:List UInt8) (n:Nat),i<n→i≤8→b.length+i≤dK→iter (sG v) n ((i:Int)-1,b)=some (b++be i v)
 |_,_,0,h,_,_=>absurd h (Nat.not_lt_zero _)
 |0,b,n+1,_,_,_=>by
  rw[bw]
  simp only[sG,nP,get_ite,aE,aD,aC,aF,aL,aK]
  rw[decide_eq_false (by omega)]
  show some b=some (b++[])
  rw[List.append_nil]
 |i+1,b,n+1,h,h8,hl=>by
  rw[bw]
  simp only[sG,nP,get_ite,aE,aD,aC,aF,aL,aK]
  have e:((i+1:Nat):Int)-1=(i:Int):=by omega
  rw[e,decide_eq_true (show(i:Int)≥0 by omega),bh (show-9223372036854775808≤8*(i:Int)by omega) (by omega),decide_eq_false (show ¬8*(i:Int)<0 by omega),decide_eq_true (show b.length+1≤dK by omega)]
  simp only[cond_true,cond_false,aw,bu]
  rw[bh (by omega) (by omega),JP v i _ n (by omega) (by omega) (by rw[List.length_append];simp only[List.length_cons,List.length_nil];omega),List.append_assoc]
  rw[show be (i+1) v=rM v i::be i v from rfl]
  unfold rM
  rw[bh (show-9223372036854775808≤8*(i:Int)by omega) (by omega)]
  rfl
theorem sH (b:List UInt8) (v:Int) (k:Nat) (h1:1≤k) (h8:k≤8) (hb:b.length+k≤dK):di fuel b v (k:Int)=some (b++be k v):=by
 unfold di rN DR
 try simp only[get_ite,aE,aD,aC,aF,aL,aK]
 rw[decide_eq_false (show ¬(k:Int)<1 by omega),decide_eq_false (show ¬(k:Int)>8 by omega),bh (by omega) (by omega)]
 simp only[cond_false]
 rw[JP v k b fuel (cm (by omega)) h8 hb]
 rfl
theorem xd (b:List UInt8) (v:Int) (k:Nat) (h1:1≤k) (h8:k≤8) (hb:b.length+k≤dK):gJ fuel b v (k:Int)=some (b++be k v):=by
 rw[←sH b v k h1 h8 hb]
 unfold gJ zO di rN
 try simp only[get_ite,aE,aD,aC,aF,aL,aK]
 rw[decide_eq_true (show b.length≤dK by omega)]
 rfl
theorem JR (b:List UInt8) (v:Int) (h:b.length+1≤dK):di fuel b v 1=some (b++be 1 v):=sH b v 1 (by omega) (by omega) h
theorem acZ (b:List UInt8) (v:Int) (h:b.length+2≤dK):di fuel b v 2=some (b++be 2 v):=sH b v 2 (by omega) (by omega) h
theorem Oo (b:List UInt8) (v:Int) (h:b.length+4≤dK):di fuel b v 4=some (b++be 4 v):=sH b v 4 (by omega) (by omega) h
theorem G7 (b:List UInt8) (v:Int) (h:b.length+1≤dK):gJ fuel b v 1=some (b++be 1 v):=xd b v 1 (by omega) (by omega) h
theorem Yn (b:List UInt8) (v:Int) (h:b.length+2≤dK):gJ fuel b v 2=some (b++be 2 v):=xd b v 2 (by omega) (by omega) h
theorem TQ (b:List UInt8) (v:Int) (h:b.length+4≤dK):gJ fuel b v 4=some (b++be 4 v):=xd b v 4 (by omega) (by omega) h
def PK (s:List UInt8):List UInt8:=b8 (s.length:Int) ::s
theorem jL (s:List UInt8):(PK s).length=s.length+1:=rfl
theorem HZ {n:Int} (h:0≤n) (h2:n<256):qj n=n:=by unfold qj;rw[IntKind.wrap_u8];omega
theorem we (b s:List UInt8) (hs:s.length≤255) (hb:b.length+256≤dK):ua b s=some (b++PK s):=by
 unfold ua sF
 try simp only[get_ite,aE,aD,aC,aF,aL,aK]
 rw[decide_eq_false (show ¬(s.length:Int)>255 by omega),decide_eq_true (show b.length+1≤dK by omega),HZ (by omega) (by omega),decide_eq_true (by rw[List.length_append];simp only[List.length_cons,List.length_nil];omega)]
 simp only[cond_true,cond_false,List.append_assoc]
 rfl
theorem Bj (b s:List UInt8) (hs:s.length≤255) (hb:b.length+256≤dK):yF b s=some (b++PK s):=by
 unfold yF xa
 try simp only[get_ite,aE,aD,aC,aF,aL,aK]
 rw[decide_eq_true (show b.length≤dK by omega),decide_eq_false (show ¬(s.length:Int)>255 by omega),decide_eq_true (show b.length+1≤dK by omega),HZ (by omega) (by omega),decide_eq_true (by rw[List.length_append];simp only[List.length_cons,List.length_nil];omega)]
 simp only[cond_true,cond_false,List.append_assoc]
 rfl
def tn (m:Nat):Nat:=if m%2=1 then(m/2)^^^40961 else m/2
theorem lh {m:Nat} (h:m<65536):tn m<65536:=by
 unfold tn
 split
 ·exact Nat.xor_lt_two_pow (n:=16) (by omega) (by omega)
 ·omega
theorem wrap_u16 (n:Int):IntKind.u16.wrap n=n%65536:=by simp[IntKind.wrap,IntKind.bits,IntKind.signed]
theorem Ld {x y:Nat} (hx:x<65536) (hy:y<65536):GP .u16 (x:Int) (y:Int)=((x^^^y:Nat):Int):=by
 unfold GP
 have h16:IntKind.u16.bits=16:=rfl
 rw[h16,BitVec.ofInt_natCast,BitVec.ofInt_natCast,BitVec.toNat_xor,BitVec.toNat_ofNat,BitVec.toNat_ofNat,Nat.mod_eq_of_lt (show x<2^16 by omega),Nat.mod_eq_of_lt (show y<2^16 by omega),wrap_u16]
 have:=Nat.xor_lt_two_pow (n:=16) (show x<2^16 by omega) (show y<2^16 by omega)
 omega
theorem Le {x y:Nat} (hx:x<65536) (hy:y<65536):GP .i64 (x:Int) (y:Int)=((x^^^y:Nat):Int):=by
 unfold GP
 have h64:IntKind.i64.bits=64:=rfl
 rw[h64,BitVec.ofInt_natCast,BitVec.ofInt_natCast,BitVec.toNat_xor,BitVec.toNat_ofNat,BitVec.toNat_ofNat,Nat.mod_eq_of_lt (show x<2^64 by omega),Nat.mod_eq_of_lt (show y<2^64 by omega)]
 have:=Nat.xor_lt_two_pow (n:=16) (show x<2^16 by omega) (show y<2^16 by omega)
 exact bh (by omega) (by omega)
theorem Rl {x:Nat} (hx:x<65536):Gh .u16 (x:Int) 1=((x%2:Nat):Int):=by
 unfold Gh
 have h16:IntKind.u16.bits=16:=rfl
 rw[h16,show(1:Int)=((1:Nat):Int)from rfl,BitVec.ofInt_natCast,BitVec.ofInt_natCast,BitVec.toNat_and,BitVec.toNat_ofNat,BitVec.toNat_ofNat,Nat.mod_eq_of_lt (show x<2^16 by omega),Nat.mod_eq_of_lt (show 1<2^16 by omega),wrap_u16,Nat.and_one_is_mod]
 omega
theorem RR (x:Nat):qX .u16 (x:Int) 1=((x/2:Nat):Int):=by
 unfold qX
 have:min (1:Int).toNat IntKind.u16.bits=1:=rfl
 rw[this]
 show(x:Int).fdiv 2=_
 rw[Int.fdiv_eq_ediv_of_nonneg _ (by omega)]
 omega
def qw (m:Nat) (u:UInt8):Nat:=tn (tn (tn (tn (tn (tn (tn (tn (m^^^u.toNat))))))))
def MQ (b:List UInt8):Nat:=b.foldl qw 0
theorem Lw {m:Nat} (h:m<65536) (u:UInt8):m^^^u.toNat<65536:=Nat.xor_lt_two_pow (n:=16) (by omega) (by have:=u.toNat_lt;omega)
theorem rJ {m:Nat} (h:m<65536) (u:UInt8):qw m u<65536:=lh (lh (lh (lh (lh (lh (lh (lh (Lw h u))))))))
theorem DQ: ∀(b:List UInt8) {m:Nat},m<65536→b.foldl qw m<65536
 |[],m,h=>h
 |u::r,m,h=>DQ r (rJ h u)
theorem Jb (b:List UInt8):MQ b<65536:=DQ b (by omega)
theorem US (t6:List UInt8) (t7 t8:Int) {m:Nat} (h:m<65536):AJ fuel t6 t7 t8 (m:Int) 0=some ((tn (tn (tn (tn (tn (tn (tn (tn m))))))):Nat):Int):=by
 have key: ∀(i:Nat) (m:Nat),m<65536→i<8→vR t6 t7 t8 ((m:Int),(i:Int))=some (.inl (((tn m:Nat):Int),((i+1:Nat):Int))):=by
  intro i m hm hi
  simp only[vR,yf,get_ite,aE,aD,aC,aF,aL,aK]
  rw[decide_eq_true (show(i:Int)<8 by omega),Rl hm,RR,bI (by omega)]
  unfold tn
  split
  ·rename_i ho
   rw[ho]
   have:=Ld (x:=m/2) (y:=40961) (by omega) (by omega)
   rw[show((40961:Nat):Int)=40961 from rfl]at this
   rw[this]
   rfl
  ·rename_i ho
   have:m%2=0:=by omega
   rw[this]
   rfl
 have last: ∀m:Nat,vR t6 t7 t8 ((m:Int),((8:Nat):Int))=some (.inr (m:Int)):=fun m=>rfl
 unfold AJ
 obtain⟨n,hn⟩: ∃n,fuel=n+9:=⟨4294967287,by rw[nH]⟩
 rw[hn]
 have h0:=h
 have h1:=lh h0
 have h2:=lh h1
 have h3:=lh h2
 have h4:=lh h3
 have h5:=lh h4
 have h6:=lh h5
 have h7:=lh h6
 rw[show(0:Int)=((0:Nat):Int)from rfl,bw,key 0 _ h0 (by omega),aw,bu,bw,key 1 _ h1 (by omega),aw,bu,bw,key 2 _ h2 (by omega),aw,bu,bw,key 3 _ h3 (by omega),aw,bu,
  bw,key 4 _ h4 (by omega),aw,bu,bw,key 5 _ h5 (by omega),aw,bu,bw,key 6 _ h6 (by omega),aw,bu,bw,key 7 _ h7 (by omega),aw,bu,bw,last]
 rfl
theorem UR (b:List UInt8) (i:Int) {m:Nat} (h:m<65536):xf fuel b i (m:Int) 0=some ((tn (tn (tn (tn (tn (tn (tn (tn m))))))):Nat):Int):=by
 have key: ∀(k:Nat) (m:Nat),m<65536→k<8→sg b i ((m:Int),(k:Int))=some (.inl (((tn m:Nat):Int),((k+1:Nat):Int))):=by
  intro k m hm hi
  simp only[sg,uK,get_ite,aE,aD,aC,aF,aL,aK]
  have e1:(m:Int).tmod 2=((m%2:Nat):Int):=by rw[Int.tmod_eq_emod_of_nonneg (by omega)];omega
  have e2:ay ((m:Int).tdiv 2)=((m/2:Nat):Int):=by rw[Int.tdiv_eq_ediv_of_nonneg (by omega),bh (by omega) (by omega)];omega
  rw[decide_eq_true (show(k:Int)<8 by omega),e1,e2,bI (by omega)]
  unfold tn
  split
  ·rename_i ho
   rw[ho]
   have:=Le (x:=m/2) (y:=40961) (by omega) (by omega)
   rw[show((40961:Nat):Int)=40961 from rfl]at this
   rw[this]
   rfl
  ·rename_i ho
   have:m%2=0:=by omega
   rw[this]
   rfl
 have last: ∀m:Nat,sg b i ((m:Int),((8:Nat):Int))=some (.inr (m:Int)):=fun m=>rfl
 unfold xf
 obtain⟨n,hn⟩: ∃n,fuel=n+9:=⟨4294967287,by rw[nH]⟩
 rw[hn]
 have h0:=h
 have h1:=lh h0
 have h2:=lh h1
 have h3:=lh h2
 have h4:=lh h3
 have h5:=lh h4
 have h6:=lh h5
 have h7:=lh h6
 rw[show(0:Int)=((0:Nat):Int)from rfl,bw,key 0 _ h0 (by omega),aw,bu,bw,key 1 _ h1 (by omega),aw,bu,bw,key 2 _ h2 (by omega),aw,bu,bw,key 3 _ h3 (by omega),aw,bu,
  bw,key 4 _ h4 (by omega),aw,bu,bw,key 5 _ h5 (by omega),aw,bu,bw,key 6 _ h6 (by omega),aw,bu,bw,key 7 _ h7 (by omega),aw,bu,bw,last]
 rfl
theorem MP (b:List UInt8) (hb:b.length<4294967296):Ja fuel b=some ((MQ b:Nat):Int):=by
 have hl:AI fuel b (b.length:Int) 0 0=some ((MQ b:Nat):Int):=by
  unfold AI
  have:=kB (xs:=b) (step:=vQ fuel b (b.length:Int)) (fun i (m:{m:Nat//m<65536})=>((m.1:Int),(i:Int))) (fun u m=>some (.inl ⟨qw m.1 u,rJ m.2 u⟩)) (fun m=>(m.1:Int)) (fun i m u hu=> ?_) (fun m=> ?_) ⟨0,by omega⟩ (cm hb)
  ·rw[show((0:Int),(0:Int))=((((⟨0,by omega⟩:{m:Nat//m<65536}).1:Nat):Int),((0:Nat):Int))from rfl,this]
   have gen: ∀(l:List UInt8) (m:{m:Nat//m<65536}),D2 (X:=Int) (fun u m=>some (.inl ⟨qw m.1 u,rJ m.2 u⟩)) (fun m=>(m.1:Int)) l m=some ((l.foldl qw m.1:Nat):Int):=by
    intro l
    induction l with
    |nil=>intro m;rfl
    |cons u r ih=>intro m;rw[D2,aw,bu,ih];rfl
   exact gen b _
  ·have hi:=og hu
   simp only[vQ,sE,get_ite,aE,aD,aC,aF,aL,aK,dh hi,bP hi,Int.toNat_natCast,hu,cond_true,aw,bI (Nat.lt_trans hi hb)]
   have e:GP .u16 (m.1:Int) (NS (i8 u))=((m.1^^^u.toNat:Nat):Int):=by
    have hw:NS (i8 u)=((u.toNat:Nat):Int):=by
     unfold NS;rw[wrap_u16]
     have h1:=Hu u;have h2:=Hv u
     show i8 u%65536=i8 u
     omega
    rw[hw]
    exact Ld m.2 (by have:=u.toNat_lt;omega)
   rw[e,US _ _ _ (Lw m.2 u)]
   rfl
  ·simp only[vQ,sE,get_ite,aE,aD,aC,aF,aL,aK,dv,cond_false]
 unfold Ja C4
 try simp only[get_ite,aE,aD,aC,aF,aL,aK]
 rw[hl]
 rfl
theorem JN (b:List UInt8) (hb:b.length<4294967296):EY fuel b=some ((MQ b:Nat):Int):=by
 have hl:xe fuel b 0 0=some ((MQ b:Nat):Int):=by
  unfold xe
  have:=kB (xs:=b) (step:=sf fuel b) (fun i (m:{m:Nat//m<65536})=>((m.1:Int),(i:Int))) (fun u m=>some (.inl ⟨qw m.1 u,rJ m.2 u⟩)) (fun m=>(m.1:Int)) (fun i m u hu=> ?_) (fun m=> ?_) ⟨0,by omega⟩ (cm hb)
  ·rw[show((0:Int),(0:Int))=((((⟨0,by omega⟩:{m:Nat//m<65536}).1:Nat):Int),((0:Nat):Int))from rfl,this]
   have gen: ∀(l:List UInt8) (m:{m:Nat//m<65536}),D2 (X:=Int) (fun u m=>some (.inl ⟨qw m.1 u,rJ m.2 u⟩)) (fun m=>(m.1:Int)) l m=some ((l.foldl qw m.1:Nat):Int):=by
    intro l
    induction l with
    |nil=>intro m;rfl
    |cons u r ih=>intro m;rw[D2,aw,bu,ih];rfl
   exact gen b _
  ·have hi:=og hu
   simp only[sf,qn,get_ite,aE,aD,aC,aF,aL,aK,dh hi,bP hi,Int.toNat_natCast,hu,cond_true,aw,bI (Nat.lt_trans hi hb)]
   have e:GP .i64 (m.1:Int) (ay (i8 u))=((m.1^^^u.toNat:Nat):Int):=by
    have hw:ay (i8 u)=((u.toNat:Nat):Int):=by
     have h1:=Hu u;have h2:=Hv u
     rw[bh (by omega) (by omega)]
    rw[hw]
    exact Le m.2 (by have:=u.toNat_lt;omega)
   rw[e,UR _ _ (Lw m.2 u)]
   rfl
  ·simp only[sf,qn,get_ite,aE,aD,aC,aF,aL,aK,dv,cond_false]
 unfold EY zP
 try simp only[get_ite,aE,aD,aC,aF,aL,aK]
 rw[hl,aw]
 have:=Jb b
 unfold NS
 rw[wrap_u16]
 congr 1
 omega
def JI (b:List UInt8):List UInt8:=b++be 2 (MQ b:Int)
theorem GH (b:List UInt8) (hb:b.length+2≤dK):zY fuel b=some (JI b):=by
 unfold zY uT
 try simp only[get_ite,aE,aD,aC,aF,aL,aK]
 have h:=Jb b
 rw[MP b (by have:dK=2147483648:=rfl;omega),aw,bh (by omega) (by omega),acZ _ _ hb]
 rfl
theorem D5 (b:List UInt8) (hb:b.length+2≤dK):uL fuel b=some (JI b):=by
 unfold uL rb
 try simp only[get_ite,aE,aD,aC,aF,aL,aK]
 have h:=Jb b
 rw[JN b (by have:dK=2147483648:=rfl;omega),aw,bh (by omega) (by omega),Yn _ _ hb]
 rfl
open Go
theorem cq:dK=2147483648:=rfl
def VB (w:aY):List UInt8:=be 1 w.nS++PK w.B
def GR (l:List aY):List UInt8:=(l.map VB).flatten
def yI (a:bp):List UInt8:=be 1 a.Kind++(be 1 a.bn++(be 4 a.aS++(be 4 a.Seq++(PK a.Name++(be 1 a.aX++(be 1 a.Mode++be 1 (a.aQ.length:Int)))))))
def mi (a:bp):List UInt8:=yI a++GR a.aQ
def eY (a:bp):List UInt8:=bif cL a then JI (mi a)else[]
theorem jg {w:aY}:bQ w=true↔0≤w.nS∧1≤(w.B.length:Int)∧(w.B.length:Int)≤24∧w.nS≤24-(w.B.length:Int):=by
 unfold bQ vD
 try simp only[get_ite,aE,aD,aC,aF,aL,aK]
 by_cases h1:w.nS≥0<;>by_cases h2:(w.B.length:Int)≥1<;>by_cases h3:(w.B.length:Int)≤24<;>simp only[h1,h2,h3,decide_true,decide_false,cond_true,cond_false,id]
 ·rw[bh (by omega) (by omega)]
  simp
 all_goals (simp<;>omega)
theorem xv {s:List UInt8}:gl s=true→1≤s.length∧s.length≤8:=by
 intro h
 simp[gl]at h
 omega
theorem fv {a:bp} (h:cL a=true):(1≤a.Kind∧a.Kind≤5)∧(1≤a.bn∧a.bn≤3)∧(0≤a.aS∧a.aS≤1073741824)∧(1≤a.Seq∧a.Seq≤1073741824)∧a.Name.length≤8∧(0≤a.aX∧a.aX≤6)∧(0≤a.Mode∧a.Mode≤2)∧a.aQ.length≤5∧ ∀w∈a.aQ,bQ w=true:=by
 unfold cL at h
 simp only[Bool.and_eq_true]at h
 obtain⟨h1,h2,h3,h4,h5,h6⟩:=h
 rw[cH]at h1 h2 h3 h4
 refine⟨h1,h2,h3,h4,?_⟩
 have h6:=(pd _ _).1 h6
 unfold want at h6
 unfold wE at h5
 cases k1:a.Kind==1 with
 |true=>
  rw[k1]at h6 h5
  simp only[cond_true]at h6 h5
  have:=xv h5
  rw[h6]
  simp
  omega
 |false=>
  rw[k1]at h6 h5
  simp only[cond_false]at h6 h5
  cases k2:a.Kind==2 with
  |true=>
   rw[k2]at h6 h5
   simp only[cond_true,Bool.and_eq_true,cH]at h6 h5
   rw[h6]
   simp
   omega
  |false=>
   rw[k2]at h6 h5
   simp only[cond_false]at h6 h5
   cases k3:Jw a with
   |true=>
    rw[k3]at h6 h5
    simp only[cond_true,Bool.and_eq_true,cH,decide_eq_true_eq]at h6 h5
    obtain⟨g1,g2,g3,g4⟩:=h5
    have e1:a.Name=[]:=by rw[h6]
    have e2:a.Mode=0:=by rw[h6]
    refine⟨by rw[e1];simp,by omega,by omega,by omega,fun w hw=> ?_⟩
    rw[List.all_eq_true]at g4
    exact g4 w hw
   |false=>
    rw[k3]at h6 h5
    simp only[cond_false,cH]at h6 h5
    have e1:a.Name=[]:=by rw[h6]
    have e2:a.Mode=0:=by rw[h6]
    have e3:a.aQ=[]:=by rw[h6]
    refine⟨by rw[e1];simp,by omega,by omega,by rw[e3];simp,fun w hw=> ?_⟩
    rw[e3]at hw;cases hw
theorem RF (w:aY):(VB w).length=2+w.B.length:=by unfold VB;rw[List.length_append,dM,jL];omega
theorem M5: ∀l:List aY,(∀w∈l,bQ w=true)→(GR l).length≤26*l.length
 |[],_=>by simp[GR]
 |w::r,h=>by
  have h1:=M5 r (fun x hx=>h x (by simp[hx]))
  have h2:=jg.1 (h w (by simp))
  have h3:=RF w
  simp only[GR,List.map_cons,List.flatten_cons,List.length_append,List.length_cons]at h1⊢
  omega
theorem Kw (a:bp):(yI a).length=14+a.Name.length:=by
 unfold yI
 simp only[List.length_append,dM,jL]
 omega
theorem yk {a:bp} (h:cL a=true):(mi a).length≤160:=by
 obtain⟨_,_,_,_,h5,_,_,h8,h9⟩:=fv h
 have h1:=M5 a.aQ h9
 have h2:=Kw a
 unfold mi
 rw[List.length_append]
 omega
theorem LX (a:bp) (b:List UInt8) (hw: ∀w∈a.aQ,bQ w=true) (hl:a.aQ.length≤5) (hb:b.length≤1000):
  zi fuel a.aQ (a.aQ.length:Int) a b 0=some (b++GR a.aQ):=by
 have key: ∀(r:List aY) (i:Nat) (b:List UInt8) (n:Nat),a.aQ.drop i=r→i≤a.aQ.length→r.length<n→b.length+26*r.length≤2000→iter (oT fuel a.aQ (a.aQ.length:Int) a) n (b,(i:Int))=some (b++GR r):=by
  intro r
  induction r with
  |nil=>
   intro i b n hd hi hn hb
   have:i=a.aQ.length:=Nat.le_antisymm hi (List.drop_eq_nil_iff.1 hd)
   subst this
   cases n with
   |zero=>exact absurd hn (Nat.not_lt_zero _)
   |succ n=>
    rw[bw]
    simp only[oT,ny,get_ite,aE,aD,aC,aF,aL,aK,dv,cond_false,aw,fi,GR,List.map_nil,List.flatten_nil,List.append_nil]
  |cons w r ih=>
   intro i b n hd hi hn hb
   have hlt:i<a.aQ.length:=by
    rcases Nat.lt_or_ge i a.aQ.length with h|h
    ·exact h
    ·rw[List.drop_eq_nil_iff.2 h]at hd;cases hd
   have ha:a.aQ[i]? =some w:=by
    have:=List.getElem?_drop (xs:=a.aQ) (i:=i) (j:=0)
    rw[hd]at this
    simpa using this.symm
   have hr:a.aQ.drop (i+1)=r:=by
    have:=List.drop_drop (l:=a.aQ) (i:=1) (j:=i)
    rw[hd]at this
    simpa using this.symm
   have hwm:=jg.1 (hw w (List.mem_of_getElem? ha))
   cases n with
   |zero=>exact absurd hn (Nat.not_lt_zero _)
   |succ n=>
    simp only[List.length_cons]at hb hn
    rw[bw]
    simp only[oT,ny,get_ite,aE,aD,aC,aF,aL,aK,dh hlt,bP hlt,Int.toNat_natCast,ha,cond_true,aw]
    rw[JR _ _ (by rw[cq];omega),aw,we _ _ (by omega) (by rw[cq,List.length_append,dM];omega),aw,bI (by omega),aw,bu,
     ih (i+1) _ n hr hlt (by omega) (by simp only[List.length_append,dM,jL];omega)]
    simp only[GR,List.map_cons,List.flatten_cons,VB,List.append_assoc]
 exact key a.aQ 0 b fuel rfl (Nat.zero_le _) (cm (by omega)) (by omega)
theorem JJ (a:bp) (b:List UInt8) (hw: ∀w∈a.aQ,bQ w=true) (hl:a.aQ.length≤5) (hb:b.length≤1000):
  wm fuel a b 0=some (b++GR a.aQ):=by
 have key: ∀(r:List aY) (i:Nat) (b:List UInt8) (n:Nat),a.aQ.drop i=r→i≤a.aQ.length→r.length<n→b.length+26*r.length≤2000→iter (l9 fuel a) n (b,(i:Int))=some (b++GR r):=by
  intro r
  induction r with
  |nil=>
   intro i b n hd hi hn hb
   have:i=a.aQ.length:=Nat.le_antisymm hi (List.drop_eq_nil_iff.1 hd)
   subst this
   cases n with
   |zero=>exact absurd hn (Nat.not_lt_zero _)
   |succ n=>
    rw[bw]
    simp only[l9,kR,get_ite,aE,aD,aC,aF,aL,aK,dv,cond_false,aw,fi,GR,List.map_nil,List.flatten_nil,List.append_nil]
  |cons w r ih=>
   intro i b n hd hi hn hb
   have hlt:i<a.aQ.length:=by
    rcases Nat.lt_or_ge i a.aQ.length with h|h
    ·exact h
    ·rw[List.drop_eq_nil_iff.2 h]at hd;cases hd
   have ha:a.aQ[i]? =some w:=by
    have:=List.getElem?_drop (xs:=a.aQ) (i:=i) (j:=0)
    rw[hd]at this
    simpa using this.symm
   have hr:a.aQ.drop (i+1)=r:=by
    have:=List.drop_drop (l:=a.aQ) (i:=1) (j:=i)
    rw[hd]at this
    simpa using this.symm
   have hwm:=jg.1 (hw w (List.mem_of_getElem? ha))
   cases n with
   |zero=>exact absurd hn (Nat.not_lt_zero _)
   |succ n=>
    simp only[List.length_cons]at hb hn
    rw[bw]
    simp only[l9,kR,get_ite,aE,aD,aC,aF,aL,aK,dh hlt,bP hlt,Int.toNat_natCast,ha,cond_true,aw]
    rw[G7 _ _ (by rw[cq];omega),aw,Bj _ _ (by omega) (by rw[cq,List.length_append,dM];omega),aw,bI (by omega),aw,bu,
     ih (i+1) _ n hr hlt (by omega) (by simp only[List.length_append,dM,jL];omega)]
    simp only[GR,List.map_cons,List.flatten_cons,VB,List.append_assoc]
 exact key a.aQ 0 b fuel rfl (Nat.zero_le _) (cm (by omega)) (by omega)
theorem GI (a:bp) (hn:a.Name.length<4294967296) (hw:a.aQ.length<4294967296):z6 fuel a=some (eY a):=by
 unfold z6 uU eY
 try simp only[get_ite,aE,aD,aC,aF,aL,aK]
 rw[GJ a hn hw,aw]
 cases h:cL a with
 |false=>rfl
 |true=>
  obtain⟨_,_,_,_,h5,_,_,h8,h9⟩:=fv h
  simp only[Bool.not_true,cond_false,cond_true]
  rw[JR _ _ (by rw[cq];simp),aw,JR _ _ (by rw[cq];simp only[List.length_append,List.length_nil,dM];omega),aw,Oo _ _ (by rw[cq];simp only[List.length_append,List.length_nil,dM];omega),aw,Oo _ _ (by rw[cq];simp only[List.length_append,List.length_nil,dM];omega),aw,
   we _ _ (by omega) (by rw[cq];simp only[List.length_append,List.length_nil,dM];omega),aw,JR _ _ (by rw[cq];simp only[List.length_append,List.length_nil,dM,jL];omega),aw,JR _ _ (by rw[cq];simp only[List.length_append,List.length_nil,dM,jL];omega),aw,
   JR _ _ (by rw[cq];simp only[List.length_append,List.length_nil,dM,jL];omega),aw,LX a _ h9 h8 (by simp only[List.length_append,List.length_nil,dM,jL];omega),aw]
  have e:(((((((([]++be 1 a.Kind)++be 1 a.bn)++be 4 a.aS)++be 4 a.Seq)++PK a.Name)++be 1 a.aX)++be 1 a.Mode)++be 1 (a.aQ.length:Int))++GR a.aQ=mi a:=by
   simp only[mi,yI,List.nil_append,List.append_assoc]
  rw[e,GH _ (by have:=yk h;rw[cq];omega),aw]
theorem D6 (a:bp) (hn:a.Name.length<4294967296) (hw:a.aQ.length<4294967296):a8 fuel a=some (eY a):=by
 unfold a8 re eY
 try simp only[get_ite,aE,aD,aC,aF,aL,aK]
 rw[D7 a hn hw,aw]
 cases h:cL a with
 |false=>rfl
 |true=>
  obtain⟨_,_,_,_,h5,_,_,h8,h9⟩:=fv h
  simp only[Bool.not_true,cond_false,cond_true]
  rw[G7 _ _ (by rw[cq];simp),aw,G7 _ _ (by rw[cq];simp only[List.length_append,List.length_nil,dM];omega),aw,TQ _ _ (by rw[cq];simp only[List.length_append,List.length_nil,dM];omega),aw,TQ _ _ (by rw[cq];simp only[List.length_append,List.length_nil,dM];omega),aw,
   Bj _ _ (by omega) (by rw[cq];simp only[List.length_append,List.length_nil,dM];omega),aw,G7 _ _ (by rw[cq];simp only[List.length_append,List.length_nil,dM,jL];omega),aw,G7 _ _ (by rw[cq];simp only[List.length_append,List.length_nil,dM,jL];omega),aw,
   G7 _ _ (by rw[cq];simp only[List.length_append,List.length_nil,dM,jL];omega),aw,JJ a _ h9 h8 (by simp only[List.length_append,List.length_nil,dM,jL];omega),aw]
  have e:(((((((([]++be 1 a.Kind)++be 1 a.bn)++be 4 a.aS)++be 4 a.Seq)++PK a.Name)++be 1 a.aX)++be 1 a.Mode)++be 1 (a.aQ.length:Int))++GR a.aQ=mi a:=by
   simp only[mi,yI,List.nil_append,List.append_assoc]
  rw[e,D5 _ (by have:=yk h;rw[cq];omega),aw]
open Go
def val (l:List UInt8):Int:=l.foldl (fun v x=>v*256+i8 x) 0
def num (k:Nat) (b:List UInt8):Option (Int×List UInt8):=if b.length<k then none else some (val (b.take k),b.drop k)
theorem SK {v x:Nat} (hv:v<36028797018963968) (hx:x<256):bor .i64 (PT .i64 (v:Int) 8) (x:Int)=(v:Int)*256+(x:Int):=by
 have h1:PT .i64 (v:Int) 8=((v<<<8:Nat):Int):=by
  unfold PT
  have:min (8:Int).toNat IntKind.i64.bits=8:=rfl
  rw[this,Nat.shiftLeft_eq]
  show ay ((v:Int)*2^8)=_
  rw[bh (by omega) (by omega)]
  omega
 rw[h1]
 unfold bor
 have h64:IntKind.i64.bits=64:=rfl
 have hs:v<<<8<2^64:=by rw[Nat.shiftLeft_eq];omega
 rw[h64,BitVec.ofInt_natCast,BitVec.ofInt_natCast,BitVec.toNat_or,BitVec.toNat_ofNat,BitVec.toNat_ofNat,Nat.mod_eq_of_lt hs,Nat.mod_eq_of_lt (show x<2^64 by omega),←Nat.shiftLeft_add_eq_or_of_lt (show x<2^8 by omega),Nat.shiftLeft_eq]
 show ay _=_
 rw[bh (by omega) (by omega)]
 omega
theorem PF (v:Int) (x:UInt8) (h0:0≤v) (h1:v<36028797018963968):bor .i64 (PT .i64 v 8) (ay (i8 x))=v*256+i8 x:=by
 have e:=SK (v:=v.toNat) (x:=x.toNat) (by omega) x.toNat_lt
 have hx0:=Hu x
 have hx1:=Hv x
 rw[bh (by omega) (by omega)]
 have e1:((v.toNat:Nat):Int)=v:=by omega
 rw[e1]at e
 exact e
theorem Ao: ∀(l:List UInt8) (v:Int),0≤v→0≤l.foldl (fun v x=>v*256+i8 x) v∧l.foldl (fun v x=>v*256+i8 x) v<(v+1)*256^l.length
 |[],v,h=>by simp;omega
 |x::r,v,h=>by
  have h1:=Hu x
  have h2:=Hv x
  obtain⟨g1,g2⟩:=Ao r (v*256+i8 x) (by omega)
  refine⟨g1,?_⟩
  have h3:(v*256+i8 x+1)≤(v+1)*256:=by omega
  have h4:(0:Int)≤256^r.length:=by have:(0:Int)<256^r.length:=Int.pow_pos (by omega);omega
  have h5:=Int.mul_le_mul_of_nonneg_right h3 h4
  have h6:(v+1)*256^(x::r).length=(v+1)*256*256^r.length:=by rw[List.length_cons,Int.pow_succ,Int.mul_assoc,Int.mul_comm (256^r.length) 256]
  rw[h6]
  exact Int.lt_of_lt_of_le g2 h5
theorem PG (l:List UInt8):0≤val l:=(Ao l 0 (Int.le_refl _)).1
theorem PH (l:List UInt8):val l<256^l.length:=by have:=(Ao l 0 (Int.le_refl _)).2;rw[Int.zero_add,Int.one_mul]at this;exact this
theorem R1 {k:Nat} (h:k≤6):(256:Int)^k≤281474976710656:=by
 have:k=0∨k=1∨k=2∨k=3∨k=4∨k=5∨k=6:=by omega
 rcases this with rfl|rfl|rfl|rfl|rfl|rfl|rfl<;>decide
theorem N8 (l:List UInt8) (ok:Bool) (h7:l.length≤7):B6 fuel l (l.length:Int) ok 0 0=some (val l):=by
 have key: ∀(r p:List UInt8) (n:Nat),l=p++r→r.length<n→iter (qx l (l.length:Int) ok) n (val p,(p.length:Int))=some (val l):=by
  intro r
  induction r with
  |nil=>
   intro p n hp hn
   rw[List.append_nil]at hp
   subst hp
   cases n with
   |zero=>exact absurd hn (Nat.not_lt_zero _)
   |succ n=>
    rw[bw]
    simp only[qx,oY,get_ite,aE,aD,aC,aF,aL,aK,dv,cond_false,aw,fi]
  |cons x r ih=>
   intro p n hp hn
   have hlt:p.length<l.length:=by rw[hp];simp
   have hx:l[p.length]? =some x:=by rw[hp];simp
   cases n with
   |zero=>exact absurd hn (Nat.not_lt_zero _)
   |succ n=>
    rw[bw]
    simp only[qx,oY,get_ite,aE,aD,aC,aF,aL,aK,dh hlt,bP hlt,Int.toNat_natCast,hx,cond_true,aw,bu]
    have hb:=PH p
    have hp6:=R1 (k:=p.length) (by omega)
    rw[PF _ _ (PG p) (by omega),bI (by omega)]
    have e:val p*256+i8 x=val (p++[x]):=by unfold val;rw[List.foldl_append];rfl
    have e2:((p.length+1:Nat):Int)=((p++[x]).length:Int):=by simp
    rw[e,e2]
    exact ih (p++[x]) n (by rw[hp];simp) (by simp at hn;omega)
 exact key l [] fuel rfl (cm (by omega))
theorem e9 {lo hi:Int} {n:Nat} (h1:0≤lo) (h2:lo≤hi) (h3:hi≤n):kJ lo hi n=true:=by
 unfold kJ;simp[h1,h2,h3]
theorem mW {α:Type} (b:List α) (k:Nat):eo b 0 (k:Int)=b.take k:=by
 unfold eo;simp
theorem pz {α:Type} (b:List α) (k:Nat):eo b (k:Int) (b.length:Int)=b.drop k:=by
 unfold eo;simp
theorem zv (b:List UInt8) (k:Nat):v8 b (k:Int)=some (if b.length<k then .inr ()else .inl (b.take k)):=by
 unfold v8 v7
 try simp only[get_ite,aE,aD,aC,aF,aL,aK]
 by_cases h:b.length<k
 ·rw[decide_eq_true (show(b.length:Int)<k by omega),if_pos h];rfl
 ·rw[decide_eq_false (show ¬(b.length:Int)<k by omega),if_neg h,e9 (by omega) (by omega) (by omega),mW];rfl
theorem wg (b:List UInt8) (k:Nat) (h1:1≤k) (h7:k≤7):ub fuel b (k:Int)=some (match num k b with|some (v,_)=>(v,true)|none=>(0,false)):=by
 unfold ub yl
 try simp only[get_ite,aE,aD,aC,aF,aL,aK]
 rw[decide_eq_false (show ¬(k:Int)<1 by omega),decide_eq_false (show ¬(k:Int)>7 by omega),zv]
 unfold num
 by_cases h:b.length<k
 ·rw[if_pos h,if_pos h];rfl
 ·have hl:(b.take k).length=k:=by rw[List.length_take];omega
  rw[if_neg h,if_neg h]
  simp only[cond_false,aw,bu]
  rw[N8 _ _ (by omega)]
  rfl
theorem zf (b:List UInt8) (k:Nat) (h1:1≤k) (h7:k≤7):dg fuel (k:Int) ⟨b⟩=some (match num k b with|some (v,r)=> .inl (v,⟨r⟩)|none=> .inr ()):=by
 unfold dg ox
 try simp only[get_ite,aE,aD,aC,aF,aL,aK]
 rw[wg b k h1 h7]
 unfold num
 by_cases h:b.length<k
 ·rw[if_pos h];rfl
 ·rw[if_neg h]
  simp only[aw,Bool.not_true,cond_false]
  rw[e9 (by omega) (by omega) (by omega),pz]
  rfl
def text:List UInt8→Option (List UInt8×List UInt8)
 |[]=>none
 |x::r=>if r.length<x.toNat then none else some (r.take x.toNat,r.drop x.toNat)
theorem Cj (x:UInt8) (r:List UInt8):text (x::r)=if r.length<x.toNat then none else some (r.take x.toNat,r.drop x.toNat):=rfl
theorem AY (b:List UInt8) (hb:b.length≤dK):oZ b=some (match text b with|some (s,_)=>(s,(s.length:Int)+1,true)|none=>([],0,false)):=by
 unfold oZ pX
 try simp only[get_ite,aE,aD,aC,aF,aL,aK]
 have h1:=zv b 1
 rw[show((1:Nat):Int)=1 from rfl]at h1
 rw[h1]
 cases b with
 |nil=>rfl
 |cons x r=>
  have hx0:=Hu x
  have hx1:=Hv x
  rw[if_neg (by simp)]
  simp only[aw,bu]
  have h2:cN 0 ((x::r).take 1).length=true:=fO (by omega) (by simp)
  have h3:((x::r).take 1)[0]? =some x:=rfl
  rw[h2,h3]
  simp only[cond_true,aw]
  rw[bh (show-9223372036854775808≤i8 x by omega) (by omega),bh (show-9223372036854775808≤i8 x+1 by omega) (by omega)]
  rw[Cj]
  by_cases h:r.length<x.toNat
  ·rw[if_pos h,decide_eq_true (by rw[List.length_cons];show((r.length+1:Nat):Int)<((x.toNat:Nat):Int)+1;omega)];rfl
  ·have e:eo (x::r) 1 (i8 x+1)=r.take x.toNat:=by
    unfold eo
    have:(i8 x+1).toNat=x.toNat+1:=by unfold i8;omega
    rw[this]
    simp
   rw[if_neg h,decide_eq_false (by rw[List.length_cons];show ¬((r.length+1:Nat):Int)<((x.toNat:Nat):Int)+1;omega),e9 (by omega) (by omega) (by rw[List.length_cons];show((x.toNat:Nat):Int)+1≤((r.length+1:Nat):Int);omega),e]
   have e2:((r.take x.toNat).length:Int)=i8 x:=by rw[List.length_take];unfold i8;omega
   simp only[cond_false,cond_true,e2]
theorem zC {b s r:List UInt8} (h:text b=some (s,r)):s.length≤255∧s.length+1≤b.length∧r=b.drop (s.length+1):=by
 cases b with
 |nil=>cases h
 |cons x t=>
  rw[Cj]at h
  have hx:=x.toNat_lt
  by_cases hl:t.length<x.toNat
  ·rw[if_pos hl]at h;cases h
  ·rw[if_neg hl]at h
   cases h
   have e:(t.take x.toNat).length=x.toNat:=by rw[List.length_take];omega
   refine⟨by omega,by rw[List.length_cons];omega,by rw[e];rfl⟩
theorem xh (b:List UInt8) (hb:b.length≤dK):ma ⟨b⟩=some (match text b with|some (s,r)=> .inl (s,⟨r⟩)|none=> .inr ()):=by
 unfold ma nw
 try simp only[get_ite,aE,aD,aC,aF,aL,aK]
 rw[AY b hb]
 cases h:text b with
 |none=>rfl
 |some p=>
  obtain⟨s,r⟩:=p
  obtain⟨h1,h2,h3⟩:=zC h
  simp only[aw,Bool.not_true,cond_false]
  rw[e9 (by omega) (by omega) (by omega)]
  have:=pz b (s.length+1)
  rw[show((s.length+1:Nat):Int)=(s.length:Int)+1 by omega]at this
  rw[this,h3]
  rfl
open Go
def kU:Nat→List UInt8→List aY→Option (List aY×List UInt8)
 |0,b,l=>some (l,b)
 |n+1,b,l=>(num 1 b).bind fun o=>(text o.2).bind fun t=>kU n t.2 (l++[⟨o.1,t.1⟩])
def GD (b:List UInt8):Option (bp×List UInt8):=
 (num 1 b).bind fun k=>(num 1 k.2).bind fun f=>(num 4 f.2).bind fun e=>(num 4 e.2).bind fun s=>(text s.2).bind fun nm=>(num 1 nm.2).bind fun fl=>(num 1 fl.2).bind fun m=>(num 1 m.2).bind fun n=>
  (kU n.1.toNat n.2 []).bind fun w=>some (⟨k.1,f.1,e.1,s.1,nm.1,fl.1,m.1,w.1⟩,w.2)
theorem eT {k:Nat} {b:List UInt8} {v:Int} {r:List UInt8} (h:num k b=some (v,r)):r.length+k=b.length∧0≤v∧v<256^k∧v=val (b.take k)∧r=b.drop k:=by
 unfold num at h
 by_cases hl:b.length<k
 ·rw[if_pos hl]at h;cases h
 ·rw[if_neg hl]at h
  cases h
  have e:(b.take k).length=k:=by rw[List.length_take];omega
  have:=PH (b.take k)
  rw[e]at this
  exact⟨by rw[List.length_drop];omega,PG _,this,rfl,rfl⟩
theorem H8 {b s r:List UInt8} (h:text b=some (s,r)):r.length+s.length+1=b.length:=by
 obtain⟨h1,h2,h3⟩:=zC h
 rw[h3,List.length_drop];omega
theorem VD (b:List UInt8):dg fuel 1 ⟨b⟩=some (match num 1 b with|some (v,r)=> .inl (v,⟨r⟩)|none=> .inr ()):=zf b 1 (by omega) (by omega)
theorem rd4 (b:List UInt8):dg fuel 4 ⟨b⟩=some (match num 4 b with|some (v,r)=> .inl (v,⟨r⟩)|none=> .inr ()):=zf b 4 (by omega) (by omega)
def RH (o:Option (List aY×List UInt8)) (a:bp) (s:(cn×bp) ⊕ ((cn×bp×aY) ⊕ (cn×bp))):Prop:=
 match o with
 |some (l,r)=>s= .inr (.inr (⟨r⟩,⟨a.Kind,a.bn,a.aS,a.Seq,a.Name,a.aX,a.Mode,l⟩))
 |none=>(∃q,s= .inl q)∨ ∃q,s= .inr (.inl q)
theorem Li: ∀(m:Nat) (b:List UInt8) (a:bp) (n:Nat),m<n→m≤255→a.aQ.length+m≤1000→b.length≤dK→ ∃s,iter (jV fuel) n ((m:Int),⟨b⟩,a)=some s∧RH (kU m b a.aQ) a s
 |_,_,_,0,h,_,_,_=>absurd h (Nat.not_lt_zero _)
 |0,b,a,n+1,_,_,_,_=>by
  refine⟨_,?_,rfl⟩
  rw[bw]
  simp only[jV,jb,get_ite,aE,aD,aC,aF,aL,aK]
  rfl
 |m+1,b,a,n+1,h,h2,h3,h4=>by
  rw[bw]
  simp only[jV,jb,get_ite,aE,aD,aC,aF,aL,aK]
  rw[decide_eq_true (show((m+1:Nat):Int)>0 by omega),VD]
  simp only[cond_true,aw,kU]
  cases hn:num 1 b with
  |none=>exact⟨_,rfl,.inl ⟨_,rfl⟩⟩
  |some p=>
   obtain⟨v,r⟩:=p
   have hp:=eT hn
   simp only[bu,aw]
   rw[xh r (by omega)]
   cases ht:text r with
   |none=>exact⟨_,rfl,.inr ⟨_,rfl⟩⟩
   |some q=>
    obtain⟨s,t⟩:=q
    have hq:=H8 ht
    simp only[bu,aw]
    rw[decide_eq_true (show a.aQ.length+1≤dK by rw[cq];omega),bh (by omega) (by omega)]
    have e:((m+1:Nat):Int)-1=(m:Int):=by omega
    rw[e]
    simp only[cond_true,aw,bu]
    obtain⟨s',h5,h6⟩:=Li m t ⟨a.Kind,a.bn,a.aS,a.Seq,a.Name,a.aX,a.Mode,a.aQ++[⟨v,s⟩]⟩ n (by omega) (by omega) (by simp;omega) (by omega)
    refine⟨s',h5,?_⟩
    generalize kU m t (a.aQ++[⟨v,s⟩])=o at h6⊢
    cases o with
    |none=>exact h6
    |some p=>exact h6
def Yp {α:Type} (o:Option (α×List UInt8)) (s:(α×cn) ⊕ cn):Prop:=
 match o with
 |some (a,r)=>s= .inl (a,⟨r⟩)
 |none=> ∃q,s= .inr q
theorem GB (b:List UInt8) (hb:b.length≤dK): ∃s,rk fuel ⟨b⟩=some s∧Yp (GD b) s:=by
 unfold rk oy GD
 try simp only[get_ite,aE,aD,aC,aF,aL,aK]
 rw[VD]
 cases h1:num 1 b with
 |none=>exact⟨_,rfl,_,rfl⟩
 |some p1=>
  obtain⟨k,b1⟩:=p1
  have g1:=eT h1
  simp only[aw,bu]
  rw[VD]
  cases h2:num 1 b1 with
  |none=>exact⟨_,rfl,_,rfl⟩
  |some p2=>
   obtain⟨f,b2⟩:=p2
   have g2:=eT h2
   simp only[aw,bu]
   rw[rd4]
   cases h3:num 4 b2 with
   |none=>exact⟨_,rfl,_,rfl⟩
   |some p3=>
    obtain⟨e,b3⟩:=p3
    have g3:=eT h3
    simp only[aw,bu]
    rw[rd4]
    cases h4:num 4 b3 with
    |none=>exact⟨_,rfl,_,rfl⟩
    |some p4=>
     obtain⟨s,b4⟩:=p4
     have g4:=eT h4
     simp only[aw,bu]
     rw[xh _ (by omega)]
     cases h5:text b4 with
     |none=>exact⟨_,rfl,_,rfl⟩
     |some p5=>
      obtain⟨nm,b5⟩:=p5
      have g5:=H8 h5
      simp only[aw,bu]
      rw[VD]
      cases h6:num 1 b5 with
      |none=>exact⟨_,rfl,_,rfl⟩
      |some p6=>
       obtain⟨fl,b6⟩:=p6
       have g6:=eT h6
       simp only[aw,bu]
       rw[VD]
       cases h7:num 1 b6 with
       |none=>exact⟨_,rfl,_,rfl⟩
       |some p7=>
        obtain⟨m,b7⟩:=p7
        have g7:=eT h7
        simp only[aw,bu]
        rw[VD]
        cases h8:num 1 b7 with
        |none=>exact⟨_,rfl,_,rfl⟩
        |some p8=>
         obtain⟨n,b8⟩:=p8
         obtain⟨g8,g9,g10,_,_⟩:=eT h8
         simp only[aw,bu]
         have g10:n<256:=g10
         obtain⟨o,h9,h10⟩:=Li n.toNat b8 ⟨k,f,e,s,nm,fl,m,[]⟩ fuel (cm (by omega)) (by omega) (by simp;omega) (by omega)
         have en:((n.toNat:Nat):Int)=n:=by omega
         rw[en]at h9
         have h9':sl fuel n ⟨b8⟩ ⟨k,f,e,s,nm,fl,m,[]⟩=some o:=h9
         rw[h9']
         cases hw:kU n.toNat b8 []with
         |none=>
          have h10:RH (kU n.toNat b8 []) ⟨k,f,e,s,nm,fl,m,[]⟩ o:=h10
          rw[hw]at h10
          rcases h10 with⟨q,rfl⟩|⟨q,rfl⟩
          ·exact⟨_,rfl,_,rfl⟩
          ·exact⟨_,rfl,_,rfl⟩
         |some p9=>
          have h10:RH (kU n.toNat b8 []) ⟨k,f,e,s,nm,fl,m,[]⟩ o:=h10
          rw[hw]at h10
          have h10:=h10
          simp only[RH]at h10
          subst h10
          exact⟨_,rfl,rfl⟩
theorem Du: ∀(n:Nat) (b:List UInt8) (l l':List aY) (r:List UInt8),kU n b l=some (l',r)→l'.length=l.length+n∧r.length≤b.length
 |0,b,l,l',r,h=>by cases h;exact⟨rfl,Nat.le_refl _⟩
 |n+1,b,l,l',r,h=>by
  simp only[kU]at h
  cases h1:num 1 b with
  |none=>rw[h1]at h;cases h
  |some p=>
   obtain⟨o,b1⟩:=p
   rw[h1,aw]at h
   have g1:=eT h1
   cases h2:text b1 with
   |none=>simp only[h2]at h;cases h
   |some q=>
    obtain⟨t,b2⟩:=q
    simp only[h2,aw]at h
    have g2:=H8 h2
    obtain⟨h3,h4⟩:=Du n b2 _ l' r h
    rw[List.length_append]at h3
    simp only[List.length_cons,List.length_nil]at h3
    exact⟨by omega,by omega⟩
theorem E4 {b:List UInt8} {a:bp} {r:List UInt8} (h:GD b=some (a,r)):a.Name.length≤255∧a.aQ.length≤255∧b≠[]:=by
 unfold GD at h
 simp only[Option.bind_eq_some_iff]at h
 obtain⟨p1,h1,p2,h2,p3,h3,p4,h4,p5,h5,p6,h6,p7,h7,p8,h8,p9,h9,h10⟩:=h
 cases h10
 have g8:=eT h8
 have g9:=Du _ _ _ _ _ h9
 have g10:p8.1<256:=g8.2.2.1
 have g5:=zC h5
 refine⟨g5.1,by rw[g9.1];simp;omega,?_⟩
 rintro rfl
 cases h1
theorem KK (a b:List UInt8) (h:a.length<4294967296):nb fuel a b=some (a==b):=by
 have zipeq: ∀a b:List UInt8,a.length=b.length→((a.zip b).all fun p=> !(i8 p.1 != i8 p.2))=(a==b):=by
  intro a
  induction a with
  |nil=>intro b hb;cases b with|nil=>rfl|cons=>simp at hb
  |cons x r ih=>
   intro b hb
   cases b with
   |nil=>simp at hb
   |cons y s=>
    have e:=ih s (by simpa using hb)
    simp only[List.zip_cons_cons,List.all_cons,e,List.cons_beq_cons]
    congr 1
    by_cases hxy:x=y
    ·subst hxy;simp
    ·have:i8 x≠i8 y:=fun h=>hxy (QH h)
     rw[show(i8 x != i8 y)=true from by rw[bne_iff_ne];exact this]
     rw[show(x==y)=false from by rw[beq_eq_false_iff_ne];exact hxy]
     rfl
 unfold nb lB
 try simp only[get_ite,aE,aD,aC,aF,aL,aK]
 by_cases hl:a.length=b.length
 ·have hz:(a.zip b).length=a.length:=by rw[List.length_zip];omega
  have hl0:ke fuel a b (a.length:Int) 0=some (bif (a.zip b).all (fun p=> !(i8 p.1 != i8 p.2))then .inr ()else .inl ()):=by
   unfold ke
   rw[←tL (fun p:UInt8×UInt8=> !(i8 p.1 != i8 p.2)) (Sum.inl ()) (Sum.inr ()) (a.zip b)]
   refine kB (xs:=a.zip b) (fun i (_:Unit)=>(i:Int)) _ _ (fun i _ p hp=> ?_) (fun _=> ?_) () (cm (by omega))
   ·have hi:=og hp
    obtain⟨h1,h2⟩:=Lu hp
    rw[hz]at hi
    simp only[kd,gj,get_ite,aE,aD,aC,aF,aL,aK,dh hi,bP hi,bP (og h2),Int.toNat_natCast,h1,h2,cond_true,aw,bI (Nat.lt_trans hi h)]
    cases (i8 p.1 != i8 p.2)<;>rfl
   ·simp only[kd,gj,get_ite,aE,aD,aC,aF,aL,aK,hz,dv,cond_false]
  have:((a.length:Int) != (b.length:Int))=false:=by simp[hl]
  rw[this,hl0,←zipeq a b hl]
  cases (a.zip b).all (fun p=> !(i8 p.1 != i8 p.2))<;>rfl
 ·have:((a.length:Int) != (b.length:Int))=true:=by simp;omega
  have h2:(a==b)=false:=by
   cases he:a==b with
   |false=>rfl
   |true=>exact absurd (by rw[eq_of_beq he]) hl
  rw[this,h2]
  rfl
def TS:bp:=⟨0,0,0,0,[],0,0,[]⟩
def kN (b:List UInt8):bp×Bool:=
 match GD b with
 |some (a,_)=>bif eY a==b then(a,true)else(TS,false)
 |none=>(TS,false)
theorem Og (b:List UInt8):(JI b).length=b.length+2:=by unfold JI;rw[List.length_append,dM]
theorem E1 (a:bp):(eY a).length≤162:=by
 unfold eY
 cases h:cL a with
 |false=>simp
 |true=>have:=yk h;simp only[cond_true,Og];omega
theorem Fa (b:List UInt8) (hb:b.length≤dK):xr fuel b=some (kN b):=by
 obtain⟨s,h1,h2⟩:=GB b hb
 unfold xr sR zh pQ
 try simp only[get_ite,aE,aD,aC,aF,aL,aK]
 rw[h1]
 unfold kN
 cases hp:GD b with
 |none=>
  rw[hp]at h2
  obtain⟨q,rfl⟩:=h2
  rfl
 |some p=>
  obtain⟨a,r⟩:=p
  rw[hp]at h2
  simp only[Yp]at h2
  subst h2
  obtain⟨g1,g2,g3⟩:=E4 hp
  have hb0:((b.length:Int)==0)=false:=by
   cases b with
   |nil=>exact absurd rfl g3
   |cons x t=>simp;omega
  simp only[aw,bu]
  rw[hb0,GI a (by omega) (by omega)]
  simp only[aw,cond_false]
  rw[KK _ _ (by have:=E1 a;omega)]
  cases eY a==b<;>rfl
open Go
theorem On {a:bp} (h:cL a=false):eY a=[]:=by unfold eY;rw[h];rfl
open Go
theorem tP {v:Int} (h:0≤v) (k:Nat) (hk:k≤3):i8 (rM v k)=v/256^k%256:=by
 have key: ∀s:Int,rM v k=b8 (qj s)→i8 (rM v k)=s%256:=by
  intro s hs
  rw[hs]
  have e:qj s=s%256:=by unfold qj;rw[IntKind.wrap_u8]
  rw[e,Kr (by omega) (by omega)]
 have h3:k=0∨k=1∨k=2∨k=3:=by omega
 rcases h3 with rfl|rfl|rfl|rfl
 ·refine key (v/256^0) (congrArg (fun s=>b8 (qj s)) ?_)
  rw[bh (by omega) (by omega)]
  show v.fdiv 1=v/1
  rw[Int.fdiv_eq_ediv_of_nonneg _ (by omega)]
 ·refine key (v/256^1) (congrArg (fun s=>b8 (qj s)) ?_)
  rw[bh (by omega) (by omega)]
  show v.fdiv 256=v/256
  rw[Int.fdiv_eq_ediv_of_nonneg _ (by omega)]
 ·refine key (v/256^2) (congrArg (fun s=>b8 (qj s)) ?_)
  rw[bh (by omega) (by omega)]
  show v.fdiv 65536=v/65536
  rw[Int.fdiv_eq_ediv_of_nonneg _ (by omega)]
 ·refine key (v/256^3) (congrArg (fun s=>b8 (qj s)) ?_)
  rw[bh (by omega) (by omega)]
  show v.fdiv 16777216=v/16777216
  rw[Int.fdiv_eq_ediv_of_nonneg _ (by omega)]
theorem RJ {v:Int} (h:0≤v) (h2:v<256):val (be 1 v)=v:=by
 have e0:=tP h 0 (by omega)
 show 0*256+i8 (rM v 0)=v
 rw[e0]
 have:(256:Int)^0=1:=rfl
 rw[this]
 omega
theorem RI {v:Int} (h:0≤v) (h2:v<4294967296):val (be 4 v)=v:=by
 have e0:=tP h 0 (by omega)
 have e1:=tP h 1 (by omega)
 have e2:=tP h 2 (by omega)
 have e3:=tP h 3 (by omega)
 show(((0*256+i8 (rM v 3))*256+i8 (rM v 2))*256+i8 (rM v 1))*256+i8 (rM v 0)=v
 rw[e0,e1,e2,e3]
 have h0:(256:Int)^0=1:=rfl
 have h1:(256:Int)^1=256:=rfl
 have h2:(256:Int)^2=65536:=rfl
 have h3:(256:Int)^3=16777216:=rfl
 rw[h0,h1,h2,h3]
 omega
theorem Qj {k:Nat} {v:Int} (h:val (be k v)=v) (s:List UInt8):num k (be k v++s)=some (v,s):=by
 unfold num
 have e:(be k v).length=k:=dM k v
 rw[if_neg (by rw[List.length_append];omega)]
 have h1:(be k v++s).take k=be k v:=by rw[List.take_append_of_le_length (by omega),List.take_of_length_le (by omega)]
 have h2:(be k v++s).drop k=s:=by rw[List.drop_append_of_le_length (by omega),List.drop_of_length_le (by omega)];rfl
 rw[h1,h2,h]
theorem JZ {v:Int} (h:0≤v) (h2:v<256) (s:List UInt8):num 1 (be 1 v++s)=some (v,s):=Qj (RJ h h2) s
theorem OD {v:Int} (h:0≤v) (h2:v<4294967296) (s:List UInt8):num 4 (be 4 v++s)=some (v,s):=Qj (RI h h2) s
theorem EM (t s:List UInt8) (h:t.length≤255):text (PK t++s)=some (t,s):=by
 show text (b8 (t.length:Int) ::(t++s))=_
 have e:(b8 (t.length:Int)).toNat=t.length:=by
  have:=Kr (n:=(t.length:Int)) (by omega) (by omega)
  unfold i8 at this
  omega
 rw[Cj,e,if_neg (by rw[List.length_append];omega),List.take_append_of_le_length (by omega),List.take_of_length_le (by omega),List.drop_append_of_le_length (by omega),List.drop_of_length_le (by omega)]
 rfl
theorem Dt: ∀(l acc:List aY) (s:List UInt8),(∀w∈l,bQ w=true)→kU l.length (GR l++s) acc=some (acc++l,s)
 |[],acc,s,_=>by simp[kU,GR]
 |w::r,acc,s,h=>by
  have hw:=jg.1 (h w (by simp))
  have e:GR (w::r)++s=be 1 w.nS++(PK w.B++(GR r++s)):=by
   simp only[GR,List.map_cons,List.flatten_cons,VB,List.append_assoc]
  simp only[List.length_cons,kU]
  rw[e,JZ hw.1 (by omega),aw,EM _ _ (by omega),aw,Dt r _ s (fun x hx=>h x (by simp[hx]))]
  simp
theorem Ow {a:bp} (h:cL a=true) (s:List UInt8):GD (mi a++s)=some (a,s):=by
 obtain⟨h1,h2,h3,h4,h5,h6,h7,h8,h9⟩:=fv h
 have e:mi a++s=be 1 a.Kind++(be 1 a.bn++(be 4 a.aS++(be 4 a.Seq++(PK a.Name++(be 1 a.aX++(be 1 a.Mode++(be 1 (a.aQ.length:Int)++(GR a.aQ++s)))))))):=by
  simp only[mi,yI,List.append_assoc]
 unfold GD
 rw[e,JZ (by omega) (by omega),aw,JZ (by omega) (by omega),aw,OD (by omega) (by omega),aw,OD (by omega) (by omega),aw,EM _ _ (by omega),aw,JZ (by omega) (by omega),aw,JZ (by omega) (by omega),aw,JZ (by omega) (by omega),aw]
 rw[Int.toNat_natCast,Dt _ _ _ h9]
 rfl
theorem E0 {a:bp} (h:cL a=true):eY a=mi a++be 2 (MQ (mi a):Int):=by unfold eY;rw[h];rfl
theorem Dn {a:bp} (h:cL a=true):kN (eY a)=(a,true):=by
 unfold kN
 rw[E0 h,Ow h]
 simp only[]
 rw[E0 h,beq_self_eq_true]
 rfl
theorem Ia {z:List UInt8} (h:(kN z).2=true): ∃x r,GD z=some (x,r)∧z=eY x∧cL x=true:=by
 unfold kN at h
 cases hp:GD z with
 |none=>rw[hp]at h;cases h
 |some p=>
  obtain⟨x,r⟩:=p
  simp only[hp]at h
  cases he:eY x==z with
  |false=>rw[he]at h;cases h
  |true=>
   have e:=(eq_of_beq he).symm
   refine⟨x,r,rfl,e,?_⟩
   cases hm:cL x with
   |true=>rfl
   |false=>exact absurd (e.trans (On hm)) (E4 hp).2.2
open Go
def Qa (p:bt):Prop:=0≤p.n∧p.n≤1000∧p.l.length≤1000
theorem Sc (l:List UInt8) (h:l.length≤1000):Qa (CC l):=⟨Int.le_refl _,by show(0:Int)≤1000;omega,h⟩
theorem oP (p:bt) (hp:Qa p) (m:Int) (h1:1≤m): ∃r,cj m p=some r∧0≤r.1∧r.1<m∧Qa r.2:=by
 obtain⟨l,n⟩:=p
 obtain⟨g1,g2,g3⟩:=hp
 simp only at g1 g2 g3
 unfold cj oz
 try simp only[get_ite,aE,aD,aC,aF,aL,aK]
 try simp only
 by_cases hn:n≥(l.length:Int)
 ·rw[decide_eq_true hn]
  exact⟨_,rfl,Int.le_refl _,by show(0:Int)<m;omega,g1,g2,g3⟩
 ·rw[decide_eq_false hn,decide_eq_false (show ¬m<1 by omega),bh (show-9223372036854775808≤n+1 by omega) (by omega)]
  have e:n+1-1=n:=by omega
  rw[e,bh (by omega) (by omega),fO g1 (by omega)]
  have hlt:n.toNat<l.length:=by omega
  have hm:(m==0)=false:=by simp;omega
  rw[List.getElem?_eq_getElem hlt,hm]
  simp only[cond_false,cond_true,aw]
  have hx0:=Hu l[n.toNat]
  have hx1:=Hv l[n.toNat]
  rw[bh (by omega) (by omega),Int.tmod_eq_emod_of_nonneg hx0]
  exact⟨_,rfl,Int.emod_nonneg _ (by omega),Int.emod_lt_of_pos _ (by omega),by show 0≤n+1;omega,by show n+1≤1000;omega,g3⟩
theorem Lp (p:bt) (hp:Qa p): ∃r,kX p=some r∧bQ r.1=true∧Qa r.2:=by
 obtain⟨r1,e1,h1,h2,h3⟩:=oP p hp 10 (by omega)
 obtain⟨r2,e2,h4,h5,h6⟩:=oP r1.2 h3 6 (by omega)
 unfold kX my
 try simp only[get_ite,aE,aD,aC,aF,aL,aK]
 rw[e1,aw,e2,aw,fO h4 (by omega)]
 have hk:r2.1=0∨r2.1=1∨r2.1=2∨r2.1=3∨r2.1=4∨r2.1=5:=by omega
 rcases hk with hk|hk|hk|hk|hk|hk<;>rw[hk]<;>exact⟨_,rfl,jg.2 (by simp;omega),h6⟩
theorem DS: ∀(i:Nat) (p:bt) (l:List aY) (n:Nat),i<n→i≤5→l.length+i≤100→Qa p→(∀w∈l,bQ w=true)→
  ∃r,iter ku n ((i:Int),p,l)=some r∧Qa r.1∧r.2.length=l.length+i∧ ∀w∈r.2,bQ w=true
 |_,_,_,0,h,_,_,_,_=>absurd h (Nat.not_lt_zero _)
 |0,p,l,n+1,_,_,_,hp,hl=>by
  rw[bw]
  exact⟨_,rfl,hp,rfl,hl⟩
 |i+1,p,l,n+1,h,h5,hll,hp,hl=>by
  obtain⟨r,e,h1,h2⟩:=Lp p hp
  rw[bw]
  simp only[ku,jE,get_ite,aE,aD,aC,aF,aL,aK]
  have e2:((i+1:Nat):Int)-1=(i:Int):=by omega
  rw[decide_eq_true (show((i+1:Nat):Int)>0 by omega),e,bh (by omega) (by omega),e2]
  simp only[cond_true,aw]
  rw[decide_eq_true (show l.length+1≤dK by rw[cq];omega)]
  obtain⟨s,g1,g2,g3,g4⟩:=DS i r.2 (l++[r.1]) n (by omega) (by omega) (by simp;omega) h2 (fun w hw=>by
   rcases List.mem_append.1 hw with hw|hw
   ·exact hl w hw
   ·simp at hw;subst hw;exact h1)
  exact⟨s,g1,g2,by rw[g3];simp;omega,g4⟩
theorem HU (m:Nat) (hm:m≤5) (p:bt) (hp:Qa p): ∃r,dS fuel (m:Int) p=some r∧Qa r.1∧r.2.length≤m∧ ∀w∈r.2,bQ w=true:=by
 obtain⟨r1,e1,h1,h2,h3⟩:=oP p hp ((m:Int)+1) (by omega)
 unfold dS lF
 try simp only[get_ite,aE,aD,aC,aF,aL,aK]
 rw[bh (by omega) (by omega),e1,aw]
 obtain⟨r,g1,g2,g3,g4⟩:=DS r1.1.toNat r1.2 [] fuel (cm (by omega)) (by omega) (by simp;omega) h3 (fun w hw=>by cases hw)
 have e:((r1.1.toNat:Nat):Int)=r1.1:=by omega
 rw[e]at g1
 have g1':pg fuel r1.1 r1.2 []=some r:=g1
 rw[g1',aw]
 exact⟨_,rfl,g2,by rw[g3];simp;omega,g4⟩
theorem J9 (p:bt) (hp:Qa p): ∃r,rp fuel p=some r∧cL r.1=true∧Qa r.2:=by
 obtain⟨r1,e1,a1,b1,c1⟩:=oP p hp 5 (by omega)
 obtain⟨r2,e2,a2,b2,c2⟩:=oP r1.2 c1 3 (by omega)
 obtain⟨r3,e3,a3,b3,c3⟩:=oP r2.2 c2 3 (by omega)
 obtain⟨r4,e4,a4,b4,c4⟩:=oP r3.2 c3 20 (by omega)
 unfold rp oA
 try simp only[get_ite,aE,aD,aC,aF,aL,aK]
 rw[e1,aw,e2,aw,e3,aw,e4,aw,bh (show-9223372036854775808≤1+r1.1 by omega) (by omega),bh (show-9223372036854775808≤1+r2.1 by omega) (by omega),bh (show-9223372036854775808≤1+r4.1 by omega) (by omega)]
 have hf:oR 1 3 (1+r2.1)=true:=cH.2 ⟨by omega,by omega⟩
 have he:oR 0 1073741824 r3.1=true:=cH.2 ⟨by omega,by omega⟩
 have hs:oR 1 1073741824 (1+r4.1)=true:=cH.2 ⟨by omega,by omega⟩
 have hk:r1.1=0∨r1.1=1∨r1.1=2∨r1.1=3∨r1.1=4:=by omega
 rcases hk with hk|hk|hk|hk|hk
 ·rw[hk]
  obtain⟨r5,e5,a5,b5,c5⟩:=oP r4.2 c4 4 (by omega)
  show ∃r,((cj 4 r4.2).bind _)=some r∧_
  rw[e5,aw,fO a5 (by omega)]
  have hn:r5.1=0∨r5.1=1∨r5.1=2∨r5.1=3:=by omega
  rcases hn with hn|hn|hn|hn<;>rw[hn]<;>refine⟨_,rfl,?_,c5⟩<;>unfold cL<;>simp only[hf,he,hs,Bool.true_and]<;>refine Bool.and_eq_true_iff.2 ⟨rfl,Bool.and_eq_true_iff.2 ⟨rfl,eI _⟩⟩
 ·rw[hk]
  obtain⟨r5,e5,a5,b5,c5⟩:=oP r4.2 c4 2 (by omega)
  obtain⟨r6,e6,a6,b6,c6⟩:=oP r5.2 c5 6 (by omega)
  show ∃r,((cj 2 r4.2).bind _)=some r∧_
  rw[e5,aw,e6,aw,bh (show-9223372036854775808≤1+r5.1 by omega) (by omega),bh (show-9223372036854775808≤1+r6.1 by omega) (by omega)]
  refine⟨_,rfl,?_,c6⟩
  have g1:oR 1 6 (1+r6.1)=true:=cH.2 ⟨by omega,by omega⟩
  have g2:oR 1 2 (1+r5.1)=true:=cH.2 ⟨by omega,by omega⟩
  unfold cL
  simp only[hf,he,hs,Bool.true_and]
  show(oR 1 5 2&&((oR 1 6 (1+r6.1)&&oR 1 2 (1+r5.1))&&eJ ⟨2,1+r2.1,r3.1,1+r4.1,[],1+r6.1,1+r5.1,[]⟩ ⟨2,1+r2.1,r3.1,1+r4.1,[],1+r6.1,1+r5.1,[]⟩))=true
  rw[g1,g2,eI]
  rfl
 ·rw[hk]
  obtain⟨r5,e5,a5,b5,c5⟩:=HU 4 (by omega) r4.2 c4
  obtain⟨r6,e6,a6,b6⟩:=Lp r5.1 a5
  obtain⟨r7,e7,a7,b7,c7⟩:=oP r6.2 b6 6 (by omega)
  show ∃r,((dS fuel 4 r4.2).bind _)=some r∧_
  have e5':dS fuel 4 r4.2=some r5:=e5
  rw[e5',aw,e6,aw,decide_eq_true (show r5.2.length+1≤dK by rw[cq];omega),e7]
  simp only[cond_true,aw]
  rw[bh (show-9223372036854775808≤1+r7.1 by omega) (by omega)]
  refine⟨_,rfl,?_,c7⟩
  have g1:oR 1 6 (1+r7.1)=true:=cH.2 ⟨by omega,by omega⟩
  have g2:(r5.2++[r6.1]).all bQ=true:=by
   rw[List.all_eq_true]
   intro w hw
   rcases List.mem_append.1 hw with hw|hw
   ·exact c5 w hw
   ·simp at hw;subst hw;exact a6
  have g3:decide (((r5.2++[r6.1]).length:Int)≤5)=true:=decide_eq_true (by simp;omega)
  have g4:decide (((r5.2++[r6.1]).length:Int)>0)=true:=decide_eq_true (by rw[List.length_append];simp only[List.length_cons,List.length_nil];omega)
  unfold cL
  simp only[hf,he,hs,Bool.true_and]
  show(oR 1 5 3&&((decide (((r5.2++[r6.1]).length:Int)≤5)&&((decide (((r5.2++[r6.1]).length:Int)>0)||false)&&(oR 1 6 (1+r7.1)&&(r5.2++[r6.1]).all bQ)))&&eJ ⟨3,1+r2.1,r3.1,1+r4.1,[],1+r7.1,0,r5.2++[r6.1]⟩ ⟨3,1+r2.1,r3.1,1+r4.1,[],1+r7.1,0,r5.2++[r6.1]⟩))=true
  rw[g1,g2,g3,g4,eI]
  rfl
 ·rw[hk]
  obtain⟨r5,e5,a5,b5,c5⟩:=HU 5 (by omega) r4.2 c4
  obtain⟨r7,e7,a7,b7,c7⟩:=oP r5.1 a5 6 (by omega)
  show ∃r,((dS fuel 5 r4.2).bind _)=some r∧_
  have e5':dS fuel 5 r4.2=some r5:=e5
  rw[e5',aw,e7]
  simp only[aw]
  rw[bh (show-9223372036854775808≤1+r7.1 by omega) (by omega)]
  refine⟨_,rfl,?_,c7⟩
  have g1:oR 1 6 (1+r7.1)=true:=cH.2 ⟨by omega,by omega⟩
  have g2:r5.2.all bQ=true:=by
   rw[List.all_eq_true]
   exact c5
  have g3:decide ((r5.2.length:Int)≤5)=true:=decide_eq_true (by omega)
  unfold cL
  simp only[hf,he,hs,Bool.true_and]
  show(oR 1 5 4&&((decide ((r5.2.length:Int)≤5)&&((decide ((r5.2.length:Int)>0)||true)&&(oR 1 6 (1+r7.1)&&r5.2.all bQ)))&&eJ ⟨4,1+r2.1,r3.1,1+r4.1,[],1+r7.1,0,r5.2⟩ ⟨4,1+r2.1,r3.1,1+r4.1,[],1+r7.1,0,r5.2⟩))=true
  rw[g1,g2,g3,Bool.or_true,eI]
  rfl
 ·rw[hk]
  obtain⟨r7,e7,a7,b7,c7⟩:=oP r4.2 c4 6 (by omega)
  show ∃r,((cj 6 r4.2).bind _)=some r∧_
  rw[e7,aw,bh (show-9223372036854775808≤1+r7.1 by omega) (by omega)]
  refine⟨_,rfl,?_,c7⟩
  have g1:oR 1 6 (1+r7.1)=true:=cH.2 ⟨by omega,by omega⟩
  unfold cL
  simp only[hf,he,hs,Bool.true_and]
  show(oR 1 5 5&&(oR 1 6 (1+r7.1)&&eJ ⟨5,1+r2.1,r3.1,1+r4.1,[],1+r7.1,0,[]⟩ ⟨5,1+r2.1,r3.1,1+r4.1,[],1+r7.1,0,[]⟩))=true
  rw[g1,eI]
  rfl
theorem dI {V X:Type} {step:V→Option (V ⊕ X)} (I:Nat→V→Prop) (Q:X→Prop)
  (h: ∀k v,I k v→ ∃o,step v=some o∧Sum.elim (fun v'=> ∃k',k'<k∧I k' v') Q o):
  ∀(k:Nat) (v:V) (n:Nat),I k v→k<n→ ∃x,iter step n v=some x∧Q x:=by
 intro k
 induction k using Nat.strongRecOn with
 |_ k ih=>
  intro v n hi hn
  obtain⟨o,ho,hq⟩:=h k v hi
  cases n with
  |zero=>omega
  |succ n=>
   rw[bw,ho]
   cases o with
   |inl v'=>
    obtain⟨k',h1,h2⟩:=hq
    exact ih k' h1 v' n h2 (by omega)
   |inr x=>exact⟨x,rfl,hq⟩
theorem eu {α:Type} [BEq α] [LawfulBEq α] {a b:α} (h:a=b):(a==b)=true:=by rw[h];exact beq_self_eq_true b
theorem dj {α:Type} [BEq α] [LawfulBEq α] {a b:α} (h:a≠b):(a==b)=false:=by
 cases hb:a==b with
 |false=>rfl
 |true=>exact absurd (eq_of_beq hb) h
theorem NF {α:Type} (b:List α) (i k:Nat):eo b (i:Int) ((i+k:Nat):Int)=(b.drop i).take k:=by
 unfold eo
 rw[Int.toNat_natCast,Int.toNat_natCast,List.drop_take]
 congr 1
 omega
theorem eq_int {n:Nat} {k:Int} (h:(n:Int)=k):((n:Int) != k)=false:=by simp[h]
open Go
def mu:bL:=⟨[],0,[]⟩
def jh (f:bL):Prop:=f=mu∨(gl f.Name=true∧1≤f.pY∧f.pY≤1073741824∧f.Body.length≤24)
def nA (B:Int) (m:bA):Prop:=0≤m.Seq∧m.Seq≤B∧0≤m.Gw∧m.Gw≤3∧0≤m.aX∧m.aX≤6∧0≤m.pY∧m.pY≤1073741824
def once (l:List bL):Prop:= ∀(i j:Nat) (f g:bL),l[i]? =some f→l[j]? =some g→f.Name≠[]→f.Name=g.Name→i=j
structure Good (B:Int) (s:aG):Prop where
 nf:s.aP.length=6
 nm:s.Marks.length=3
 e0:0≤s.aS
 e1:s.aS≤1073741824
 fs: ∀f∈s.aP,jh f
 on:once s.aP
 ms: ∀m∈s.Marks,nA B m
theorem jh.name {f:bL} (h:jh f):f.Name.length≤8:=by
 rcases h with rfl|⟨h,_⟩
 ·decide
 ·exact(xv h).2
theorem jh.body {f:bL} (h:jh f):f.Body.length≤24:=by
 rcases h with rfl|⟨_,_,_,h⟩
 ·decide
 ·exact h
theorem jh.VC {f:bL} (h:jh f):0≤f.pY∧f.pY≤1073741824:=by
 rcases h with rfl|⟨_,h1,h2,_⟩
 ·decide
 ·exact⟨by omega,h2⟩
theorem jh.none {f:bL} (h:jh f) (hn:f.Name=[]):f=mu:=by
 rcases h with h|⟨h,_⟩
 ·exact h
 ·have:=(xv h).1
  rw[hn]at this
  simp at this
theorem jh.some {f:bL} (h:jh f) (hn:f.Name≠[]):gl f.Name=true∧1≤f.pY:=by
 rcases h with rfl|⟨h,h2,_⟩
 ·exact absurd rfl hn
 ·exact⟨h,h2⟩
theorem nA.mono {B B':Int} {m:bA} (h:nA B m) (hb:B≤B'):nA B' m:=⟨h.1,Int.le_trans h.2.1 hb,h.2.2⟩
theorem Good.mono {B B':Int} {s:aG} (h:Good B s) (hb:B≤B'):Good B' s:=⟨h.nf,h.nm,h.e0,h.e1,h.fs,h.on,fun m hm=>(h.ms m hm).mono hb⟩
theorem jW {B q e f v:Int} (hq:0≤q) (hq2:q≤B) (e0:0≤e) (e1:e≤3) (f0:0≤f) (f1:f≤6) (v0:0≤v) (v1:v≤1073741824):nA B ⟨q,e,f,v⟩:=⟨hq,hq2,e0,e1,f0,f1,v0,v1⟩
theorem Ni {n b:List UInt8} {v:Int} (h:gl n=true) (v0:1≤v) (v1:v≤1073741824) (hb:b.length≤24):jh ⟨n,v,b⟩:= .inr ⟨h,v0,v1,hb⟩
def kr:aG:=⟨[mu,mu,mu,mu,mu,mu],[⟨0,0,0,0⟩,⟨0,0,0,0⟩,⟨0,0,0,0⟩],0⟩
theorem zX:Good 1 kr:=by
 refine⟨rfl,rfl,by decide,by decide,fun f hf=> ?_,fun i j f g hi _ hn _=> ?_,fun m hm=> ?_⟩
 ·simp only[kr,List.mem_cons,List.not_mem_nil,or_false,or_self]at hf
  exact .inl hf
 ·have:f∈kr.aP:=List.mem_of_getElem? hi
  simp only[kr,List.mem_cons,List.not_mem_nil,or_false,or_self]at this
  rw[this]at hn
  exact absurd rfl hn
 ·simp only[kr,List.mem_cons,List.not_mem_nil,or_false,or_self]at hm
  subst hm
  exact⟨by decide,by decide,by decide,by decide,by decide,by decide,by decide,by decide⟩
theorem Qg {l:List bL} (h:once l) (n:Nat) (f:bL) (hf:f.Name=[]∨ ∀(j:Nat) g,l[j]? =some g→g.Name=f.Name→j=n):once (l.set n f):=by
 intro i j x y hi hj hx he
 rw[List.getElem?_set]at hi hj
 by_cases h1:n=i
 ·by_cases h2:n=j
  ·omega
  ·rw[if_neg h2]at hj
   rw[if_pos h1]at hi
   split at hi
   ·cases hi
    rcases hf with hf|hf
    ·exact absurd hf hx
    ·have:=hf j y hj he.symm
     omega
   ·cases hi
 ·rw[if_neg h1]at hi
  by_cases h2:n=j
  ·rw[if_pos h2]at hj
   split at hj
   ·cases hj
    rcases hf with hf|hf
    ·rw[hf]at he;exact absurd he hx
    ·have:=hf i x hi he
     omega
   ·cases hj
  ·rw[if_neg h2]at hj
   exact h i j x y hi hj hx he
open Go
theorem QG {v:Int} (h:0≤v) (h2:v≤1073741824):1≤ew (ay (v+1)) 1073741824∧ew (ay (v+1)) 1073741824≤1073741824:=by
 rw[bh (by omega) (by omega)]
 unfold ew
 split<;>omega
end Go.Proofs.YtlejgahbbfeagaaGreatDoor.N

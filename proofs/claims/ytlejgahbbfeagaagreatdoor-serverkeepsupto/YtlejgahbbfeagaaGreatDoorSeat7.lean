/- Plain words for this seat (13). Plain words for this seat (14). Plain words for this seat (15). Plain words for this seat (16). Plain words for this seat (17). Plain words for this seat (18). Plain words for this seat (19). Plain words for this seat (21). Plain words for this seat (22). Plain words for this seat (23). -/
import Derived.Test.YtlejgahbbfeagaaGreatDoorSeat6
set_option linter.unusedVariables false
set_option linter.unusedSimpArgs false
namespace Go.Proofs.YtlejgahbbfeagaaGreatDoor.N
open Go
theorem ow (v:Int):fc v=true↔0≤v∧v≤1073741824:=by
 unfold fc qS
 try simp only[get_ite,aE,aD,aC,aF,aL,aK]
 by_cases h1:v≥0<;>by_cases h2:v≤1073741824<;>simp[h1,h2]<;>omega
theorem KH (x y:bL):bL.er x y=true↔x=y:=by
 obtain⟨a,b,c⟩:=x
 obtain⟨d,e,f⟩:=y
 simp[bL.er]
theorem Qs (x y:bA):bA.er x y=true↔x=y:=by
 obtain⟨a,b,c,d⟩:=x
 obtain⟨e,f,g,h⟩:=y
 simp[bA.er]
theorem Ma (f:bL) (hn:f.Name.length<4294967296): ∃b,sM fuel f=some b∧(b=true↔jh f):=by
 unfold sM pE
 try simp only[get_ite,aE,aD,aC,aF,aL,aK]
 by_cases h:f.Name=[]
 ·rw[eu h]
  refine⟨_,rfl,(KH _ _).trans ⟨fun h=> .inl h,fun h2=>h2.none h⟩⟩
 ·rw[dj h]
  simp only[cond_false,vO _ hn,aw]
  have hnf:f≠mu:=fun e=>h (by rw[e];rfl)
  cases hm:gl f.Name with
  |false=>exact⟨_,rfl,⟨fun h=>(by cases h),fun h2=>by rw[(h2.some h).1]at hm;cases hm⟩⟩
  |true=>
   by_cases h1:f.pY≥1
   ·rw[decide_eq_true h1]
    cases hv:fc f.pY with
    |false=>
     refine⟨_,rfl,⟨fun h=>(by cases h),fun h2=> ?_⟩⟩
     rw[(ow _).2 h2.VC]at hv
     cases hv
    |true=>
     have hv':=(ow _).1 hv
     refine⟨_,rfl,⟨fun h=> .inr ⟨hm,h1,hv'.2,by have:=of_decide_eq_true h;omega⟩,fun h2=>decide_eq_true (by have:=h2.body;omega)⟩⟩
   ·rw[decide_eq_false h1]
    exact⟨_,rfl,⟨fun h=>(by cases h),fun h2=>absurd (h2.some h).2 h1⟩⟩
theorem Rd (l:List bL) (o:bL) (hl:l.length≤1000):hH fuel l o=some (l.any fun g=>eC g o):=by
 unfold hH fY nU iC lV
 try simp only[get_ite,aE,aD,aC,aF,aL,aK]
 obtain⟨x,e,hx⟩:=dI (step:=gX l (l.length:Int) o) (fun k v=> ∃i:Nat,v=(i:Int)∧i+k=l.length∧(l.take i).any (fun g=>eC g o)=false)
  (fun r=>Sum.elim (fun j=>0≤j∧l.any (fun g=>eC g o)=true) (fun _=>l.any (fun g=>eC g o)=false) r) (fun k v hI=>by
  obtain⟨i,rfl,hk,ha⟩:=hI
  simp only[gX,gu,get_ite,aE,aD,aC,aF,aL,aK]
  by_cases hlt:i<l.length
  ·rw[dh hlt,bP hlt,Int.toNat_natCast,List.getElem?_eq_getElem hlt]
   simp only[cond_true,aw]
   cases hc:eC l[i] o with
   |true=>exact⟨_,rfl,Int.natCast_nonneg _,List.any_eq_true.2 ⟨_,List.getElem_mem hlt,hc⟩⟩
   |false=>
    simp only[cond_false]
    rw[bI (by omega)]
    refine⟨_,rfl,k-1,by omega,i+1,rfl,by omega,?_⟩
    rw[List.take_add_one,List.any_append,ha,List.getElem?_eq_getElem hlt]
    simp[hc]
  ·obtain rfl:i=l.length:=by omega
   rw[dv]
   rw[List.take_length]at ha
   exact⟨_,rfl,ha⟩) l.length (0:Int) fuel ⟨0,rfl,by omega,rfl⟩ (cm (by omega))
 rw[e,aw]
 cases x with
 |inl j=>
  rw[hx.2]
  show some (decide (j≥0))=some true
  rw[decide_eq_true hx.1]
 |inr j=>
  have:l.any (fun g=>eC g o)=false:=hx
  rw[this]
  rfl
theorem Rc (l:List bA) (hl:l.length≤1000):hC fuel l=some (l.any fun g=>fe g):=by
 unfold hC fX nT iB lU
 try simp only[get_ite,aE,aD,aC,aF,aL,aK]
 obtain⟨x,e,hx⟩:=dI (step:=gU l (l.length:Int)) (fun k v=> ∃i:Nat,v=(i:Int)∧i+k=l.length∧(l.take i).any (fun g=>fe g)=false)
  (fun r=>Sum.elim (fun j=>0≤j∧l.any (fun g=>fe g)=true) (fun _=>l.any (fun g=>fe g)=false) r) (fun k v hI=>by
  obtain⟨i,rfl,hk,ha⟩:=hI
  simp only[gU,gr,get_ite,aE,aD,aC,aF,aL,aK]
  by_cases hlt:i<l.length
  ·rw[dh hlt,bP hlt,Int.toNat_natCast,List.getElem?_eq_getElem hlt]
   simp only[cond_true,aw]
   cases hc:fe l[i]with
   |true=>exact⟨_,rfl,Int.natCast_nonneg _,List.any_eq_true.2 ⟨_,List.getElem_mem hlt,hc⟩⟩
   |false=>
    simp only[cond_false]
    rw[bI (by omega)]
    refine⟨_,rfl,k-1,by omega,i+1,rfl,by omega,?_⟩
    rw[List.take_add_one,List.any_append,ha,List.getElem?_eq_getElem hlt]
    simp[hc]
  ·obtain rfl:i=l.length:=by omega
   rw[dv]
   rw[List.take_length]at ha
   exact⟨_,rfl,ha⟩) l.length (0:Int) fuel ⟨0,rfl,by omega,rfl⟩ (cm (by omega))
 rw[e,aw]
 cases x with
 |inl j=>
  rw[hx.2]
  show some (decide (j≥0))=some true
  rw[decide_eq_true hx.1]
 |inr j=>
  have:l.any (fun g=>fe g)=false:=hx
  rw[this]
  rfl
theorem J7 (m:bA):oQ m=true↔nA 1073741824 m:=by
 unfold oQ pD nA
 try simp only[get_ite,aE,aD,aC,aF,aL,aK]
 have h1:=ow m.Seq
 have h2:=ow m.pY
 cases ha:fc m.Seq<;>cases hb:fc m.pY<;>rw[ha]at h1<;>rw[hb]at h2<;>by_cases hc:m.aX≥0<;>by_cases hd:m.aX≤6<;>by_cases he:m.Gw≥0<;>by_cases hf:m.Gw≤3<;>
  simp[hc,hd,he,hf]at h1 h2⊢ <;>omega
def ahead (l:List bL) (i:Nat):Prop:= ∀(j:Nat) f g,j<i→l[i]? =some f→l[j]? =some g→g.Name=f.Name→f.Name=[]
theorem JX (l:List bL):once l↔ ∀i,ahead l i:=by
 constructor
 ·intro h i j f g hj hf hg he
  refine Classical.byContradiction fun hn=> ?_
  have:=h i j f g hf hg hn he.symm
  omega
 ·intro h i j f g hf hg hn he
  rcases Nat.lt_trichotomy i j with hl|hl|hl
  ·exact absurd (h j i g f hl hg hf he) (by rw[←he];exact hn)
  ·exact hl
  ·exact absurd (h i j f g hl hf hg he.symm) hn
theorem Ri (g f:bL):eC g f=true↔f.Name≠[]∧g.Name=f.Name:=by
 unfold eC qT
 try simp only[get_ite,aE,aD,aC,aF,aL,aK]
 by_cases h:f.Name=[]
 ·rw[eu h];simp[h]
 ·rw[dj h];simp[h]
theorem Rw (s:aG) (hn: ∀f∈s.aP,f.Name.length<4294967296): ∃b,yB fuel s=some b∧(b=true↔Good 1073741824 s):=by
 unfold yB wM
 try simp only[get_ite,aE,aD,aC,aF,aL,aK]
 by_cases h1:s.aP.length≠6
 ·rw[show((s.aP.length:Int) != 6)=true by simp;omega]
  exact⟨_,rfl,⟨fun h=>(by cases h),fun h=>absurd h.nf h1⟩⟩
 rw[show((s.aP.length:Int) != 6)=false by simp;omega]
 have h1:s.aP.length=6:=Decidable.of_not_not h1
 by_cases h2:s.Marks.length≠3
 ·rw[show((s.Marks.length:Int) != 3)=true by simp;omega]
  exact⟨_,rfl,⟨fun h=>(by cases h),fun h=>absurd h.nm h2⟩⟩
 rw[show((s.Marks.length:Int) != 3)=false by simp;omega]
 have h2:s.Marks.length=3:=Decidable.of_not_not h2
 cases he:fc s.aS with
 |false=>
  refine⟨_,rfl,⟨fun h=>(by cases h),fun h=> ?_⟩⟩
  rw[(ow _).2 ⟨h.e0,h.e1⟩]at he
  cases he
 |true=>
  have he':=(ow _).1 he
  simp only[cond_false,Bool.not_true]
  unfold A9
  obtain⟨x,e,hx⟩:=dI (step:=uy fuel s.aP (s.aP.length:Int) s) (fun k v=> ∃i:Nat,v=(i:Int)∧i+k=s.aP.length∧ ∀j,j<i→(∀f,s.aP[j]? =some f→jh f)∧ahead s.aP j)
   (fun r=>Sum.elim (fun _=> ¬Good 1073741824 s) (fun _=>(∀f∈s.aP,jh f)∧once s.aP) r) (fun k v hI=>by
   obtain⟨i,rfl,hk,ha⟩:=hI
   simp only[uy,sN,get_ite,aE,aD,aC,aF,aL,aK]
   by_cases hlt:i<s.aP.length
   ·rw[dh hlt,bP hlt,Int.toNat_natCast,List.getElem?_eq_getElem hlt]
    simp only[cond_true,aw]
    obtain⟨b,eb,hb⟩:=Ma s.aP[i] (hn _ (List.getElem_mem hlt))
    rw[eb,aw]
    cases b with
    |false=>exact⟨_,rfl,fun hg=>by have:=hb.2 (hg.fs _ (List.getElem_mem hlt));cases this⟩
    |true=>
     simp only[Bool.not_true,cond_false]
     rw[e9 (by omega) (by omega) (by omega),mW,Rd _ _ (by rw[List.length_take];omega)]
     simp only[cond_true,aw]
     cases hc:(s.aP.take i).any (fun g=>eC g s.aP[i])with
     |true=>
      refine⟨_,rfl,fun hg=> ?_⟩
      obtain⟨g,hg1,hg2⟩:=List.any_eq_true.1 hc
      obtain⟨j,hj1,hj2⟩:=List.mem_iff_getElem?.1 hg1|>.elim fun j hj=>(⟨j,by have:=og hj;rw[List.length_take]at this;omega,hj⟩: ∃j,j<i∧(s.aP.take i)[j]? =some g)
      rw[List.getElem?_take_of_lt hj1]at hj2
      obtain⟨hn1,hn2⟩:=(Ri _ _).1 hg2
      exact hn1 ((JX _).1 hg.on i j _ g hj1 (List.getElem?_eq_getElem hlt) hj2 hn2)
     |false=>
      simp only[cond_false]
      rw[bI (by omega)]
      refine⟨_,rfl,k-1,by omega,i+1,rfl,by omega,fun j hj=> ?_⟩
      by_cases hji:j=i
      ·subst hji
       refine⟨fun f hf=> ?_,fun a f g ha hf hg he=> ?_⟩
       ·rw[List.getElem?_eq_getElem hlt]at hf
        cases hf
        exact hb.1 rfl
       ·rw[List.getElem?_eq_getElem hlt]at hf
        cases hf
        refine Classical.byContradiction fun hne=> ?_
        have:(s.aP.take j).any (fun g=>eC g s.aP[j])=true:=List.any_eq_true.2 ⟨g,List.mem_iff_getElem?.2 ⟨a,by rw[List.getElem?_take_of_lt ha];exact hg⟩,(Ri _ _).2 ⟨hne,he⟩⟩
        rw[hc]at this
        cases this
      ·exact ha j (by omega)
   ·obtain rfl:i=s.aP.length:=by omega
    rw[dv]
    refine⟨_,rfl,fun f hf=> ?_,(JX _).2 fun j=> ?_⟩
    ·obtain⟨j,hj⟩:=List.mem_iff_getElem?.1 hf
     exact(ha j (og hj)).1 f hj
    ·by_cases hj:j<s.aP.length
     ·exact(ha j hj).2
     ·intro a f g _ hf
      exact absurd (og hf) hj) s.aP.length (0:Int) fuel ⟨0,rfl,by omega,fun j h=>by omega⟩ (cm (by omega))
  rw[e,aw]
  cases x with
  |inl f=>exact⟨false,rfl,⟨fun h=>(by cases h),fun h=>absurd h hx⟩⟩
  |inr f=>
   simp only[fi]
   rw[Rc s.Marks (by omega),aw]
   refine⟨_,rfl,?_⟩
   have hm:(!(s.Marks.any fun g=>fe g))=true↔ ∀m∈s.Marks,nA 1073741824 m:=by
    rw[Bool.not_eq_true',List.any_eq_false]
    refine forall_congr' fun m=>forall_congr' fun _=> ?_
    rw[←J7]
    unfold fe
    cases oQ m<;>simp
   rw[hm]
   exact⟨fun h=>⟨h1,h2,he'.1,he'.2,hx.1,hx.2,h⟩,fun h=>h.ms⟩
open Go
def D8 (n:Nat) (s:List UInt8):List UInt8:=PK s++List.replicate (n-s.length) 0
def y1 (m:bA):List UInt8:=be 4 m.Seq++(be 1 m.Gw++(be 1 m.aX++be 4 m.pY))
def Aw (f:bL):List UInt8:=D8 8 f.Name++(be 4 f.pY++D8 24 f.Body)
def enc (s:aG):List UInt8:=be 4 s.aS++((s.Marks.map y1).flatten++(s.aP.map Aw).flatten)
def jr (s:aG):List (List UInt8):=ia (enc s++List.replicate 26 0)
theorem xi {n:Nat} {s:List UInt8} (h:s.length≤n):(D8 n s).length=n+1:=by
 unfold D8
 rw[List.length_append,jL,List.length_replicate];omega
theorem FJ (m:bA):(y1 m).length=10:=by
 unfold y1;simp only[List.length_append,dM]
theorem KM {f:bL} (h:jh f):(Aw f).length=38:=by
 unfold Aw;simp only[List.length_append,dM,xi h.name,xi h.body]
theorem tU {α:Type} (g:α→List UInt8) (n:Nat): ∀l:List α,(∀x∈l,(g x).length=n)→((l.map g).flatten).length=n*l.length
 |[],_=>rfl
 |x::r,h=>by
  rw[List.map_cons,List.flatten_cons,List.length_append,h x (List.mem_cons_self ..),tU g n r (fun y hy=>h y (List.mem_cons_of_mem _ hy)),List.length_cons,Nat.mul_add]
  omega
theorem Eu {B:Int} {s:aG} (h:Good B s):(enc s).length=262:=by
 unfold enc
 rw[List.length_append,List.length_append,dM,tU y1 10 _ (fun m _=>FJ m),tU Aw 38 _ (fun f hf=>KM (h.fs f hf)),h.nm,h.nf]
theorem HG {α:Type} (g:α→List UInt8) (l:List α) (i:Nat) (h:i<l.length):((l.take (i+1)).map g).flatten=((l.take i).map g).flatten++g l[i]:=by
 rw[List.take_add_one,List.getElem?_eq_getElem h]
 simp only[Option.toList,List.map_append,List.map_cons,List.map_nil,List.flatten_append,List.flatten_cons,List.flatten_nil,List.append_nil]
theorem P5 (b:List UInt8) (m:bA) (h:b.length≤1000):(((di fuel b m.Seq 4)).bind fun r_2=>
   ((di fuel r_2 m.Gw 1)).bind fun r_3=>
   ((di fuel r_3 m.aX 1)).bind fun r_4=>di fuel r_4 m.pY 4)=some (b++y1 m):=by
 rw[Oo _ _ (by rw[cq];omega),aw,JR _ _ (by rw[cq];simp[dM];omega),aw,JR _ _ (by rw[cq];simp[dM];omega),aw,Oo _ _ (by rw[cq];simp[dM];omega)]
 unfold y1
 simp only[List.append_assoc]
theorem Ql {n:Nat} (h:n≤1000):Ng (n:Int)=true:=by
 unfold Ng
 simp;omega
theorem Hf (b s:List UInt8) (n:Nat) (hb:b.length≤1000) (hn:n≤100) (hs:s.length≤n):k5 b s ((n:Int)+1)=some (b++D8 n s):=by
 unfold k5 rB
 try simp only[get_ite,aE,aD,aC,aF,aL,aK]
 rw[we b s (by omega) (by rw[cq];omega),aw,bh (show-9223372036854775808≤(n:Int)+1-1 by omega) (by omega),show(n:Int)+1-1-(s.length:Int)=((n-s.length:Nat):Int)by omega,bh (by omega) (by omega),Ql (by omega),Int.toNat_natCast]
 rw[decide_eq_true (by rw[cq];simp[jL];omega)]
 simp only[cond_true]
 unfold D8
 rw[List.append_assoc]
theorem ad0 (b s:List UInt8) (hb:b.length≤1000) (hs:s.length≤8):k5 b s 9=some (b++D8 8 s):=Hf b s 8 hb (by omega) hs
theorem Yq (b s:List UInt8) (hb:b.length≤1000) (hs:s.length≤24):k5 b s 25=some (b++D8 24 s):=Hf b s 24 hb (by omega) hs
theorem Mb (l:List bA) (hl:l.length≤10) (s:aG) (b:List UInt8) (hb:b.length≤10):vq fuel l (l.length:Int) s 0 b=some (b++(l.map y1).flatten):=by
 unfold vq
 obtain⟨x,e,hx⟩:=dI (step:=vo fuel l (l.length:Int) s) (fun k v=> ∃i:Nat,v.1=(i:Int)∧i+k=l.length∧v.2=b++((l.take i).map y1).flatten)
  (fun r=>r=b++(l.map y1).flatten) (fun k v hI=>by
  obtain⟨v1,v2⟩:=v
  obtain⟨i,h1,hk,h2⟩:=hI
  simp only at h1 h2
  subst h1 h2
  simp only[vo,s9,get_ite,aE,aD,aC,aF,aL,aK]
  by_cases hlt:i<l.length
  ·rw[dh hlt,bP hlt,Int.toNat_natCast,List.getElem?_eq_getElem hlt]
   simp only[cond_true,aw]
   have:=P5 (b++((l.take i).map y1).flatten) l[i] (by rw[List.length_append,tU y1 10 _ (fun m _=>FJ m),List.length_take];omega)
   have h3:=congrArg (fun o=>o.bind fun r=>some (Sum.inl (α:=Int×List UInt8) (β:=List UInt8) (ay ((i:Int)+1),r))) this
   simp only[Option.bind_assoc,aw]at h3
   rw[h3,bI (by omega)]
   refine⟨_,rfl,k-1,by omega,i+1,rfl,by omega,?_⟩
   rw[HG _ _ _ hlt,←List.append_assoc]
  ·obtain rfl:i=l.length:=by omega
   rw[dv,List.take_length]
   exact⟨_,rfl,rfl⟩) l.length (0,b) fuel ⟨0,rfl,by omega,by simp⟩ (cm (by omega))
 rw[e,hx]
theorem Mw (l:List bL) (hl:l.length≤10) (hf: ∀f∈l,jh f) (s:aG) (b:List UInt8) (hb:b.length≤100):vp fuel l (l.length:Int) s 0 b=some (b++(l.map Aw).flatten):=by
 unfold vp
 obtain⟨x,e,hx⟩:=dI (step:=vn fuel l (l.length:Int) s) (fun k v=> ∃i:Nat,v.1=(i:Int)∧i+k=l.length∧v.2=b++((l.take i).map Aw).flatten)
  (fun r=>r=b++(l.map Aw).flatten) (fun k v hI=>by
  obtain⟨v1,v2⟩:=v
  obtain⟨i,h1,hk,h2⟩:=hI
  simp only at h1 h2
  subst h1 h2
  simp only[vn,s8,get_ite,aE,aD,aC,aF,aL,aK]
  by_cases hlt:i<l.length
  ·have hfo:=hf _ (List.getElem_mem hlt)
   have hbl:(b++((l.take i).map Aw).flatten).length≤500:=by
    rw[List.length_append,tU Aw 38 _ (fun f h=>KM (hf f (List.mem_of_mem_take h))),List.length_take];omega
   rw[dh hlt,bP hlt,Int.toNat_natCast,List.getElem?_eq_getElem hlt]
   simp only[cond_true,aw]
   rw[ad0 _ _ (by omega) hfo.name,aw,Oo _ _ (by rw[cq,List.length_append,xi hfo.name];omega),aw,Yq _ _ (by rw[List.length_append,List.length_append,xi hfo.name,dM];omega) hfo.body,aw,bI (by omega)]
   refine⟨_,rfl,k-1,by omega,i+1,rfl,by omega,?_⟩
   rw[HG _ _ _ hlt]
   simp only[Aw,List.append_assoc]
  ·obtain rfl:i=l.length:=by omega
   rw[dv,List.take_length]
   exact⟨_,rfl,rfl⟩) l.length (0,b) fuel ⟨0,rfl,by omega,by simp⟩ (cm (by omega))
 rw[e,hx]
open Classical in
noncomputable def RY (s:aG):List (List UInt8):=if Good 1073741824 s then jr s else[]
theorem MZ (s:aG) (hn: ∀f∈s.aP,f.Name.length<4294967296):oI fuel s=some (RY s):=by
 unfold oI xR RY
 try simp only[get_ite,aE,aD,aC,aF,aL,aK]
 obtain⟨b,e,hb⟩:=Rw s hn
 rw[e,aw]
 cases b with
 |false=>
  rw[if_neg fun h=>by have:=hb.2 h;cases this]
  rfl
 |true=>
  have hg:=hb.1 rfl
  rw[if_pos hg]
  simp only[Bool.not_true,cond_false]
  rw[Oo _ _ (by rw[cq];simp),aw,Mb _ (by rw[hg.nm];omega) _ _ (by simp[dM]),aw,Mw _ (by rw[hg.nf];omega) hg.fs _ _ (by simp only[List.length_append,dM,List.length_nil];rw[tU y1 10 _ (fun m _=>FJ m),hg.nm];omega),aw]
  have hE:[]++be 4 s.aS++(s.Marks.map y1).flatten++(s.aP.map Aw).flatten=enc s:=by
   unfold enc;simp
  rw[hE,Eu hg]
  rfl
open Go
theorem Pq (a b:List (List UInt8)) (ha:a.length≤1000):il fuel a b=some (a==b):=by
 unfold il jy
 try simp only[get_ite,aE,aD,aC,aF,aL,aK]
 by_cases hl:a.length=b.length
 ·rw[show((a.length:Int) != (b.length:Int))=false by simp;omega]
  simp only[cond_false]
  unfold na
  obtain⟨x,e,hx⟩:=dI (step:=iZ a b (a.length:Int)) (fun k v=> ∃i:Nat,v=(i:Int)∧i+k=a.length∧a.take i=b.take i) (fun r=>Sum.elim (fun _=>a≠b) (fun _=>a=b) r) (fun k v hI=>by
   obtain⟨i,rfl,hk,h⟩:=hI
   simp only[iZ,iD,get_ite,aE,aD,aC,aF,aL,aK]
   by_cases hlt:i<a.length
   ·have hlt2:i<b.length:=by omega
    rw[dh hlt,bP hlt,bP hlt2,Int.toNat_natCast,List.getElem?_eq_getElem hlt,List.getElem?_eq_getElem hlt2]
    simp only[cond_true,aw]
    by_cases he:a[i]=b[i]
    ·rw[eu he,bI (by omega)]
     refine⟨_,rfl,k-1,by omega,i+1,rfl,by omega,?_⟩
     rw[List.take_add_one,List.take_add_one,h,List.getElem?_eq_getElem hlt,List.getElem?_eq_getElem hlt2,he]
    ·rw[dj he]
     refine⟨_,rfl,fun h=>he (by subst h;rfl)⟩
   ·obtain rfl:i=a.length:=by omega
    rw[dv]
    refine⟨_,rfl,?_⟩
    rw[List.take_length,hl,List.take_length]at h
    exact h) a.length (0:Int) fuel ⟨0,rfl,by omega,rfl⟩ (cm (by omega))
  rw[e,aw]
  cases x with
  |inl u=>rw[dj (show a≠b from hx)];rfl
  |inr u=>rw[eu (show a=b from hx)];rfl
 ·rw[show((a.length:Int) != (b.length:Int))=true by simp;omega,dj (fun h=>hl (by rw[h]))]
  rfl
def sD (a b:List (List UInt8)) (i:Nat):Option bB:=match b[i]? with
 |some y=>if a[i]? =some y then none else some ⟨(i:Int),y⟩
 |none=>none
def lA (a b:List (List UInt8)):List bB:=(List.range b.length).filterMap (sD a b)
theorem FR (a b:List (List UInt8)) (n:Nat):((List.range n).filterMap (sD a b)).length≤n:=by
 have:=List.length_filterMap_le (sD a b) (List.range n)
 rwa [List.length_range]at this
theorem CZ (a b:List (List UInt8)) (i:Nat):(List.range (i+1)).filterMap (sD a b)=(List.range i).filterMap (sD a b)++(sD a b i).toList:=by
 rw[List.range_succ,List.filterMap_append]
 congr 1
theorem Tg (a b:List (List UInt8)) (hb:b.length≤1000):Am fuel a b=some (lA a b):=by
 unfold Am vt zn
 try simp only[get_ite,aE,aD,aC,aF,aL,aK]
 obtain⟨x,e,hx⟩:=dI (step:=ta a b (b.length:Int)) (fun k v=> ∃i:Nat,v.1=(i:Int)∧i+k=b.length∧v.2=(List.range i).filterMap (sD a b)) (fun r=>r=lA a b) (fun k v hI=>by
  obtain⟨v1,v2⟩:=v
  obtain⟨i,h1,hk,h2⟩:=hI
  simp only at h1 h2
  subst h1 h2
  simp only[ta,rC,get_ite,aE,aD,aC,aF,aL,aK]
  have hd:=FR a b i
  by_cases hlt:i<b.length
  ·rw[dh hlt,bP hlt,Int.toNat_natCast,List.getElem?_eq_getElem hlt]
   simp only[cond_true,aw]
   rw[decide_eq_true (show((List.range i).filterMap (sD a b)).length+1≤dK by rw[cq];omega),bI (by omega)]
   by_cases ha:i<a.length
   ·rw[decide_eq_false (show ¬(i:Int)≥(a.length:Int)by omega),bP ha,List.getElem?_eq_getElem ha]
    simp only[cond_true,cond_false,aw]
    by_cases he:a[i]=b[i]
    ·rw[eu he]
     refine⟨_,rfl,k-1,by omega,i+1,rfl,by omega,?_⟩
     rw[CZ]
     simp[sD,List.getElem?_eq_getElem hlt,List.getElem?_eq_getElem ha,he]
    ·rw[dj he]
     refine⟨_,rfl,k-1,by omega,i+1,rfl,by omega,?_⟩
     rw[CZ]
     simp[sD,List.getElem?_eq_getElem hlt,List.getElem?_eq_getElem ha,he]
   ·rw[decide_eq_true (show(i:Int)≥(a.length:Int)by omega)]
    refine⟨_,rfl,k-1,by omega,i+1,rfl,by omega,?_⟩
    rw[CZ]
    simp[sD,List.getElem?_eq_getElem hlt,List.getElem?_eq_none (Nat.le_of_not_lt ha)]
  ·obtain rfl:i=b.length:=by omega
   rw[dv]
   exact⟨_,rfl,rfl⟩) b.length (0,[]) fuel ⟨0,rfl,by omega,rfl⟩ (cm (by omega))
 rw[e,aw,hx]
theorem O1 (a:List (List UInt8)):lA a a=[]:=by
 unfold lA
 rw[List.filterMap_eq_nil_iff]
 intro i _
 unfold sD
 cases h:a[i]? with
 |none=>rfl
 |some y=>simp
theorem sz {B:Int} {s:aG} (h:Good B s):(jr s).length=9:=by
 unfold jr ia
 rw[List.length_map,List.length_range,List.length_append,Eu h,List.length_replicate]
theorem Kq {B:Int} {s:aG} (h:Good B s): ∀x∈jr s,x.length=32:=by
 intro x hx
 unfold jr ia at hx
 rw[List.length_append,Eu h,List.length_replicate]at hx
 obtain⟨k,hk,rfl⟩:=List.mem_map.1 hx
 have:=List.mem_range.1 hk
 unfold hZ
 rw[List.length_take,List.length_drop,List.length_append,Eu h,List.length_replicate]
 omega
theorem Ct {s:aG} (h:Good 1073741824 s):RY s=jr s:=by unfold RY;rw[if_pos h]
theorem Fz {B:Int} {s:aG} (h:Good B s): ∀f∈s.aP,f.Name.length<4294967296:=fun f hf=>by have:=(h.fs f hf).name;omega
open Go
def xk (b:List UInt8):Option (bA×List UInt8):=(num 4 b).bind fun p=>(num 1 p.2).bind fun q=>(num 1 q.2).bind fun r=>(num 4 r.2).bind fun u=>some (⟨p.1,q.1,r.1,u.1⟩,u.2)
def rZ (n:Nat) (b:List UInt8):Option (List UInt8×List UInt8):=(text b).bind fun p=>if p.1.length+1≤n∧n≤b.length then some (p.1,b.drop n)else none
def xl (b:List UInt8):Option (bL×List UInt8):=(rZ 9 b).bind fun p=>(num 4 p.2).bind fun q=>(rZ 25 q.2).bind fun r=>some (⟨p.1,q.1,r.1⟩,r.2)
def oc {A:Type} (p:List UInt8→Option (A×List UInt8)):Nat→List UInt8→List A→Option (List A×List UInt8)
 |0,b,l=>some (l,b)
 |n+1,b,l=>(p b).bind fun x=>oc p n x.2 (l++[x.1])
def xj (b:List UInt8):Option aG:=(num 4 b).bind fun e=>(oc xk 3 e.2 []).bind fun m=>(oc xl 6 m.2 []).bind fun f=>some ⟨f.1,m.1,e.1⟩
theorem Nt (b:List UInt8) (k:Nat) (h1:1≤k) (h7:k≤7):db fuel (k:Int) ⟨b⟩=some (match num k b with|some (v,r)=> .inl (v,⟨r⟩)|none=> .inr ()):=by
 unfold db kE
 try simp only[get_ite,aE,aD,aC,aF,aL,aK]
 rw[wg b k h1 h7]
 unfold num
 by_cases h:b.length<k
 ·rw[if_pos h];rfl
 ·rw[if_neg h]
  simp only[aw,Bool.not_true,cond_false]
  rw[e9 (by omega) (by omega) (by omega),pz]
  rfl
theorem QF (b:List UInt8):oH fuel 4 ⟨b⟩=some (match num 4 b with|some (v,r)=> .inl (v,⟨r⟩,b)|none=> .inr ()):=by
 unfold oH mC
 try simp only[get_ite,aE,aD,aC,aF,aL,aK]
 have:=wg b 4 (by omega) (by omega)
 rw[show((4:Nat):Int)=4 from rfl]at this
 rw[this]
 unfold num
 by_cases h:b.length<4
 ·rw[if_pos h];rfl
 ·rw[if_neg h]
  simp only[aw,Bool.not_true,cond_false]
  have hc:=pz b 4
  rw[show((4:Nat):Int)=4 from rfl]at hc
  rw[e9 (by omega) (by omega) (by omega),hc]
  rfl
theorem in1 (b:List UInt8):db fuel 1 ⟨b⟩=some (match num 1 b with|some (v,r)=> .inl (v,⟨r⟩)|none=> .inr ()):=Nt b 1 (by omega) (by omega)
theorem in4 (b:List UInt8):db fuel 4 ⟨b⟩=some (match num 4 b with|some (v,r)=> .inl (v,⟨r⟩)|none=> .inr ()):=Nt b 4 (by omega) (by omega)
theorem Km (b:List UInt8) (n:Nat) (hn:n≤100) (hb:b.length≤dK):fw (n:Int) ⟨b⟩=some (match rZ n b with|some (s,r)=> .inl (s,⟨r⟩)|none=> .inr ()):=by
 unfold fw lJ rZ
 try simp only[get_ite,aE,aD,aC,aF,aL,aK]
 rw[AY b hb]
 cases h:text b with
 |none=>rfl
 |some p=>
  obtain⟨s,r⟩:=p
  simp only[aw,Bool.not_true,cond_false]
  by_cases h1:s.length+1≤n
  ·rw[decide_eq_false (show ¬(s.length:Int)+1>(n:Int)by omega)]
   by_cases h2:n≤b.length
   ·rw[decide_eq_false (show ¬(b.length:Int)<(n:Int)by omega),if_pos ⟨h1,h2⟩,e9 (by omega) (by omega) (by omega),pz]
    rfl
   ·rw[decide_eq_true (show(b.length:Int)<(n:Int)by omega),if_neg (fun h=>h2 h.2)]
    rfl
  ·rw[decide_eq_true (show(s.length:Int)+1>(n:Int)by omega),if_neg (fun h=>h1 h.1)]
   rfl
theorem it9 (b:List UInt8) (hb:b.length≤dK):fw 9 ⟨b⟩=some (match rZ 9 b with|some (s,r)=> .inl (s,⟨r⟩)|none=> .inr ()):=Km b 9 (by omega) hb
theorem aez (b:List UInt8) (hb:b.length≤dK):fw 25 ⟨b⟩=some (match rZ 25 b with|some (s,r)=> .inl (s,⟨r⟩)|none=> .inr ()):=Km b 25 (by omega) hb
theorem wI {n:Nat} {b s r:List UInt8} (h:rZ n b=some (s,r)):s.length+1≤n∧r.length+n=b.length:=by
 unfold rZ at h
 cases ht:text b with
 |none=>rw[ht]at h;cases h
 |some p=>
  rw[ht,aw]at h
  split at h
  ·rename_i hc
   cases h
   exact⟨hc.1,by rw[List.length_drop];omega⟩
  ·cases h
theorem PY (r1:List UInt8) (e:Int): ∀(m i:Nat) (b:List UInt8) (l:List bA) (n:Nat),i+m=3→m<n→l.length+m≤100→ ∃x,iter (kD fuel r1) n ((i:Int),⟨b⟩,⟨[],l,e⟩)=some x∧
  (match oc xk m b l with|some (l',b')=>x= .inr (⟨b'⟩,⟨[],l',e⟩)|none=> ∃y,x= .inl y)
 |_,_,_,_,0,_,h,_=>absurd h (Nat.not_lt_zero _)
 |0,i,b,l,n+1,hi,_,_=>by
  obtain rfl:i=3:=by omega
  rw[bw]
  exact⟨_,rfl,rfl⟩
 |m+1,i,b,l,n+1,hi,hn,hl=>by
  rw[bw]
  simp only[kD,jI,get_ite,aE,aD,aC,aF,aL,aK]
  rw[decide_eq_true (show(i:Int)<3 by omega),in4]
  simp only[cond_true,aw,oc,xk]
  cases h1:num 4 b with
  |none=>exact⟨_,rfl,_,rfl⟩
  |some p=>
   obtain⟨v1,b1⟩:=p
   simp only[bu,aw]
   rw[in1,aw]
   cases h2:num 1 b1 with
   |none=>exact⟨_,rfl,_,rfl⟩
   |some p=>
    obtain⟨v2,b2⟩:=p
    simp only[bu,aw]
    rw[in1,aw]
    cases h3:num 1 b2 with
    |none=>exact⟨_,rfl,_,rfl⟩
    |some p=>
     obtain⟨v3,b3⟩:=p
     simp only[bu,aw]
     rw[in4,aw]
     cases h4:num 4 b3 with
     |none=>exact⟨_,rfl,_,rfl⟩
     |some p=>
      obtain⟨v4,b4⟩:=p
      simp only[bu,aw]
      rw[decide_eq_true (show l.length+1≤dK by rw[cq];omega),bI (by omega)]
      exact PY r1 e m (i+1) b4 (l++[⟨v1,v2,v3,v4⟩]) n (by omega) (by omega) (by simp;omega)
theorem PZ (r1:List UInt8) (e:Int) (mk:List bA): ∀(m i:Nat) (b:List UInt8) (l:List bL) (n:Nat),i+m=6→m<n→l.length+m≤100→b.length≤dK→ ∃x,iter (kC fuel r1) n ((i:Int),⟨b⟩,⟨l,mk,e⟩)=some x∧
  (match oc xl m b l with|some (l',b')=>x= .inr (.inr (⟨b'⟩,⟨l',mk,e⟩))|none=>(∃y,x= .inl y)∨ ∃y,x= .inr (.inl y))
 |_,_,_,_,0,_,h,_,_=>absurd h (Nat.not_lt_zero _)
 |0,i,b,l,n+1,hi,_,_,_=>by
  obtain rfl:i=6:=by omega
  rw[bw]
  exact⟨_,rfl,rfl⟩
 |m+1,i,b,l,n+1,hi,hn,hl,hb=>by
  rw[bw]
  simp only[kC,jH,get_ite,aE,aD,aC,aF,aL,aK]
  rw[decide_eq_true (show(i:Int)<6 by omega),it9 _ hb]
  simp only[cond_true,aw,oc,xl]
  cases h1:rZ 9 b with
  |none=>exact⟨_,rfl,.inl ⟨_,rfl⟩⟩
  |some p=>
   obtain⟨v1,b1⟩:=p
   have hb1:=(wI h1).2
   simp only[bu,aw]
   rw[in4,aw]
   cases h2:num 4 b1 with
   |none=>exact⟨_,rfl,.inl ⟨_,rfl⟩⟩
   |some p=>
    obtain⟨v2,b2⟩:=p
    have hb2:=(eT h2).1
    simp only[bu,aw]
    rw[aez _ (by omega),aw]
    cases h3:rZ 25 b2 with
    |none=>exact⟨_,rfl,.inr ⟨_,rfl⟩⟩
    |some p=>
     obtain⟨v3,b3⟩:=p
     have hb3:=(wI h3).2
     simp only[bu,aw]
     rw[decide_eq_true (show l.length+1≤dK by rw[cq];omega),bI (by omega)]
     exact PZ r1 e mk m (i+1) b3 (l++[⟨v1,v2,v3⟩]) n (by omega) (by omega) (by simp;omega) (by omega)
theorem E3: ∀(m:Nat) (b:List UInt8) (l l':List bA) (b':List UInt8),oc xk m b l=some (l',b')→b'.length≤b.length
 |0,b,l,l',b',h=>by cases h;exact Nat.le_refl _
 |m+1,b,l,l',b',h=>by
  rw[oc]at h
  cases hp:xk b with
  |none=>rw[hp]at h;cases h
  |some p=>
   rw[hp,aw]at h
   have hq:=E3 m _ _ _ _ h
   have hq2:p.2.length≤b.length:=by
    unfold xk at hp
    cases h1:num 4 b with
    |none=>rw[h1]at hp;cases hp
    |some p1=>
     rw[h1,aw]at hp
     cases h2:num 1 p1.2 with
     |none=>rw[h2]at hp;cases hp
     |some p2=>
      rw[h2,aw]at hp
      cases h3:num 1 p2.2 with
      |none=>rw[h3]at hp;cases hp
      |some p3=>
       rw[h3,aw]at hp
       cases h4:num 4 p3.2 with
       |none=>rw[h4]at hp;cases hp
       |some p4=>
        rw[h4,aw]at hp
        cases hp
        have:=(eT h1).1
        have:=(eT h2).1
        have:=(eT h3).1
        have:=(eT h4).1
        show p4.2.length≤_
        omega
   omega
theorem Bo: ∀(m:Nat) (b:List UInt8) (l l':List bL) (b':List UInt8),oc xl m b l=some (l',b')→(∀f∈l,f.Name.length≤8)→ ∀f∈l',f.Name.length≤8
 |0,b,l,l',b',h,hl=>by cases h;exact hl
 |m+1,b,l,l',b',h,hl=>by
  rw[oc]at h
  cases hp:xl b with
  |none=>rw[hp]at h;cases h
  |some p=>
   rw[hp,aw]at h
   refine Bo m _ _ _ _ h fun f hf=> ?_
   rcases List.mem_append.1 hf with hf|hf
   ·exact hl f hf
   ·obtain rfl:=List.mem_singleton.1 hf
    unfold xl at hp
    cases h1:rZ 9 b with
    |none=>rw[h1]at hp;cases hp
    |some p1=>
     rw[h1,aw]at hp
     cases h2:num 4 p1.2 with
     |none=>rw[h2]at hp;cases hp
     |some p2=>
      rw[h2,aw]at hp
      cases h3:rZ 25 p2.2 with
      |none=>rw[h3]at hp;cases hp
      |some p3=>
       rw[h3,aw]at hp
       cases hp
       have:=(wI h1).1
       show p1.1.length≤8
       omega
theorem It {b:List UInt8} {s:aG} (h:xj b=some s): ∀f∈s.aP,f.Name.length<4294967296:=by
 unfold xj at h
 cases h1:num 4 b with
 |none=>rw[h1]at h;cases h
 |some p1=>
  rw[h1,aw]at h
  cases h2:oc xk 3 p1.2 []with
  |none=>rw[h2]at h;cases h
  |some p2=>
   rw[h2,aw]at h
   cases h3:oc xl 6 p2.2 []with
   |none=>rw[h3]at h;cases h
   |some p3=>
    rw[h3,aw]at h
    cases h
    intro f hf
    have:=Bo 6 _ _ _ _ h3 (fun f hf=>by cases hf) f hf
    omega
theorem Il (b:List UInt8) (hb:b.length≤dK): ∃r,nG fuel ⟨b⟩=some r∧(match xj b with|some s=> ∃y,r= .inl (s,y)|none=> ∃y,r= .inr y):=by
 unfold nG lK xj
 try simp only[get_ite,aE,aD,aC,aF,aL,aK]
 rw[QF,aw]
 cases h1:num 4 b with
 |none=>exact⟨_,rfl,_,rfl⟩
 |some p=>
  obtain⟨v1,b1⟩:=p
  have hb1:=(eT h1).1
  simp only[bu,aw]
  obtain⟨x,e,hx⟩:=PY b v1 3 0 b1 [] fuel rfl (cm (by omega)) (by simp)
  have e':pt fuel b 0 ⟨b1⟩ (aG.mk [] [] v1)=some x:=e
  rw[e',aw]
  cases h2:oc xk 3 b1 []with
  |none=>
   rw[h2]at hx
   obtain⟨y,rfl⟩:=hx
   exact⟨_,rfl,_,rfl⟩
  |some p=>
   obtain⟨mk,b2⟩:=p
   rw[h2]at hx
   simp only at hx
   subst hx
   have hb2:=E3 _ _ _ _ _ h2
   simp only[fi,aw]
   obtain⟨x,e,hx⟩:=PZ b v1 mk 6 0 b2 [] fuel rfl (cm (by omega)) (by simp) (by omega)
   have e':pr fuel b 0 ⟨b2⟩ (aG.mk [] mk v1)=some x:=e
   rw[e',aw]
   cases h3:oc xl 6 b2 []with
   |none=>
    rw[h3]at hx
    rcases hx with⟨y,rfl⟩|⟨y,rfl⟩
    ·exact⟨_,rfl,_,rfl⟩
    ·exact⟨_,rfl,_,rfl⟩
   |some p=>
    obtain⟨fl,b3⟩:=p
    rw[h3]at hx
    simp only at hx
    subst hx
    exact⟨_,rfl,_,rfl⟩
theorem Ou {B:Int} {m:bA} (h:nA B m) (hB:B≤1073741824) (s:List UInt8):xk (y1 m++s)=some (m,s):=by
 obtain⟨a0,a1,b0,b1,c0,c1,d0,d1⟩:=h
 unfold xk y1
 simp only[List.append_assoc]
 rw[OD a0 (by omega),aw]
 try simp only
 rw[JZ b0 (by omega),aw]
 try simp only
 rw[JZ c0 (by omega),aw]
 try simp only
 rw[OD d0 (by omega),aw]
theorem GV (n:Nat) (t s:List UInt8) (h:t.length≤n) (hn:n≤100):rZ (n+1) (D8 n t++s)=some (t,s):=by
 unfold rZ
 have hl:=xi h
 have e:text (D8 n t++s)=some (t,List.replicate (n-t.length) 0++s):=by
  unfold D8
  rw[List.append_assoc]
  exact EM t _ (by omega)
 rw[e,aw]
 try simp only
 rw[if_pos ⟨by omega,by rw[List.length_append];omega⟩]
 have:(D8 n t++s).drop (n+1)=s:=by rw[List.drop_append_of_le_length (by omega),List.drop_of_length_le (by omega)];rfl
 rw[this]
theorem Ov {f:bL} (h:jh f) (s:List UInt8):xl (Aw f++s)=some (f,s):=by
 unfold xl Aw
 simp only[List.append_assoc]
 rw[GV 8 f.Name _ h.name (by omega),aw]
 try simp only
 rw[OD h.VC.1 (by have:=h.VC.2;omega),aw]
 try simp only
 rw[GV 24 f.Body _ h.body (by omega),aw]
theorem Cv {A:Type} (p:List UInt8→Option (A×List UInt8)) (g:A→List UInt8): ∀(l acc:List A) (s:List UInt8),(∀x∈l,∀s,p (g x++s)=some (x,s))→oc p l.length ((l.map g).flatten++s) acc=some (acc++l,s)
 |[],acc,s,_=>by simp[oc]
 |x::r,acc,s,h=>by
  rw[List.map_cons,List.flatten_cons,List.append_assoc,List.length_cons,oc,h x (List.mem_cons_self ..),aw]
  try simp only
  rw[Cv p g r _ s (fun y hy=>h y (List.mem_cons_of_mem _ hy)),List.append_assoc]
  rfl
theorem uP {s:aG} (h:Good 1073741824 s) (r:List UInt8):xj (enc s++r)=some s:=by
 unfold xj enc
 simp only[List.append_assoc]
 rw[OD h.e0 (by have:=h.e1;omega),aw]
 try simp only
 have h1:=Cv xk y1 s.Marks [] ((s.aP.map Aw).flatten++r) (fun m hm s=>Ou (h.ms m hm) (Int.le_refl _) s)
 rw[h.nm]at h1
 rw[h1,aw]
 try simp only
 have h2:=Cv xl Aw s.aP [] r (fun f hf s=>Ov (h.fs f hf) s)
 rw[h.nf]at h2
 rw[h2,aw]
 rfl
open Go
theorem Mi (l:List (List UInt8)):BH l []=l.flatten:=by
 unfold BH
 induction l with
 |nil=>rfl
 |cons x r ih=>
  cases r with
  |nil=>simp[List.intercalate]
  |cons y r=>
   rw[List.flatten_cons,←ih]
   simp[List.intercalate,List.intersperse]
theorem EZ (b:List UInt8): ∀n,((List.range n).map (hZ b)).flatten=b.take (32*n)
 |0=>by simp
 |n+1=>by
  rw[List.range_succ,List.map_append,List.flatten_append,EZ b n,List.map_cons,List.map_nil,List.flatten_cons,List.flatten_nil,List.append_nil]
  unfold hZ
  rw[show 32*(n+1)=32*n+32 by omega,List.take_add]
theorem vW (b:List UInt8):(ia b).flatten=b:=by
 unfold ia
 rw[EZ,List.take_of_length_le (by omega)]
theorem Sk {g h:aG} (hg:Good 1073741824 g) (hh:Good 1073741824 h) (e:jr g=jr h):g=h:=by
 have e2:=congrArg List.flatten e
 unfold jr at e2
 rw[vW,vW]at e2
 have h1:=uP hg (List.replicate 26 0)
 rw[e2,uP hh]at h1
 exact(Option.some.inj h1).symm
def taken (l:List (List UInt8)) (r:aG×Bool):Prop:=
 (∃g,Good 1073741824 g∧jr g=l∧r=(g,true))∨((∀g,Good 1073741824 g→jr g≠l)∧r=(⟨[],[],0⟩,false))
theorem N5 {l:List (List UInt8)} {r s:aG×Bool} (h:taken l r) (h2:taken l s):r=s:=by
 rcases h with⟨g,a,b,rfl⟩|⟨a,rfl⟩<;>rcases h2 with⟨k,c,d,rfl⟩|⟨c,rfl⟩
 ·rw[Sk a c (b.trans d.symm)]
 ·exact absurd b (c g a)
 ·exact absurd d (a k c)
 ·rfl
theorem SW (l:List (List UInt8)) (hl:l.length≤1000) (hf:l.flatten.length≤dK): ∃r,Al fuel l=some r∧taken l r:=by
 unfold Al vm Fv
 try simp only[get_ite,aE,aD,aC,aF,aL,aK]
 rw[Mi,decide_eq_true hf]
 simp only[cond_true]
 obtain⟨r,e,hr⟩:=Il l.flatten hf
 rw[e,aw]
 have hno:xj l.flatten=none→ ∀g,Good 1073741824 g→jr g≠l:=by
  intro h g hg hi
  have e2:=congrArg List.flatten hi
  unfold jr at e2
  rw[vW]at e2
  rw[←e2,uP hg]at h
  cases h
 cases hp:xj l.flatten with
 |none=>
  rw[hp]at hr
  obtain⟨y,rfl⟩:=hr
  simp only[fi]
  cases y with
  |inl a=>exact⟨_,rfl,.inr ⟨hno hp,rfl⟩⟩
  |inr a=>exact⟨_,rfl,.inr ⟨hno hp,rfl⟩⟩
 |some s=>
  rw[hp]at hr
  obtain⟨y,rfl⟩:=hr
  simp only[bu]
  have hs:=It hp
  have hthe: ∀g,Good 1073741824 g→jr g=l→g=s:=by
   intro g hg hi
   have e2:=congrArg List.flatten hi
   unfold jr at e2
   rw[vW]at e2
   rw[←e2,uP hg]at hp
   exact Option.some.inj hp
  obtain⟨b,eb,hb⟩:=Rw s hs
  rw[eb,aw]
  cases b with
  |false=>
   refine⟨_,rfl,.inr ⟨fun g hg hi=> ?_,rfl⟩⟩
   have:=hb.2 (hthe g hg hi▸hg)
   cases this
  |true=>
   have hg:=hb.1 rfl
   simp only[Bool.not_true,cond_false]
   rw[MZ s hs,aw,Ct hg,Pq _ _ (by rw[sz hg];omega),aw]
   by_cases hi:jr s=l
   ·rw[eu hi]
    exact⟨_,rfl,.inl ⟨s,hg,hi,rfl⟩⟩
   ·rw[dj hi]
    exact⟨_,rfl,.inr ⟨fun g hg2 hi2=>hi (hthe g hg2 hi2▸hi2),rfl⟩⟩
open Go
open Go
theorem Sq (l:List (List UInt8)) (h: ∀x∈l,x.length≤100):l.flatten.length≤100*l.length:=by
 induction l with
 |nil=>simp
 |cons x r ih=>
  have:=ih fun y hy=>h y (List.mem_cons_of_mem _ hy)
  have:=h x (List.mem_cons_self ..)
  rw[List.flatten_cons,List.length_append,List.length_cons]
  omega
theorem yP {a b:List (List UInt8)} {i:Nat} {p:bB}:sD a b i=some p↔ ∃y,b[i]? =some y∧a[i]? ≠some y∧p=⟨(i:Int),y⟩:=by
 unfold sD
 cases h:b[i]? with
 |none=>simp
 |some y=>
  try simp only
  by_cases he:a[i]? =some y
  ·rw[if_pos he]
   simp[he]
  ·rw[if_neg he]
   constructor
   ·intro h;cases h;exact⟨y,rfl,he,rfl⟩
   ·rintro⟨y',h1,_,rfl⟩
    cases h1
    rfl
theorem Ff {a b:List (List UInt8)} {p:bB} (h:p∈lA a b): ∃(i:Nat) (y:List UInt8),i<b.length∧b[i]? =some y∧a[i]? ≠some y∧p=⟨(i:Int),y⟩:=by
 unfold lA at h
 obtain⟨i,hi,h2⟩:=List.mem_filterMap.1 h
 obtain⟨y,h3,h4,h5⟩:=yP.1 h2
 exact⟨i,y,List.mem_range.1 hi,h3,h4,h5⟩
theorem KS {a b:List (List UInt8)} {i:Nat} {y:List UInt8} (h:b[i]? =some y) (hn:a[i]? ≠some y):(⟨(i:Int),y⟩:bB)∈lA a b:=by
 unfold lA
 exact List.mem_filterMap.2 ⟨i,List.mem_range.2 (og h),yP.2 ⟨y,h,hn,rfl⟩⟩
theorem DM (a b:List (List UInt8)):(lA a b).Pairwise (fun x y=>x.At<y.At):=by
 unfold lA
 refine List.Pairwise.filterMap _ ?_ List.pairwise_lt_range
 intro i j hij x hx y hy
 obtain⟨_,_,_,rfl⟩:=yP.1 hx
 obtain⟨_,_,_,rfl⟩:=yP.1 hy
 show(i:Int)<(j:Int)
 omega
theorem Q0 {a b:List (List UInt8)} (hl:a.length=b.length):lA a b=[]↔a=b:=by
 constructor
 ·intro h
  apply List.ext_getElem?
  intro i
  cases hb:b[i]? with
  |none=>rw[List.getElem?_eq_none_iff]at hb⊢;omega
  |some y=>
   refine Classical.byContradiction fun hn=> ?_
   have:=KS hb hn
   rw[h]at this
   cases this
 ·intro h;subst h;exact O1 a
open Go
def de:List UInt8:=[0,0,0,0,0,0,0,0,0,0,0,0,0,0,0,0,0,0,0,0,0,0,0,0,0,0,0,0,0,0,0,0]
def Cc (n:Nat) (p:bB):Prop:=0≤p.At∧p.At<n∧p.B.length=32
structure Cd (d:aN):Prop where
 last: ∀x∈d.aU,x.length=32
 len:d.aU.length≤1000
 wait: ∀p∈d.bC,Cc d.aU.length p
 Ue:d.bC.length≤1000
 a0:0≤d.gR
 a1:d.gR≤1000
def dw (d:aN) (p:bB):aN:=if d.gR>0 then⟨d.aU,d.bC++[p],d.gR-1,d.gR-1==0⟩else⟨d.aU,d.bC++[p],d.gR,d.Down⟩
def wr (L:List (List UInt8)) (ws:List bB):List (List UInt8):=ws.foldl (fun L p=>L.set p.At.toNat p.B) L
def bK (d:aN):aN:=⟨wr d.aU d.bC,[],d.gR,d.Down⟩
theorem fq (d:aN) (p:bB):(dw d p).aU=d.aU:=by unfold dw;split<;>rfl
theorem mK (d:aN) (p:bB):(dw d p).bC=d.bC++[p]:=by unfold dw;split<;>rfl
theorem HX (d:aN) (hd:Cd d) (hw:d.bC.length<1000) (hdn:d.Down=false) (i:Int) (b:List UInt8) (hp:Cc d.aU.length ⟨i,b⟩):rF d i b=some (dw d ⟨i,b⟩,!(dw d ⟨i,b⟩).Down):=by
 obtain⟨h0,h1,h2⟩:=hp
 simp only at h0 h1 h2
 have ha0:=hd.a0
 have ha1:=hd.a1
 unfold rF vJ
 try simp only[get_ite,aE,aD,aC,aF,aL,aK]
 have ht:Ay d i=true:=by
  unfold Ay vI
  try simp only[get_ite,aE,aD,aC,aF,aL,aK]
  rw[hdn,decide_eq_true (show i≥0 from h0),decide_eq_true h1]
  rfl
 rw[ht,h2,decide_eq_true (show d.bC.length+1≤dK by rw[cq];omega),bh (show-9223372036854775808≤d.gR-1 by omega) (by omega)]
 unfold dw
 by_cases ha:d.gR>0
 ·rw[decide_eq_true ha,if_pos ha];rfl
 ·rw[decide_eq_false ha,if_neg ha];rfl
theorem rX {d:aN} (hd:Cd d) (hw:d.bC.length<1000) {p:bB} (hp:Cc d.aU.length p):Cd (dw d p):=by
 refine⟨by rw[fq];exact hd.last,by rw[fq];exact hd.len,?_,by rw[mK];simp;omega,?_,?_⟩
 ·rw[fq,mK]
  intro q hq
  rcases List.mem_append.1 hq with hq|hq
  ·exact hd.wait q hq
  ·rw[List.mem_singleton.1 hq];exact hp
 ·have:=hd.a0
  unfold dw
  split
  ·show 0≤d.gR-1;omega
  ·exact this
 ·have:=hd.a1
  unfold dw
  split
  ·show d.gR-1≤1000;omega
  ·exact this
def NV (d:aN):bc ⊕ bc:=bif d.Down then .inr ⟨d⟩else .inl ⟨d⟩
theorem yy (d:aN) (hd:Cd d) (hw:d.bC.length<1000) (hdn:d.Down=false) (i:Int) (b:List UInt8) (hp:Cc d.aU.length ⟨i,b⟩):eU i b ⟨d⟩=some (NV (dw d ⟨i,b⟩)):=by
 unfold eU jG
 try simp only[get_ite,aE,aD,aC,aF,aL,aK]
 rw[HX d hd hw hdn i b hp,aw]
 unfold fb gd NV
 try simp only[get_ite,aE,aD,aC,aF,aL,aK]
 cases (dw d ⟨i,b⟩).Down<;>rfl
theorem NU (d:aN) (hd:Cd d) (hw:d.bC.length<1000) (hdn:d.Down=false) (i:Int) (b:List UInt8) (hp:Cc d.aU.length ⟨i,b⟩):jY i b ⟨d⟩=some (bif (dw d ⟨i,b⟩).Down then .inr (⟨dw d ⟨i,b⟩⟩,d.aU,d.bC)else .inl (⟨dw d ⟨i,b⟩⟩,d.aU,d.bC)):=by
 unfold jY lH
 try simp only[get_ite,aE,aD,aC,aF,aL,aK]
 rw[HX d hd hw hdn i b hp,aw]
 unfold fb gd
 try simp only[get_ite,aE,aD,aC,aF,aL,aK]
 cases (dw d ⟨i,b⟩).Down<;>rfl
theorem iy (ws:List bB): ∀L:List (List UInt8),(wr L ws).length=L.length:=by
 induction ws with
 |nil=>intro L;rfl
 |cons p r ih=>intro L;show(wr (L.set p.At.toNat p.B) r).length=_;rw[ih,List.length_set]
theorem H2 (ws:List bB): ∀L:List (List UInt8),(∀x∈L,x.length=32)→(∀p∈ws,p.B.length=32)→ ∀x∈wr L ws,x.length=32:=by
 induction ws with
 |nil=>intro L h _;exact h
 |cons p r ih=>
  intro L h hp
  refine ih _ (fun x hx=> ?_) (fun q hq=>hp q (List.mem_cons_of_mem _ hq))
  rcases List.mem_or_eq_of_mem_set hx with hx|rfl
  ·exact h x hx
  ·exact hp p (List.mem_cons_self ..)
theorem Ud (L:List (List UInt8)) (a b:List bB):wr L (a++b)=wr (wr L a) b:=List.foldl_append ..
theorem Sf (p:bB) (d:aN) (hl: ∀x∈d.aU,x.length=32) (hp:Cc d.aU.length p):mF p 32 ⟨d⟩=some ⟨⟨d.aU.set p.At.toNat p.B,d.bC,d.gR,d.Down⟩⟩:=by
 obtain⟨h0,h1,h2⟩:=hp
 have hlt:p.At.toNat<d.aU.length:=by omega
 have hy:=hl _ (List.getElem_mem hlt)
 unfold mF kH
 try simp only[get_ite,aE,aD,aC,aF,aL,aK]
 rw[decide_eq_false (show ¬p.At<0 by omega),decide_eq_false (show ¬p.At≥(d.aU.length:Int)by omega),fO h0 h1,List.getElem?_eq_getElem hlt]
 simp only[cond_true,cond_false,aw]
 rw[h2,hy]
 have hm:imax (ew (ew 32 ((32:Nat):Int)) ((32:Nat):Int)) 0=((32:Nat):Int):=by decide
 rw[hm,e9 (by omega) (by omega) (by omega),mW]
 have hc:eo d.aU[p.At.toNat] ((32:Nat):Int) ((32:Nat):Int)=[]:=by
  unfold eo
  rw[List.drop_of_length_le (by rw[List.length_take];exact Nat.min_le_left _ _)]
 rw[hc,List.take_of_length_le (by omega),decide_eq_true (show p.B.length+([]:List UInt8).length≤dK by rw[h2,cq];simp),List.append_nil]
 rfl
theorem KU (o:aN) (t:aN) (L0:List (List UInt8)) (ws:List bB) (d:aN) (hd: ∀x∈d.aU,x.length=32) (hw: ∀p∈ws,Cc d.aU.length p) (hl:ws.length≤1000):
  ∃o',th fuel ws (ws.length:Int) o 0 t ⟨d⟩=some (o',⟨⟨wr d.aU ws,d.bC,d.gR,d.Down⟩⟩):=by
 unfold th
 obtain⟨x,e,hx⟩:=dI (step:=tg ws (ws.length:Int) o) (fun k v=> ∃i:Nat,v.1=(i:Int)∧i+k=ws.length∧v.2.2=⟨⟨wr d.aU (ws.take i),d.bC,d.gR,d.Down⟩⟩) (fun r=>r.2=⟨⟨wr d.aU ws,d.bC,d.gR,d.Down⟩⟩) (fun k v hI=>by
  obtain⟨v1,v2,v3⟩:=v
  obtain⟨i,h1,hk,h2⟩:=hI
  simp only at h1 h2
  subst h1 h2
  simp only[tg,rG,get_ite,aE,aD,aC,aF,aL,aK]
  by_cases hlt:i<ws.length
  ·rw[dh hlt,bP hlt,Int.toNat_natCast,List.getElem?_eq_getElem hlt]
   simp only[cond_true,aw]
   rw[Sf ws[i] _ (H2 _ _ hd (fun p hp=>(hw p (List.mem_of_mem_take hp)).2.2)) (by show Cc (wr d.aU (ws.take i)).length ws[i];rw[iy];exact hw _ (List.getElem_mem hlt)),aw,bI (by omega)]
   refine⟨_,rfl,k-1,by omega,i+1,rfl,by omega,?_⟩
   rw[List.take_add_one,List.getElem?_eq_getElem hlt,Ud]
   rfl
  ·obtain rfl:i=ws.length:=by omega
   rw[dv]
   exact⟨_,rfl,by rw[List.take_length];rfl⟩) ws.length (0,t,⟨d⟩) fuel ⟨0,rfl,by omega,rfl⟩ (cm (by omega))
 exact⟨x.1,by rw[e,←hx]⟩
theorem Pr (d:aN) (hd:Cd d) (hdn:d.Down=false):vL fuel d=some (bK d,true):=by
 unfold vL vK
 try simp only[get_ite,aE,aD,aC,aF,aL,aK]
 rw[hdn]
 obtain⟨o',e⟩:=KU d (aN.mk [] [] 0 false) d.aU d.bC d hd.last hd.wait hd.Ue
 simp only[cond_false]
 rw[e,aw]
 unfold bK
 rw[hdn]
theorem mE {d:aN} (hd:Cd d):Cd (bK d):=by
 refine⟨H2 _ _ hd.last (fun p hp=>(hd.wait p hp).2.2),by show(wr d.aU d.bC).length≤1000;rw[iy];exact hd.len,(fun p hp=>nomatch hp),by show(0:Nat)≤1000;omega,hd.a0,hd.a1⟩
theorem tD (d:aN) (hd:Cd d) (hdn:d.Down=false):eN fuel ⟨d⟩=some (.inl ⟨bK d⟩):=by
 unfold eN lI
 try simp only[get_ite,aE,aD,aC,aF,aL,aK]
 rw[Pr d hd hdn,aw]
 rfl
def cK (d:aN):List bB→aN×Bool
 |[]=>(d,true)
 |p::r=>bif (dw d p).Down then(dw d p,false)else cK (dw d p) r
theorem tC: ∀(ws:List bB) (d:aN),d.Down=false→0≤d.gR→(d.gR=0∨(ws.length:Int)<d.gR)→cK d ws=(⟨d.aU,d.bC++ws,if d.gR=0 then 0 else d.gR-ws.length,false⟩,true)
 |[],d,hdn,h0,_=>by
  obtain⟨L,W,A,D⟩:=d
  simp only at hdn h0
  subst hdn
  unfold cK
  simp only[List.append_nil,List.length_nil]
  by_cases hA:A=0
  ·rw[if_pos hA,hA]
  ·rw[if_neg hA];simp
 |p::r,d,hdn,h0,h=>by
  rw[List.length_cons]at h
  have hnd:(dw d p).Down=false:=by
   unfold dw
   by_cases ha:d.gR>0
   ·rw[if_pos ha];show(d.gR-1==0)=false;exact dj (by omega)
   ·rw[if_neg ha];exact hdn
  have harm:(dw d p).gR=if d.gR=0 then 0 else d.gR-1:=by
   unfold dw
   by_cases ha:d.gR>0
   ·rw[if_pos ha,if_neg (by omega)]
   ·rw[if_neg ha,if_pos (by omega)];show d.gR=0;omega
  rw[cK,hnd,cond_false,tC r _ hnd (by rw[harm];split<;>omega) (by rw[harm];split<;>omega),fq,mK,harm,List.append_assoc,List.length_cons]
  congr 2
  split
  ·simp
  ·rw[if_neg (by omega)];omega
theorem Cf: ∀(ws:List bB) (d:aN),d.Down=false→1≤d.gR→d.gR≤(ws.length:Int)→cK d ws=(⟨d.aU,d.bC++ws.take d.gR.toNat,0,true⟩,false)
 |[],d,_,h1,h2=>by simp at h2;omega
 |p::r,d,hdn,h1,h2=>by
  rw[List.length_cons]at h2
  rw[cK]
  by_cases ha:d.gR=1
  ·have:dw d p=⟨d.aU,d.bC++[p],0,true⟩:=by unfold dw;rw[if_pos (by omega),ha];rfl
   rw[this,ha]
   rfl
  ·have hw:dw d p=⟨d.aU,d.bC++[p],d.gR-1,false⟩:=by
    unfold dw;rw[if_pos (by omega)]
    congr 1
    exact dj (by omega)
   rw[hw,cond_false,Cf r _ rfl (by show 1≤d.gR-1;omega) (by show d.gR-1≤_;omega)]
   show(aN.mk d.aU (d.bC++[p]++r.take (d.gR-1).toNat) 0 true,false)=_
   rw[List.append_assoc,show d.gR.toNat=(d.gR-1).toNat+1 by omega]
   rfl
theorem uh: ∀(ws:List bB) (d:aN),d.Down=false→((cK d ws).2=true∧(cK d ws).1.Down=false)∨((cK d ws).2=false∧(cK d ws).1.Down=true)
 |[],d,h=> .inl ⟨rfl,h⟩
 |p::r,d,h=>by
  rw[cK]
  cases hp:(dw d p).Down with
  |true=>exact .inr ⟨rfl,hp⟩
  |false=>exact uh r _ hp
theorem tz: ∀(ws:List bB) (d:aN),Cd d→d.bC.length+ws.length≤1000→(∀p∈ws,Cc d.aU.length p)→Cd (cK d ws).1
 |[],d,h,_,_=>h
 |p::r,d,h,hl,hp=>by
  rw[List.length_cons]at hl
  have h1:=rX h (by omega) (hp p (List.mem_cons_self ..))
  rw[cK]
  cases (dw d p).Down with
  |true=>exact h1
  |false=>exact tz r _ h1 (by rw[mK];simp;omega) (fun q hq=>by rw[fq];exact hp q (List.mem_cons_of_mem _ hq))
open Go
structure Valid (home:Nat) (l:List bB):Prop where
 len:l.length≤16
 each: ∀p∈l,Cc home p
 sorted:l.Pairwise fun p q=>p.At<q.At
theorem UH (d:aN) (home:Nat) (l:List bB) (hv:Valid home l) (hn:home+l.length<d.aU.length) (hN:d.aU.length≤1000):Fu fuel d (home:Int) l=some true:=by
 unfold Fu Aj DE
 try simp only[get_ite,aE,aD,aC,aF,aL,aK]
 have hlen:=hv.len
 obtain⟨x,e,hx⟩:=dI (step:=xM (home:Int) l l (l.length:Int) d) (fun k v=> ∃i:Nat,v.2=(i:Int)∧i+k=l.length∧ ∀p∈l.drop i,v.1<p.At) (fun r=>r= .inr ()) (fun k v hI=>by
  obtain⟨v1,v2⟩:=v
  obtain⟨i,h1,hk,h2⟩:=hI
  simp only at h1 h2
  subst h1
  simp only[xM,vk,get_ite,aE,aD,aC,aF,aL,aK]
  by_cases hlt:i<l.length
  ·have hdr:l.drop i=l[i] ::l.drop (i+1):=List.drop_eq_getElem_cons hlt
   have hs:=hv.sorted.sublist (List.drop_sublist i l)
   rw[hdr]at h2 hs
   obtain⟨g0,g1,g2⟩:=hv.each _ (List.getElem_mem hlt)
   have g3:=h2 _ (List.mem_cons_self ..)
   rw[dh hlt,bP hlt,Int.toNat_natCast,List.getElem?_eq_getElem hlt]
   simp only[cond_true,aw]
   rw[decide_eq_false (show ¬l[i].At≤v1 by omega),decide_eq_false (show ¬l[i].At≥(home:Int)by omega),g2,bI (by omega)]
   exact⟨_,rfl,k-1,by omega,i+1,rfl,by omega,fun p hp=>List.rel_of_pairwise_cons hs hp⟩
  ·obtain rfl:i=l.length:=by omega
   rw[dv]
   exact⟨_,rfl,rfl⟩) l.length (-1,0) fuel ⟨0,rfl,by omega,fun p hp=>by have:=(hv.each p hp).1;show(-1:Int)<p.At;omega⟩ (cm (by omega))
 rw[e,hx,aw]
 simp only[fi]
 rw[decide_eq_true (show(l.length:Int)≤16 by omega),bh (by omega) (by omega),decide_eq_true (show(home:Int)+(l.length:Int)<(d.aU.length:Int)by omega)]
 rfl
def cV (l:List bB):List UInt8:=1::b8 (l.length:Int) ::(l.map (fun p=>b8 p.At)++(List.replicate (29-l.length) 0++[1]))
theorem qF (l:List bB) (h:l.length≤16):(cV l).length=32:=by
 unfold cV
 simp only[List.length_cons,List.length_append,List.length_map,List.length_replicate,List.length_nil]
 omega
def BL (l:List bB) (i:Nat):List UInt8:=1::b8 (l.length:Int) ::((l.take i).map (fun p=>b8 p.At)++(List.replicate (29-i) 0++[1]))
theorem Mn (l:List bB) (i:Nat) (h:i<l.length) (h16:l.length≤16):(BL l i).set (2+i) (b8 l[i].At)=BL l (i+1):=by
 unfold BL
 rw[show 2+i=i+1+1 by omega,List.set_cons_succ,List.set_cons_succ]
 congr 2
 rw[List.set_append_right _ _ (by rw[List.length_map,List.length_take];omega),List.length_map,List.length_take,show i-min i l.length=0 by omega,show 29-i=(29-(i+1))+1 by omega,List.replicate_succ,List.cons_append,List.set_cons_zero,List.take_add_one,List.getElem?_eq_getElem h,List.map_append,List.append_assoc]
 rfl
theorem Et (l:List bB) (h16:l.length≤16) (hp: ∀p∈l,0≤p.At∧p.At<256):CI fuel l=some (cV l):=by
 unfold CI xN
 try simp only[get_ite,aE,aD,aC,aF,aL,aK]
 have e0:(([0,0,0,0,0,0,0,0,0,0,0,0,0,0,0,0,0,0,0,0,0,0,0,0,0,0,0,0,0,0,0,0]:List Nat).set 0 1)[1]? =some 0:=rfl
 have e1:((([0,0,0,0,0,0,0,0,0,0,0,0,0,0,0,0,0,0,0,0,0,0,0,0,0,0,0,0,0,0,0,0]:List UInt8).set 0 1).set 1 (b8 (qj (l.length:Int))))[31]? =some 0:=rfl
 have e2:cN 1 (([0,0,0,0,0,0,0,0,0,0,0,0,0,0,0,0,0,0,0,0,0,0,0,0,0,0,0,0,0,0,0,0]:List Nat).set 0 1).length=true:=rfl
 have e3:cN 31 ((([0,0,0,0,0,0,0,0,0,0,0,0,0,0,0,0,0,0,0,0,0,0,0,0,0,0,0,0,0,0,0,0]:List UInt8).set 0 1).set 1 (b8 (qj (l.length:Int)))).length=true:=rfl
 rw[e2,e0,e3,e1]
 simp only[cond_true,aw]
 have e4:((([0,0,0,0,0,0,0,0,0,0,0,0,0,0,0,0,0,0,0,0,0,0,0,0,0,0,0,0,0,0,0,0]:List UInt8).set 0 1).set 1 (b8 (qj (l.length:Int)))).set 31 1=BL l 0:=by
  rw[HZ (by omega) (by omega)]
  rfl
 rw[e4]
 unfold BF
 obtain⟨x,e,hx⟩:=dI (step:=vl l (l.length:Int)) (fun k v=> ∃i:Nat,v.1=(i:Int)∧i+k=l.length∧v.2=BL l i) (fun r=>r=cV l) (fun k v hI=>by
  obtain⟨v1,v2⟩:=v
  obtain⟨i,h1,hk,h2⟩:=hI
  simp only at h1 h2
  subst h1 h2
  simp only[vl,s6,get_ite,aE,aD,aC,aF,aL,aK]
  by_cases hlt:i<l.length
  ·obtain⟨g0,g1⟩:=hp _ (List.getElem_mem hlt)
   have hlen:2+i<(BL l i).length:=by
    unfold BL
    simp only[List.length_cons,List.length_append,List.length_map,List.length_replicate,List.length_nil,List.length_take]
    omega
   rw[dh hlt,bP hlt,Int.toNat_natCast,List.getElem?_eq_getElem hlt]
   simp only[cond_true,aw]
   rw[bh (show-9223372036854775808≤2+(i:Int)by omega) (by omega),show 2+(i:Int)=((2+i:Nat):Int)by omega,bP hlen,Int.toNat_natCast,List.getElem?_eq_getElem hlen]
   simp only[cond_true,aw]
   rw[HZ g0 g1,Mn l i hlt h16,bI (by omega)]
   exact⟨_,rfl,k-1,by omega,i+1,rfl,by omega,rfl⟩
  ·obtain rfl:i=l.length:=by omega
   rw[dv]
   refine⟨_,rfl,?_⟩
   unfold BL cV
   rw[List.take_length]
   rfl) l.length (0,BL l 0) fuel ⟨0,rfl,by omega,rfl⟩ (cm (by omega))
 rw[e,hx]
 rfl
def cu:Nat→List bB→List bB
 |_,[]=>[]
 |n,p::r=>⟨(n:Int),p.B⟩ ::cu (n+1) r
theorem vS: ∀(n:Nat) (l:List bB),(cu n l).length=l.length
 |_,[]=>rfl
 |n,p::r=>by rw[cu,List.length_cons,List.length_cons,vS]
theorem k9: ∀(n:Nat) (l:List bB) (q:bB),q∈cu n l→ ∃p∈l,(n:Int)≤q.At∧q.At<((n+l.length:Nat):Int)∧q.B=p.B
 |_,[],_,h=>by cases h
 |n,p::r,q,h=>by
  rw[cu]at h
  rcases List.mem_cons.1 h with rfl|h
  ·exact⟨p,List.mem_cons_self ..,by show(n:Int)≤n;omega,by show(n:Int)<_;rw[List.length_cons];omega,rfl⟩
  ·obtain⟨p',h1,h2,h3,h4⟩:=k9 (n+1) r q h
   exact⟨p',List.mem_cons_of_mem _ h1,by omega,by rw[List.length_cons];omega,h4⟩
theorem HR (home:Nat) (l t:List bB) (o:aN) (ok:Bool) (r4:List (List UInt8)) (r5:List bB) (hh:home≤1000) (hl:t.length≤16): ∀(r:List bB) (i:Nat) (d:aN) (x:aN) (n:Nat),t.drop i=r→i≤t.length→r.length<n→Cd d→d.Down=false→d.bC.length+r.length<1000→(∀p∈cu (home+1+i) r,Cc d.aU.length p)→
  ∃z,iter (nF (home:Int) l t (t.length:Int) o ok r4 r5) n ((i:Int),x,⟨d⟩)=some z∧(((cK d (cu (home+1+i) r)).2=true∧ ∃y,z= .inr (y,⟨(cK d (cu (home+1+i) r)).1⟩))∨((cK d (cu (home+1+i) r)).2=false∧ ∃y u,z= .inl (y,⟨(cK d (cu (home+1+i) r)).1⟩,u)))
 |_,_,_,_,0,_,_,h,_,_,_,_=>absurd h (Nat.not_lt_zero _)
 |[],i,d,x,n+1,hdr,hi,_,hd,hdn,_,_=>by
  obtain rfl:i=t.length:=Nat.le_antisymm hi (List.drop_eq_nil_iff.1 hdr)
  rw[bw]
  simp only[nF,me,get_ite,aE,aD,aC,aF,aL,aK,dv,cond_false]
  exact⟨_,rfl,.inl ⟨rfl,_,rfl⟩⟩
 |p::r,i,d,x,n+1,hdr,hi,hn,hd,hdn,hw,hp=>by
  have hlt:i<t.length:=by
   rcases Nat.lt_or_ge i t.length with h|h
   ·exact h
   ·rw[List.drop_eq_nil_iff.2 h]at hdr;cases hdr
  have hd2:t.drop i=t[i] ::t.drop (i+1):=List.drop_eq_getElem_cons hlt
  rw[hdr]at hd2
  obtain⟨e1,e2⟩:=List.cons.inj hd2
  rw[bw]
  simp only[nF,me,get_ite,aE,aD,aC,aF,aL,aK]
  rw[List.length_cons]at hw hn
  have hpk:=hp _ (by rw[cu];exact List.mem_cons_self ..)
  rw[dh hlt,bP hlt,Int.toNat_natCast,List.getElem?_eq_getElem hlt,←e1]
  simp only[cond_true,aw]
  rw[bh (show-9223372036854775808≤(home:Int)+1 by omega) (by omega),bh (show-9223372036854775808≤(home:Int)+1+(i:Int)by omega) (by omega),show(home:Int)+1+(i:Int)=((home+1+i:Nat):Int)by omega,yy d hd (by omega) hdn _ _ hpk,aw,cu,cK]
  unfold NV
  cases hD:(dw d ⟨((home+1+i:Nat):Int),p.B⟩).Down with
  |true=>exact⟨_,rfl,.inr ⟨rfl,_,_,rfl⟩⟩
  |false=>
   simp only[cond_false,bu]
   rw[bI (by omega)]
   exact HR home l t o ok r4 r5 hh hl r (i+1) (dw d ⟨((home+1+i:Nat):Int),p.B⟩) _ n e2.symm hlt (by omega) (rX hd (by omega) hpk) hD (by rw[mK];simp;omega) (fun q hq=>by rw[fq];exact hp q (by rw[cu];exact List.mem_cons_of_mem _ hq))
theorem G9 (t:List bB) (o:aN) (ok:Bool) (r4:List (List UInt8)) (r5:List bB) (hl:t.length≤16): ∀(r:List bB) (i:Nat) (d:aN) (x:aN) (n:Nat),t.drop i=r→i≤t.length→r.length<n→Cd d→d.Down=false→d.bC.length+r.length<1000→(∀p∈r,Cc d.aU.length p)→
  ∃z,iter (nE t (t.length:Int) o ok r4 r5) n ((i:Int),x,⟨d⟩)=some z∧(((cK d r).2=true∧ ∃y,z= .inr (y,⟨(cK d r).1⟩))∨((cK d r).2=false∧ ∃y u,z= .inl (y,⟨(cK d r).1⟩,u)))
 |_,_,_,_,0,_,_,h,_,_,_,_=>absurd h (Nat.not_lt_zero _)
 |[],i,d,x,n+1,hdr,hi,_,hd,hdn,_,_=>by
  obtain rfl:i=t.length:=Nat.le_antisymm hi (List.drop_eq_nil_iff.1 hdr)
  rw[bw]
  simp only[nE,mc,get_ite,aE,aD,aC,aF,aL,aK,dv,cond_false]
  exact⟨_,rfl,.inl ⟨rfl,_,rfl⟩⟩
 |p::r,i,d,x,n+1,hdr,hi,hn,hd,hdn,hw,hp=>by
  have hlt:i<t.length:=by
   rcases Nat.lt_or_ge i t.length with h|h
   ·exact h
   ·rw[List.drop_eq_nil_iff.2 h]at hdr;cases hdr
  have hd2:t.drop i=t[i] ::t.drop (i+1):=List.drop_eq_getElem_cons hlt
  rw[hdr]at hd2
  obtain⟨e1,e2⟩:=List.cons.inj hd2
  rw[bw]
  simp only[nE,mc,get_ite,aE,aD,aC,aF,aL,aK]
  rw[List.length_cons]at hw hn
  have hpk:=hp p (List.mem_cons_self ..)
  rw[dh hlt,bP hlt,Int.toNat_natCast,List.getElem?_eq_getElem hlt,←e1]
  simp only[cond_true,aw]
  rw[yy d hd (by omega) hdn _ _ hpk,aw,cK]
  unfold NV
  cases hD:(dw d p).Down with
  |true=>exact⟨_,rfl,.inr ⟨rfl,_,_,rfl⟩⟩
  |false=>
   simp only[cond_false,bu]
   rw[bI (by omega)]
   exact G9 t o ok r4 r5 hl r (i+1) (dw d p) _ n e2.symm hlt (by omega) (rX hd (by omega) hpk) hD (by rw[mK];simp;omega) (fun q hq=>by rw[fq];exact hp q (List.mem_cons_of_mem _ hq))
def rounds (d:aN) (home:Nat) (l:List bB):aN×Bool:=
 bif (dw d ⟨(home:Int),de⟩).Down then(dw d ⟨(home:Int),de⟩,false)
 else bif (cK (bK (dw d ⟨(home:Int),de⟩)) (cu (home+1) l)).2 then
  (bif (dw (bK (cK (bK (dw d ⟨(home:Int),de⟩)) (cu (home+1) l)).1) ⟨(home:Int),cV l⟩).Down then(dw (bK (cK (bK (dw d ⟨(home:Int),de⟩)) (cu (home+1) l)).1) ⟨(home:Int),cV l⟩,false)
  else bif (cK (bK (dw (bK (cK (bK (dw d ⟨(home:Int),de⟩)) (cu (home+1) l)).1) ⟨(home:Int),cV l⟩)) l).2 then(bK (cK (bK (dw (bK (cK (bK (dw d ⟨(home:Int),de⟩)) (cu (home+1) l)).1) ⟨(home:Int),cV l⟩)) l).1,true)
   else((cK (bK (dw (bK (cK (bK (dw d ⟨(home:Int),de⟩)) (cu (home+1) l)).1) ⟨(home:Int),cV l⟩)) l).1,false))
 else((cK (bK (dw d ⟨(home:Int),de⟩)) (cu (home+1) l)).1,false)
theorem ug: ∀(ws:List bB) (d:aN),(cK d ws).1.aU=d.aU
 |[],d=>rfl
 |p::r,d=>by
  rw[cK]
  cases (dw d p).Down with
  |true=>exact fq d p
  |false=>rw[cond_false,ug r,fq]
theorem kG (d:aN):(bK d).aU.length=d.aU.length:=iy d.bC d.aU
theorem Ps (d:aN) (hd:Cd d) (hdn:d.Down=false) (hW:d.bC.length<1000) (home:Nat) (l:List bB) (hl:l≠[]) (hv:Valid home l) (hn:home+l.length<d.aU.length) (hh:home≤256):sx fuel d (home:Int) l=some (rounds d home l):=by
 unfold sx s7 rounds
 try simp only[get_ite,aE,aD,aC,aF,aL,aK]
 have h16:=hv.len
 have hlp:0<l.length:=List.length_pos_iff.2 hl
 have hN:=hd.len
 rw[show((l.length:Int)==0)=false from dj (by omega),UH d home l hv hn hN]
 simp only[cond_false,aw,Bool.not_true]
 have hz:Cc d.aU.length ⟨(home:Int),de⟩:=⟨by show(0:Int)≤home;omega,by show(home:Int)<_;omega,rfl⟩
 have w1:=NU d hd hW hdn (home:Int) de hz
 have w1':jY (home:Int) [0,0,0,0,0,0,0,0,0,0,0,0,0,0,0,0,0,0,0,0,0,0,0,0,0,0,0,0,0,0,0,0] ⟨d⟩=_:=w1
 rw[w1',aw]
 have d1:=rX hd hW hz
 have L1:=fq d ⟨(home:Int),de⟩
 generalize dw d ⟨(home:Int),de⟩=a at d1 L1
 cases hD:a.Down with
 |true=>rfl
 |false=>
  simp only[cond_false,bu]
  rw[tD a d1 hD,aw]
  simp only[bu]
  have d2:=mE d1
  have hD2:(bK a).Down=false:=hD
  have N2:(bK a).aU.length=d.aU.length:=by rw[kG,L1]
  have W2:(bK a).bC=[]:=rfl
  generalize bK a=b at d2 hD2 N2 W2
  have hcp: ∀p∈cu (home+1) l,Cc b.aU.length p:=by
   intro p hp
   obtain⟨q,hq,h1,h2,h3⟩:=k9 _ _ _ hp
   exact⟨by omega,by rw[N2];omega,by rw[h3];exact(hv.each q hq).2.2⟩
  obtain⟨z,e,hz⟩:=HR home l l d false d.aU d.bC (by omega) h16 l 0 b (aN.mk [] [] 0 false) fuel rfl (by omega) (cm (by omega)) d2 hD2 (by rw[W2];simp;omega) hcp
  have e':xP fuel (home:Int) l l (l.length:Int) d false d.aU d.bC 0 (aN.mk [] [] 0 false) ⟨b⟩=some z:=e
  rw[e',aw]
  have d3:=tz (cu (home+1) l) b d2 (by rw[W2,vS];simp;omega) hcp
  have L3:=ug (cu (home+1) l) b
  rw[Nat.add_zero]at hz
  rcases uh (cu (home+1) l) b hD2 with⟨g1,g2⟩|⟨g1,g2⟩
  rotate_left
  ·rcases hz with⟨h,_⟩|⟨_,y,u,rfl⟩
   ·rw[g1]at h;cases h
   ·rw[g1];rfl
  ·rcases hz with⟨_,y,rfl⟩|⟨h,_⟩
   rotate_left
   ·rw[g1]at h;cases h
   rw[g1]
   simp only[fi,cond_true]
   generalize (cK b (cu (home+1) l)).1=c at d3 L3 g2
   rw[tD c d3 g2,aw]
   simp only[bu]
   have d4:=mE d3
   have hD4:(bK c).Down=false:=g2
   have N4:(bK c).aU.length=d.aU.length:=by rw[kG,L3,N2]
   have W4:(bK c).bC=[]:=rfl
   generalize bK c=q at d4 hD4 N4 W4
   have hq:Cc q.aU.length ⟨(home:Int),cV l⟩:=⟨by show(0:Int)≤home;omega,by show(home:Int)<_;omega,qF l h16⟩
   rw[Et l h16 (fun p hp=>by obtain⟨h1,h2,_⟩:=hv.each p hp;exact⟨h1,by omega⟩),aw,yy q d4 (by rw[W4];simp) hD4 _ _ hq,aw]
   have d5:=rX d4 (by rw[W4];simp) hq
   have L5:=fq q ⟨(home:Int),cV l⟩
   generalize dw q ⟨(home:Int),cV l⟩=u at d5 L5
   unfold NV
   cases hDu:u.Down with
   |true=>rfl
   |false=>
    simp only[cond_false,bu]
    rw[tD u d5 hDu,aw]
    simp only[bu]
    have d6:=mE d5
    have hD6:(bK u).Down=false:=hDu
    have N6:(bK u).aU.length=d.aU.length:=by rw[kG,L5,N4]
    have W6:(bK u).bC=[]:=rfl
    generalize bK u=v at d6 hD6 N6 W6
    have hlv: ∀p∈l,Cc v.aU.length p:=by
     intro p hp
     obtain⟨h1,h2,h3⟩:=hv.each p hp
     exact⟨h1,by rw[N6];omega,h3⟩
    obtain⟨z2,e2,hz2⟩:=G9 l d false d.aU d.bC h16 l 0 v (aN.mk [] [] y.gR y.Down) fuel rfl (by omega) (cm (by omega)) d6 hD6 (by rw[W6];simp;omega) hlv
    have e2':xO fuel l (l.length:Int) d false d.aU d.bC 0 (aN.mk [] [] y.gR y.Down) ⟨v⟩=some z2:=e2
    rw[e2',aw]
    have d7:=tz l v d6 (by rw[W6];simp;omega) hlv
    rcases uh l v hD6 with⟨k1,k2⟩|⟨k1,k2⟩
    ·rcases hz2 with⟨_,y2,rfl⟩|⟨h,_⟩
     ·rw[k1]
      simp only[fi,cond_true]
      rw[tD _ d7 k2]
      rfl
     ·rw[k1]at h;cases h
    ·rcases hz2 with⟨h,_⟩|⟨_,y2,u2,rfl⟩
     ·rw[k1]at h;cases h
     ·rw[k1];rfl
open Go
theorem TX {x:UInt8} (h:x≠1):(i8 x != 1)=true:=by
 have:i8 x≠1:=fun e=>h (QH (y:=1) e)
 simp[this]
theorem Qm (d:aN) (home:Int) (s:List UInt8) (hs:s.length=32) (h:s[0]? ≠some 1∨s[31]? ≠some 1):rA fuel d home s=some ([],false):=by
 unfold rA qs
 try simp only[get_ite,aE,aD,aC,aF,aL,aK]
 have h0:0<s.length:=by omega
 have h31:31<s.length:=by omega
 rw[List.getElem?_eq_getElem h0,List.getElem?_eq_getElem h31]at h
 rw[fO (by omega) (by omega),List.getElem?_eq_getElem h0]
 simp only[cond_true,aw]
 by_cases a:s[0]=1
 ·rw[a,show(i8 1 != 1)=false from rfl,fO (by omega) (by omega),List.getElem?_eq_getElem h31]
  simp only[cond_false,cond_true,aw]
  have:s[31]≠1:=by
   rcases h with h|h
   ·exact absurd (by rw[a]) h
   ·exact fun e=>h (by rw[e])
  rw[TX this]
  rfl
 ·rw[TX a]
  rfl
theorem Yk (k:Nat) (hk:k≤1000):jw fuel (List.replicate k 0) 0=some []:=by
 unfold jw iz lP
 try simp only[get_ite,aE,aD,aC,aF,aL,aK]
 obtain⟨x,e,hx⟩:=dI (step:=gS 0) (fun j v=>v=List.replicate j 0∧j≤1000) (fun r=>r=[]) (fun j v hI=>by
  obtain⟨rfl,hj⟩:=hI
  simp only[gS,gn,get_ite,aE,aD,aC,aF,aL,aK]
  rw[List.length_replicate]
  cases j with
  |zero=>exact⟨_,rfl,rfl⟩
  |succ j=>
   rw[decide_eq_true (show((j+1:Nat):Int)>0 by omega),bh (by omega) (by omega),show((j+1:Nat):Int)-1=(j:Int)by omega,bP (by omega),Int.toNat_natCast,List.getElem?_replicate,if_pos (by omega),e9 (by omega) (by omega) (by omega),mW]
   refine⟨_,rfl,j,by omega,?_,by omega⟩
   rw[List.take_replicate,Nat.min_eq_left (by omega)]) k (List.replicate k 0) fuel ⟨rfl,hk⟩ (cm (by omega))
 rw[e,hx]
 rfl
theorem Yl:j5 fuel [] 0=some []:=by
 unfold j5 iU mL
 try simp only[get_ite,aE,aD,aC,aF,aL,aK]
 rw[nH,bw]
 rfl
theorem SV (k:Nat) (hk:k≤1000):uo fuel (List.replicate k 0)=some []:=by
 unfold uo qM
 try simp only[get_ite,aE,aD,aC,aF,aL,aK]
 cases k with
 |zero=>rfl
 |succ k=>
  rw[dj (show List.replicate (k+1) (0:UInt8)≠[]by simp),Yk _ hk]
  simp only[cond_false,aw]
  rw[Yl]
  rfl
theorem Sn (l:List bB):(cV l)[0]? =some 1:=rfl
theorem Sm (l:List bB):(cV l)[1]? =some (b8 (l.length:Int)):=rfl
theorem QJ (l:List bB) (h:l.length≤16):(cV l)[31]? =some 1:=by
 have e:cV l=(1::b8 (l.length:Int) ::(l.map (fun p=>b8 p.At)++List.replicate (29-l.length) 0))++[1]:=by
  unfold cV;simp
 have hl:(1::b8 (l.length:Int) ::(l.map (fun p=>b8 p.At)++List.replicate (29-l.length) (0:UInt8))).length=31:=by
  simp only[List.length_cons,List.length_append,List.length_map,List.length_replicate];omega
 rw[e,List.getElem?_append_right (by omega),hl]
 rfl
theorem OR (l:List bB):((cV l).drop 2).take l.length=l.map (fun p=>b8 p.At):=by
 show(l.map (fun p:bB=>b8 p.At)++(List.replicate (29-l.length) 0++[1])).take l.length=_
 rw[List.take_append_of_le_length (by rw[List.length_map];exact Nat.le_refl _),List.take_of_length_le (by rw[List.length_map];exact Nat.le_refl _)]
theorem Mo (l:List bB) (h:l.length≤16):((cV l).drop (2+l.length)).take (29-l.length)=List.replicate (29-l.length) 0:=by
 have:(cV l).drop (2+l.length)=List.replicate (29-l.length) 0++[1]:=by
  rw[←List.drop_drop]
  show(l.map (fun p:bB=>b8 p.At)++(List.replicate (29-l.length) 0++[1])).drop l.length=_
  rw[List.drop_append_of_le_length (by rw[List.length_map];exact Nat.le_refl _),List.drop_of_length_le (by rw[List.length_map];exact Nat.le_refl _)]
  rfl
 rw[this,List.take_append_of_le_length (by rw[List.length_replicate];exact Nat.le_refl _),List.take_of_length_le (by rw[List.length_replicate];exact Nat.le_refl _)]
theorem L8 (d:aN) (home:Nat) (l:List bB) (hl:l≠[]) (hv:Valid home l) (hn:home+l.length<d.aU.length) (hN:d.aU.length≤1000) (hh:home≤256):rA fuel d (home:Int) (cV l)=some (l.map bB.At,true):=by
 have h16:=hv.len
 have hlp:0<l.length:=List.length_pos_iff.2 hl
 have hlen:=qF l h16
 have hn0:i8 (b8 (l.length:Int))=(l.length:Int):=Kr (by omega) (by omega)
 unfold rA qs
 try simp only[get_ite,aE,aD,aC,aF,aL,aK]
 rw[fO (by omega) (by omega),Sn]
 simp only[cond_true,aw]
 rw[show(i8 1 != 1)=false from rfl,fO (by omega) (by omega),QJ l h16]
 simp only[cond_false,cond_true,aw]
 rw[show(i8 1 != 1)=false from rfl,fO (by omega) (by omega),Sm]
 simp only[cond_false,cond_true,aw]
 rw[hn0,bh (show-9223372036854775808≤(l.length:Int)by omega) (by omega),decide_eq_false (show ¬(l.length:Int)<1 by omega),decide_eq_false (show ¬(l.length:Int)>16 by omega),bh (show-9223372036854775808≤(home:Int)+(l.length:Int)by omega) (by omega),
  decide_eq_false (show ¬(home:Int)+(l.length:Int)≥(d.aU.length:Int)by omega),bh (show-9223372036854775808≤2+(l.length:Int)by omega) (by omega),show 2+(l.length:Int)=((2+l.length:Nat):Int)by omega,e9 (by omega) (by omega) (by omega)]
 have hc:=NF (cV l) 2 l.length
 rw[show((2:Nat):Int)=2 from rfl,OR]at hc
 rw[hc]
 simp only[cond_false,cond_true]
 unfold zl
 rw[List.length_map]
 obtain⟨x,e,hx⟩:=dI (step:=s5 (home:Int) (cV l) (l.length:Int) (l.length:Int) d (l.map fun p=>b8 p.At)) (fun k v=> ∃i:Nat,v.2.1=(i:Int)∧i+k=l.length∧v.2.2=(l.take i).map bB.At∧ ∀p∈l.drop i,v.1<p.At) (fun r=>r= .inr (l.map bB.At)) (fun k v hI=>by
  obtain⟨v1,v2,v3⟩:=v
  obtain⟨i,h1,hk,h2,h3⟩:=hI
  simp only at h1 h2 h3
  subst h1 h2
  simp only[s5,rz,get_ite,aE,aD,aC,aF,aL,aK]
  by_cases hlt:i<l.length
  ·have hdr:l.drop i=l[i] ::l.drop (i+1):=List.drop_eq_getElem_cons hlt
   have hs:=hv.sorted.sublist (List.drop_sublist i l)
   rw[hdr]at h3 hs
   obtain⟨g0,g1,g2⟩:=hv.each _ (List.getElem_mem hlt)
   have g3:=h3 _ (List.mem_cons_self ..)
   have hlm:i<(l.map fun p=>b8 p.At).length:=by rw[List.length_map];exact hlt
   rw[dh hlt,bP hlm,Int.toNat_natCast,List.getElem?_map,List.getElem?_eq_getElem hlt]
   simp only[cond_true,Option.map_some,aw]
   rw[Kr g0 (by omega),bh (show-9223372036854775808≤l[i].At by omega) (by omega),decide_eq_false (show ¬l[i].At≤v1 by omega),decide_eq_false (show ¬l[i].At≥(home:Int)by omega),decide_eq_true (show((l.take i).map bB.At).length+1≤dK by rw[cq];simp;omega),bI (by omega)]
   refine⟨_,rfl,k-1,by omega,i+1,rfl,by omega,?_,fun p hp=>List.rel_of_pairwise_cons hs hp⟩
   rw[List.take_add_one,List.getElem?_eq_getElem hlt,List.map_append]
   rfl
  ·obtain rfl:i=l.length:=by omega
   rw[dv]
   exact⟨_,rfl,by rw[List.take_length];rfl⟩) l.length (-1,0,[]) fuel ⟨0,rfl,by omega,rfl,fun p hp=>by have:=(hv.each p hp).1;show(-1:Int)<p.At;omega⟩ (cm (by omega))
 rw[e,hx,aw]
 simp only[fi]
 have hc2:=NF (cV l) (2+l.length) (29-l.length)
 rw[Mo l h16,show((2+l.length+(29-l.length):Nat):Int)=31 by omega]at hc2
 rw[e9 (by omega) (by omega) (by omega),hc2,SV _ (by omega)]
 rfl
theorem AN (d:aN) (hdn:d.Down=false) (i:Nat) (h:i<d.aU.length) (hw: ∀q∈d.bC,q.At≠(i:Int)):fC d (i:Int)=(d.aU.getD i [],true):=by
 unfold fC
 rw[hdn,decide_eq_true (show(0:Int)≤(i:Int)by omega),decide_eq_true (show(i:Int)<(d.aU.length:Int)by omega),FC hw]
 rfl
theorem P3 (d:aN) (hdn:d.Down=false) (i:Nat) (h:i<d.aU.length) (hw: ∀q∈d.bC,q.At≠(i:Int)):mB (i:Int) ⟨d⟩=some (.inl (d.aU.getD i [],⟨d⟩)):=by
 unfold mB kz
 try simp only[get_ite,aE,aD,aC,aF,aL,aK]
 simp only[AN d hdn i h hw]
 rfl
theorem JO (d:aN) (hdn:d.Down=false) (i:Nat) (h:i<d.aU.length) (hw: ∀q∈d.bC,q.At≠(i:Int)):oF (i:Int) ⟨d⟩=some (.inl (d.aU.getD i [],⟨d⟩,d.aU,d.bC)):=by
 unfold oF mA
 try simp only[get_ite,aE,aD,aC,aF,aL,aK]
 simp only[AN d hdn i h hw]
 rfl
def dY (L:List (List UInt8)):Nat→List bB→List bB
 |_,[]=>[]
 |n,p::r=>⟨p.At,L.getD n []⟩ ::dY L (n+1) r
theorem Hj (L:List (List UInt8)): ∀(n:Nat) (l:List bB),(dY L n l).length=l.length
 |_,[]=>rfl
 |n,p::r=>by rw[dY,List.length_cons,List.length_cons,Hj]
theorem BQ {L:List (List UInt8)} (h: ∀x∈L,x.length=32) {i:Nat} (hi:i<L.length):(L.getD i []).length=32:=by
 rw[List.getD_eq_getElem?_getD,List.getElem?_eq_getElem hi]
 exact h _ (List.getElem_mem hi)
theorem Hk (home:Nat) (l:List bB) (o:aN) (ok:Bool) (r4:List (List UInt8)) (r5:List bB) (hh:home≤256) (hl:l.length≤16) (L:List (List UInt8)): ∀(r:List bB) (i:Nat) (d:aN) (x:aN) (n:Nat),l.drop i=r→i≤l.length→r.length<n→Cd d→d.Down=false→d.aU=L→d.bC.length+r.length<1000→(∀p∈r,Cc home p)→home+l.length<L.length→(∀p∈d.bC,p.At<(home:Int))→
  ∃z,iter (qt (home:Int) (l.map bB.At) ((l.map bB.At).length:Int) o ok r4 r5) n ((i:Int),x,⟨d⟩)=some z∧(((cK d (dY L (home+1+i) r)).2=true∧ ∃y,z= .inr (y,⟨(cK d (dY L (home+1+i) r)).1⟩))∨((cK d (dY L (home+1+i) r)).2=false∧ ∃y,z= .inl (y,⟨(cK d (dY L (home+1+i) r)).1⟩)))
 |_,_,_,_,0,_,_,h,_,_,_,_,_,_,_=>absurd h (Nat.not_lt_zero _)
 |[],i,d,x,n+1,hdr,hi,_,hd,hdn,_,_,_,_,_=>by
  obtain rfl:i=l.length:=Nat.le_antisymm hi (List.drop_eq_nil_iff.1 hdr)
  rw[bw]
  simp only[qt,oV,get_ite,aE,aD,aC,aF,aL,aK,List.length_map,dv,cond_false]
  exact⟨_,rfl,.inl ⟨rfl,_,rfl⟩⟩
 |p::r,i,d,x,n+1,hdr,hi,hn,hd,hdn,hL,hw,hp,hN,hat=>by
  have hlt:i<l.length:=by
   rcases Nat.lt_or_ge i l.length with h|h
   ·exact h
   ·rw[List.drop_eq_nil_iff.2 h]at hdr;cases hdr
  have hd2:l.drop i=l[i] ::l.drop (i+1):=List.drop_eq_getElem_cons hlt
  rw[hdr]at hd2
  obtain⟨e1,e2⟩:=List.cons.inj hd2
  rw[List.length_cons]at hw hn
  obtain⟨p0,p1,p2⟩:=hp p (List.mem_cons_self ..)
  have hin:home+1+i<d.aU.length:=by rw[hL];omega
  have hlm:i<(l.map bB.At).length:=by rw[List.length_map];exact hlt
  have hpk:Cc d.aU.length ⟨p.At,d.aU.getD (home+1+i) []⟩:=⟨p0,by rw[hL];show p.At<_;omega,BQ hd.last hin⟩
  rw[bw]
  simp only[qt,oV,get_ite,aE,aD,aC,aF,aL,aK]
  rw[dh hlm,bP hlm,Int.toNat_natCast,List.getElem?_map,List.getElem?_eq_getElem hlt,←e1]
  simp only[cond_true,Option.map_some,aw]
  rw[bh (show-9223372036854775808≤(home:Int)+1 by omega) (by omega),bh (show-9223372036854775808≤(home:Int)+1+(i:Int)by omega) (by omega),show(home:Int)+1+(i:Int)=((home+1+i:Nat):Int)by omega,P3 d hdn (home+1+i) hin (fun q hq=>by have:=hat q hq;omega),aw]
  simp only[bu]
  rw[yy d hd (by omega) hdn _ _ hpk,aw,dY,cK,hL]
  rw[hL]at hpk
  unfold NV
  cases hD:(dw d ⟨p.At,L.getD (home+1+i) []⟩).Down with
  |true=>exact⟨_,rfl,.inr ⟨rfl,_,rfl⟩⟩
  |false=>
   simp only[cond_false,bu]
   rw[bI (by omega)]
   exact Hk home l o ok r4 r5 hh hl L r (i+1) (dw d ⟨p.At,L.getD (home+1+i) []⟩) _ n e2.symm hlt (by omega) (rX hd (by omega) (by rw[hL];exact hpk)) hD (by rw[fq];exact hL) (by rw[mK];simp;omega) (fun q hq=>hp q (List.mem_cons_of_mem _ hq)) hN (fun q hq=>by
    rw[mK]at hq
    rcases List.mem_append.1 hq with hq|hq
    ·exact hat q hq
    ·rw[List.mem_singleton.1 hq];exact p1)
theorem Fc (L:List (List UInt8)) (home:Nat) (hL: ∀x∈L,x.length=32): ∀(n:Nat) (l:List bB),(∀p∈l,Cc home p)→home≤L.length→n+l.length≤L.length→ ∀q∈dY L n l,Cc L.length q
 |_,[],_,_,_,q,hq=>by cases hq
 |n,p::r,hp,hh,hn,q,hq=>by
  rw[List.length_cons]at hn
  rw[dY]at hq
  rcases List.mem_cons.1 hq with rfl|hq
  ·obtain⟨a,b,c⟩:=hp p (List.mem_cons_self ..)
   exact⟨a,by show p.At<_;omega,BQ hL (by omega)⟩
  ·exact Fc L home hL (n+1) r (fun x hx=>hp x (List.mem_cons_of_mem _ hx)) hh (by omega) q hq
theorem Tc (d:aN) (hd:Cd d) (hdn:d.Down=false) (hW:d.bC=[]) (home:Nat) (hh:home<d.aU.length) (h:(d.aU.getD home [])[0]? ≠some 1∨(d.aU.getD home [])[31]? ≠some 1):kY fuel d (home:Int)=some (d,false):=by
 unfold kY sw
 try simp only[get_ite,aE,aD,aC,aF,aL,aK]
 have hs:=BQ hd.last hh
 rw[JO d hdn home hh (fun q hq=>by rw[hW]at hq;cases hq),aw]
 simp only[bu]
 rw[eq_int (show((d.aU.getD home []).length:Int)=32 by omega),Qm d _ _ hs h]
 rfl
theorem Rv (d:aN) (hd:Cd d) (hdn:d.Down=false) (hW:d.bC=[]) (home:Nat) (hh:home≤256) (l:List bB) (hl:l≠[]) (hv:Valid home l) (hn:home+l.length<d.aU.length) (h:d.aU.getD home []=cV l):
  kY fuel d (home:Int)=some (bif (cK d (dY d.aU (home+1) l)).2 then(bK (cK d (dY d.aU (home+1) l)).1,true)else((cK d (dY d.aU (home+1) l)).1,false)):=by
 unfold kY sw
 try simp only[get_ite,aE,aD,aC,aF,aL,aK]
 have h16:=hv.len
 rw[JO d hdn home (by omega) (fun q hq=>by rw[hW]at hq;cases hq),aw]
 simp only[bu]
 rw[h,eq_int (show((cV l).length:Int)=32 by rw[qF l h16];rfl),L8 d home l hl hv hn hd.len hh]
 simp only[cond_false,aw,Bool.not_true]
 obtain⟨z,e,hz⟩:=Hk home l d false d.aU d.bC hh h16 d.aU l 0 d (aN.mk [] [] 0 false) fuel rfl (by omega) (cm (by omega)) hd hdn rfl (by rw[hW];simp;omega) hv.each hn (fun q hq=>by rw[hW]at hq;cases hq)
 have e':BG fuel (home:Int) (l.map bB.At) ((l.map bB.At).length:Int) d false d.aU d.bC 0 (aN.mk [] [] 0 false) ⟨d⟩=some z:=e
 rw[e',aw]
 rw[Nat.add_zero]at hz
 have d2:=tz (dY d.aU (home+1) l) d hd (by rw[hW,Hj];simp;omega) (Fc d.aU home hd.last (home+1) l hv.each (by omega) (by omega))
 rcases uh (dY d.aU (home+1) l) d hdn with⟨g1,g2⟩|⟨g1,g2⟩
 ·rcases hz with⟨_,y,rfl⟩|⟨h,_⟩
  ·rw[g1]
   simp only[fi,cond_true]
   rw[tD _ d2 g2]
   rfl
  ·rw[g1]at h;cases h
 ·rcases hz with⟨h,_⟩|⟨_,y,rfl⟩
  ·rw[g1]at h;cases h
  ·rw[g1];rfl
end Go.Proofs.YtlejgahbbfeagaaGreatDoor.N

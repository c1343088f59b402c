/- Plain words for this seat (43). Plain words for this seat (44). Plain words for this seat (45). Plain words for this seat (46). Plain words for this seat (47). Plain words for this seat (48). Plain words for this seat (49). Plain words for this seat (50). Plain words for this seat (51). ServerKeeps is true. -/
import Derived.Test.YtlejgahbbfeagaaGreatDoorSeat8
import Derived.KernelRfl
set_option linter.unusedVariables false
set_option linter.unusedSimpArgs false
namespace Go.Proofs.YtlejgahbbfeagaaGreatDoor.N
open Go
def GC (l:List bA) (c:Int) (m:bA):List bA:=match l[(c-1).toNat]? with
 |some y=>if y.Seq<m.Seq then l.set (c-1).toNat m else l
 |none=>l
def iu (s:aG) (c:Int) (m:bA):aG×bA:=({s with Marks:=GC s.Marks c m},m)
def nameAt (l:List bL) (s:List UInt8):Option Nat:=l.findIdx? fun f=>f.Name==s
def sA (s:aG) (n:Int):bL:=(s.aP[(n-1).toNat]?).getD mu
def ql (s:aG) (n:Int) (f:bL):aG:={s with aP:=s.aP.set (n-1).toNat f}
def Jt (s:aG) (n:Int):Bool:=decide (1≤n∧n≤6)&& !decide ((sA s n).Name=[])
def pP (s:aG) (c q:Int) (name:List UInt8):aG×bA:=
 if gl name=false then iu s c ⟨q,1,0,0⟩else
 match nameAt s.aP name with
 |some i=>iu s c ⟨q,0,(i:Int)+1,(sA s ((i:Int)+1)).pY⟩
 |none=>match nameAt s.aP []with
  |some i=>iu (ql s ((i:Int)+1) ⟨name,1,[]⟩) c ⟨q,0,(i:Int)+1,1⟩
  |none=>iu s c ⟨q,3,0,0⟩
def LA (f:bL) (l:List aY):bL:=⟨f.Name,ew (ay (f.pY+1)) 1073741824,Pl f.Body l⟩
def jf (s:aG) (c q n:Int) (l:List aY):aG×bA:=
 if Jt s n=false then iu s c ⟨q,2,0,0⟩else
 if l=[]∨5<l.length∨l.all bQ=false then iu s c ⟨q,1,0,0⟩else
 iu (ql s n (LA (sA s n) l)) c ⟨q,0,n,(LA (sA s n) l).pY⟩
def pT (s:aG) (c q n:Int):aG×bA:=
 if Jt s n=false then iu s c ⟨q,2,0,0⟩else iu (ql s n mu) c ⟨q,0,n,0⟩
theorem ji {s:aG} {n:Int} (h:s.aP.length=6) (h1:1≤n) (h6:n≤6):s.aP[(n-1).toNat]? =some (sA s n):=by
 unfold sA
 rw[List.getElem?_eq_getElem (show(n-1).toNat<s.aP.length by omega)];rfl
theorem CU {s:aG} {n:Int} (h:s.aP.length=6) (h1:1≤n) (h6:n≤6):sA s n∈s.aP:=List.mem_of_getElem? (ji h h1 h6)
theorem P7 (l:List bA) (c:Int) (m:bA):(GC l c m).length=l.length:=by
 unfold GC
 split
 ·split<;>simp
 ·rfl
theorem P6 {l:List bA} {c:Int} {m x:bA} (h:x∈GC l c m):x=m∨x∈l:=by
 unfold GC at h
 split at h
 ·split at h
  ·rcases List.mem_or_eq_of_mem_set h with h|h
   ·exact Or.inr h
   ·exact Or.inl h
  ·exact Or.inr h
 ·exact Or.inr h
theorem gM {B:Int} {s:aG} (hs:Good B s) (c:Int) {m:bA} (hm:nA B m):Good B (iu s c m).1:=
 ⟨hs.nf,by show(GC s.Marks c m).length=3;rw[P7];exact hs.nm,hs.e0,hs.e1,hs.fs,hs.on,fun x hx=>by rcases P6 hx with e|e;rw[e];exact hm;exact hs.ms x e⟩
theorem nB {l:List bA} (hl:l.length=3) (c:Int) (h1:1≤c) (h3:c≤3) (m:bA):pf l c m=some (GC l c m):=by
 unfold pf Ab uW qq GC
 simp only[aE,get_ite,aD,aC,aL,aK]
 rw[decide_eq_true (show c≥1 from h1),decide_eq_true (show c≤(l.length:Int)by omega),bh (by omega) (by omega),fO (by omega) (by omega),List.getElem?_eq_getElem (show(c-1).toNat<l.length by omega)]
 simp only[cond_true,aw]
 by_cases hq:l[(c-1).toNat].Seq<m.Seq
 ·rw[decide_eq_true (show m.Seq>l[(c-1).toNat].Seq from hq),if_pos hq];rfl
 ·rw[decide_eq_false (show ¬m.Seq>l[(c-1).toNat].Seq from hq),if_neg hq];rfl
theorem Hg (l:List bL) (s:List UInt8) (h:l.length<1000000):vN fuel l s=some (match nameAt l s with|some i=>((i:Int)+1,true)|none=>(0,false)):=by
 unfold vN vM mO gv kc nameAt
 simp only[aE,aD,aF]
 rw[oG l (fun x=>l4 x s) (kb l (l.length:Int) s) (fun i=>rfl) h,aw]
 have:(fun f:bL=>f.Name==s)=fun x=>l4 x s:=rfl
 rw[this]
 cases hf:l.findIdx? (fun x=>l4 x s)with
 |none=>rfl
 |some i=>
  have:=(fh hf).1
  simp only[bu,aw]
  rw[bh (by omega) (by omega),decide_eq_true (show(i:Int)≥0 by omega)]
theorem Q7 (l:List bL) (s:List UInt8) (h:l.length<1000000) (hs:gl s=true) (hn:s.length<4294967296):FQ fuel l s=some (match nameAt l s with|some i=>((i:Int)+1,true)|none=>(0,false)):=by
 unfold FQ AD
 simp only[aE,get_ite,aD,vO s hn,hs,aw,Hg l s h]
 cases nameAt l s<;>rfl
theorem Q6 (l:List bL) (h:l.length<1000000):FP fuel l=some (match nameAt l []with|some i=>((i:Int)+1,true)|none=>(0,false)):=by
 unfold FP Az
 simp only[aE,aD,Hg l [] h,aw]
theorem Tb {B:Int} {s:aG} (hs:Good B s) (c q:Int) (h1:1≤c) (h3:c≤3) (name:List UInt8) (hn:name.length<4294967296):zF fuel s c q name=some (pP s c q name):=by
 have hl:=hs.nf
 unfold zF uw EP ur y9 pF pP
 simp only[aE,get_ite,aD,aC,aF,vO name hn,aw]
 cases hm:gl name with
 |false=>
  simp only[Bool.not_false,cond_true,aw,fi]
  rw[nB hs.nm c h1 h3];rfl
 |true=>
  simp only[Bool.not_true,cond_false]
  rw[Q7 s.aP name (by omega) hm hn,if_neg (by simp),aw]
  cases hf:nameAt s.aP name with
  |some i=>
   have hi:=(fh hf).1
   have hfn:=ji (n:=(i:Int)+1) hl (by omega) (by omega)
   simp only[Bool.not_true,cond_false]
   rw[bh (show-9223372036854775808≤(i:Int)+1-1 by omega) (by omega),fO (by omega) (by omega),hfn]
   simp only[cond_true,aw,bu]
   rw[nB hs.nm c h1 h3];rfl
  |none=>
   simp only[Bool.not_false,cond_true]
   rw[Q6 s.aP (by omega),aw]
   cases hr:nameAt s.aP []with
   |none=>
    simp only[Bool.not_false,cond_true,aw,fi]
    rw[nB hs.nm c h1 h3];rfl
   |some i=>
    have hi:=(fh hr).1
    have hfn:=ji (n:=(i:Int)+1) hl (by omega) (by omega)
    simp only[Bool.not_true,cond_false]
    rw[bh (show-9223372036854775808≤(i:Int)+1-1 by omega) (by omega),fO (by omega) (by omega),hfn]
    simp only[cond_true,aw,List.length_set]
    rw[fO (by omega) (by omega),List.getElem?_set,if_pos rfl,if_pos (by omega)]
    simp only[cond_true,aw,bu]
    rw[nB hs.nm c h1 h3];rfl
theorem JB {s:aG} (hl:s.aP.length=6) (n:Int):sa n s=some (if Jt s n=true then .inl (n-1).toNat else .inr ()):=by
 unfold sa sL Jt
 simp only[aE,get_ite,aD,aC]
 by_cases c1:n<1
 ·rw[decide_eq_true c1,decide_eq_false (show ¬(1≤n∧n≤6)by omega)];rfl
 by_cases c2:n>(s.aP.length:Int)
 ·rw[decide_eq_false c1,decide_eq_true c2,decide_eq_false (show ¬(1≤n∧n≤6)by omega)];rfl
 have hfn:=ji (n:=n) hl (by omega) (by omega)
 rw[decide_eq_false c1,decide_eq_false c2,decide_eq_true (show 1≤n∧n≤6 by omega),bh (by omega) (by omega),fO (by omega) (by omega),hfn]
 simp only[cond_false,cond_true,aw]
 by_cases hn:(sA s n).Name=[]
 ·rw[eu hn,decide_eq_true hn];rfl
 ·rw[dj hn,decide_eq_false hn];rfl
theorem Rb (l:List aY) (h:l.length<1000000):fL fuel l=some (!(l.all bQ)):=by
 unfold fL fm lR fU jN
 simp only[aE,aD,aF]
 rw[oG l ft (jM l (l.length:Int)) (fun i=>rfl) h,aw]
 cases hf:l.findIdx? ft with
 |none=>
  have:=k6 hf
  have:l.all bQ=true:=List.all_eq_true.2 fun x hx=>by
   have:=this x hx
   unfold ft at this
   simpa using this
  rw[this];rfl
 |some i=>
  obtain⟨hi,hp,_⟩:=fh hf
  have:l.all bQ=false:=by
   rw[←Bool.not_eq_true]
   intro hx
   have:=List.all_eq_true.1 hx l[i] (List.getElem_mem hi)
   unfold ft at hp
   rw[this]at hp;cases hp
  rw[this]
  simp only[bu,aw]
  rw[decide_eq_true (show(i:Int)≥0 by omega)];rfl
theorem Rz {B:Int} {s:aG} (hs:Good B s) (c q n:Int) (h1:1≤c) (h3:c≤3) (l:List aY) (hlen:l.length<1000):wO fuel s c q n l=some (jf s c q n l):=by
 have hl:=hs.nf
 unfold wO sO A7 qR wN om jf
 simp only[aE,get_ite,aD,aC,aF,JB hl,aw]
 cases hi:Jt s n with
 |false=>
  rw[if_neg (by simp)]
  simp only[fi,aw]
  rw[nB hs.nm c h1 h3];rfl
 |true=>
  have hin:1≤n∧n≤6:=by
   unfold Jt at hi
   simp only[Bool.and_eq_true,decide_eq_true_eq]at hi
   exact hi.1
  have hfn:=ji (n:=n) hl hin.1 hin.2
  have hlt:(n-1).toNat<s.aP.length:=og hfn
  rw[if_pos rfl,if_neg (by simp)]
  simp only[bu]
  by_cases h0:l=[]
  ·rw[if_pos (Or.inl h0),h0]
   simp only[List.length_nil,show(((0:Nat):Int)==0)=true from rfl,cond_true,aw,fi]
   rw[nB hs.nm c h1 h3];rfl
  have hne:((l.length:Int)==0)=false:=by
   cases l with
   |nil=>exact absurd rfl h0
   |cons a r=>simp<;>omega
  rw[hne,cond_false]
  by_cases h5:5<l.length
  ·rw[if_pos (Or.inr (Or.inl h5)),decide_eq_true (show(l.length:Int)>5 by omega)]
   simp only[cond_true,aw,fi]
   rw[nB hs.nm c h1 h3];rfl
  rw[decide_eq_false (show ¬(l.length:Int)>5 by omega),Rb l (by omega)]
  simp only[cond_false,aw]
  cases ha:l.all bQ with
  |false=>
   rw[if_pos (Or.inr (Or.inr rfl))]
   simp only[Bool.not_false,cond_true,aw,fi]
   rw[nB hs.nm c h1 h3];rfl
  |true=>
   rw[if_neg (by simp[h0,h5])]
   simp only[Bool.not_true,cond_false]
   rw[hfn,aw,KJ l _ (by omega) (hs.fs _ (CU hl hin.1 hin.2)).body,aw,aw,aw]
   simp only[List.getElem?_set,List.length_set,if_pos hlt,if_true,aw,bu,List.set_set]
   rw[nB hs.nm c h1 h3];rfl
theorem Tf {B:Int} {s:aG} (hs:Good B s) (c q n:Int) (h1:1≤c) (h3:c≤3):zG s c q n=some (pT s c q n):=by
 have hl:=hs.nf
 unfold zG uz A6 qQ za pG pT
 simp only[aE,get_ite,aD,aC,aF,JB hl,aw]
 cases hi:Jt s n with
 |false=>
  rw[if_neg (by simp)]
  simp only[fi,aw]
  rw[nB hs.nm c h1 h3];rfl
 |true=>
  have hin:1≤n∧n≤6:=by
   unfold Jt at hi
   simp only[Bool.and_eq_true,decide_eq_true_eq]at hi
   exact hi.1
  have hfn:=ji (n:=n) hl hin.1 hin.2
  rw[if_pos rfl,if_neg (by simp)]
  simp only[bu,hfn,aw]
  rw[nB hs.nm c h1 h3];rfl
theorem Fy {B:Int} {s:aG} (hs:Good B s) (n:Int) {f:bL} (hf:jh f) (hf2:f.Name=[]∨ ∀(j:Nat) g,s.aP[j]? =some g→g.Name=f.Name→j=(n-1).toNat):Good B (ql s n f):=
 ⟨by show(s.aP.set _ f).length=6;rw[List.length_set];exact hs.nf,hs.nm,hs.e0,hs.e1,fun x hx=>by rcases List.mem_or_eq_of_mem_set hx with e|e;exact hs.fs x e;rw[e];exact hf,Qg hs.on _ f hf2,hs.ms⟩
theorem QE {s:aG} {n:Int} (h:Jt s n=true):(1≤n∧n≤6)∧(sA s n).Name≠[]:=by
 unfold Jt at h
 simp only[Bool.and_eq_true,decide_eq_true_eq,Bool.not_eq_true',decide_eq_false_iff_not]at h
 exact h
theorem CN {B:Int} {s:aG} (hs:Good B s) (c q:Int) (hq:0≤q) (hq2:q≤B) (name:List UInt8):Good B (pP s c q name).1∧nA B (pP s c q name).2:=by
 unfold pP
 split
 ·exact⟨gM hs c (jW hq hq2 (by decide) (by decide) (by decide) (by decide) (by decide) (by decide)),jW hq hq2 (by decide) (by decide) (by decide) (by decide) (by decide) (by decide)⟩
 rename_i hm
 have hm:gl name=true:=by simpa using hm
 split
 ·rename_i i hf
  have hi:=(fh hf).1
  have hl:=hs.nf
  have hv:=(hs.fs _ (CU (n:=(i:Int)+1) hl (by omega) (by omega))).VC
  have:=jW (f:=(i:Int)+1) hq hq2 (by decide:(0:Int)≤0) (by decide) (by omega) (by omega) hv.1 hv.2
  exact⟨gM hs c this,this⟩
 rename_i hnone
 split
 ·rename_i i hf
  have hi:=(fh hf).1
  have hl:=hs.nf
  have mk:=jW (f:=(i:Int)+1) (v:=1) hq hq2 (by decide:(0:Int)≤0) (by decide) (by omega) (by omega) (by decide) (by decide)
  refine⟨gM (Fy hs _ (Ni hm (by decide) (by decide) (by decide)) (Or.inr fun j g hg hgn=> ?_)) c mk,mk⟩
  exact absurd (k6 hnone g (List.mem_of_getElem? hg)) (by rw[show(g.Name==name)=true from eu hgn];decide)
 ·exact⟨gM hs c (jW hq hq2 (by decide) (by decide) (by decide) (by decide) (by decide) (by decide)),jW hq hq2 (by decide) (by decide) (by decide) (by decide) (by decide) (by decide)⟩
theorem vv {B:Int} {s:aG} (hs:Good B s) (c q n:Int) (hq:0≤q) (hq2:q≤B) (l:List aY):Good B (jf s c q n l).1∧nA B (jf s c q n l).2:=by
 unfold jf
 split
 ·exact⟨gM hs c (jW hq hq2 (by decide) (by decide) (by decide) (by decide) (by decide) (by decide)),jW hq hq2 (by decide) (by decide) (by decide) (by decide) (by decide) (by decide)⟩
 rename_i hi
 obtain⟨hin,hne⟩:=QE (by simpa using hi)
 split
 ·exact⟨gM hs c (jW hq hq2 (by decide) (by decide) (by decide) (by decide) (by decide) (by decide)),jW hq hq2 (by decide) (by decide) (by decide) (by decide) (by decide) (by decide)⟩
 have hfs:=ji (n:=n) hs.nf hin.1 hin.2
 have hf:=hs.fs _ (CU (n:=n) hs.nf hin.1 hin.2)
 obtain⟨v0,v1⟩:=QG hf.VC.1 hf.VC.2
 have mk:=jW (f:=n) (v:=(LA (sA s n) l).pY) hq hq2 (by decide:(0:Int)≤0) (by decide) (by omega) (by omega) (by show 0≤ew _ _;omega) v1
 refine⟨gM (Fy hs _ (Ni (hf.some hne).1 v0 v1 (Ll _ _ hf.body)) (Or.inr fun j g hg hgn=> ?_)) c mk,mk⟩
 exact hs.on j _ g (sA s n) hg hfs (by rw[hgn];exact hne) hgn
theorem CO {B:Int} {s:aG} (hs:Good B s) (c q n:Int) (hq:0≤q) (hq2:q≤B):Good B (pT s c q n).1∧nA B (pT s c q n).2:=by
 unfold pT
 split
 ·exact⟨gM hs c (jW hq hq2 (by decide) (by decide) (by decide) (by decide) (by decide) (by decide)),jW hq hq2 (by decide) (by decide) (by decide) (by decide) (by decide) (by decide)⟩
 rename_i hi
 obtain⟨hin,hne⟩:=QE (by simpa using hi)
 have mk:=jW (f:=n) (v:=0) hq hq2 (by decide:(0:Int)≤0) (by decide) (by omega) (by omega) (by decide) (by decide)
 exact⟨gM (Fy hs _ (Or.inl rfl) (Or.inl rfl)) c mk,mk⟩
open Go
@[reducible] def Gq:Type:=aI×List ck
noncomputable def bZ (st:bV) (s:aG):bV×Bool:=(iV fuel st s).getD (st,false)
def TP (sv:aI) (c:Int) (t:ck):ck:={t with Kind:=1,To:=c,aS:=sv.aA.S.aS}
def wq (sv:aI) (c:Int) (t:ck):aI:=match sv.Told[(c-1).toNat]? with
 |some y=>if y.Seq≤t.Seq then{sv with Told:=sv.Told.set (c-1).toNat (TP sv c t)}else sv
 |none=>sv
def BU (sv:aI) (l:List ck) (c:Int) (t:ck):Gq:=(wq sv c t,l++[TP sv c t])
def ie (sv:aI) (a:bp) (t:ck):Gq:=BU sv [] a.bn {t with Seq:=a.Seq}
def Nk (m:bA):ck:=⟨0,0,0,0,m.Gw,m.aX,0,m.pY,[]⟩
def GL (e:Int):ck:=⟨0,0,0,0,e,0,0,0,[]⟩
def Nq (sv:aI) (w:bG):ck:=
 if Jt sv.aA.S w.aX=true then⟨0,0,0,w.Seq,0,w.aX,lL sv.bd.bF sv.gQ w.Client w.aX,(sA sv.aA.S w.aX).pY,(sA sv.aA.S w.aX).Body⟩
 else⟨0,0,0,w.Seq,0,w.aX,lL sv.bd.bF sv.gQ w.Client w.aX,0,[]⟩
def Kg (sv:aI) (l:List ck) (w:bG):Gq:=BU sv l w.Client (Nq sv w)
def sh (sv:aI) (f c:Int):ck:=⟨2,c,sv.aA.S.aS,0,0,f,0,0,[]⟩
noncomputable def nC (sv:aI) (a:bp) (r:aG×bA) (f:b9→b9):Gq:=
 if(bZ sv.aA r.1).2=true then ie {sv with aA:=(bZ sv.aA r.1).1,bd:=f sv.bd} a (Nk r.2)
 else({sv with aA:=(bZ sv.aA r.1).1,Live:=false},[])
noncomputable def LY (sv:aI) (a:bp):Gq:=nC sv a (pP sv.aA.S a.bn a.Seq a.Name) id
def cF (a:bp):bG:=⟨a.bn,a.Seq,a.aX,a.Mode⟩
def CD (sv:aI) (a:bp):Gq:=
 if Jt sv.aA.S a.aX=false then ie sv a (GL 2)else
 if(ju sv.bd sv.gQ (cF a)).2.1=true then Kg {sv with bd:=(ju sv.bd sv.gQ (cF a)).1} [] (cF a)
 else if(ju sv.bd sv.gQ (cF a)).2.2.2≠0 then ie {sv with bd:=(ju sv.bd sv.gQ (cF a)).1} a (GL (ju sv.bd sv.gQ (cF a)).2.2.2)
 else({sv with bd:=(ju sv.bd sv.gQ (cF a)).1},(ju sv.bd sv.gQ (cF a)).2.2.1.map (sh sv a.aX))
def rl (sv:aI) (a:bp):Bool:=decide (lL sv.bd.bF sv.gQ a.bn a.aX=2)&&Jt sv.aA.S a.aX
noncomputable def px (sv:aI) (a:bp):Gq:=
 if rl sv a=false then ie sv a (GL 6)else nC sv a (jf sv.aA.S a.bn a.Seq a.aX a.aQ) id
noncomputable def HT (sv:aI) (a:bp):Gq:=
 if a.aQ=[]then({(ie sv a ⟨0,0,0,0,0,a.aX,0,0,[]⟩).1 with bd:=BO sv.bd a.bn a.aX},(ie sv a ⟨0,0,0,0,0,a.aX,0,0,[]⟩).2)
 else if rl sv a=false then({(ie sv a (GL 6)).1 with bd:=BO sv.bd a.bn a.aX},(ie sv a (GL 6)).2)
 else nC sv a (jf sv.aA.S a.bn a.Seq a.aX a.aQ) fun d=>BO d a.bn a.aX
def Ek (sv:aI) (c f:Int):Bool:= !decide (tq sv.bd.bF sv.gQ c f 2=[])||sv.bd.cZ.any fun w=>(w.aX==f)&&(w.Client != c)
def QA (c f:Int) (d:b9):b9:=⟨NA d.bF c f,fE d.cZ c⟩
noncomputable def HJ (sv:aI) (a:bp):Gq:=
 if Ek sv a.bn a.aX=true then ie sv a (GL 4)else nC sv a (pT sv.aA.S a.bn a.Seq a.aX) (QA a.bn a.aX)
noncomputable def fu (sv:aI) (a:bp):Gq:=
 if sv.gQ<sv.l6 then ie sv a (GL 7)
 else if a.Kind=1 then LY sv a
 else if a.Kind=2 then CD sv a
 else if a.Kind=3 then px sv a
 else if a.Kind=4 then HT sv a
 else HJ sv a
def seenAt (sv:aI) (c:Int):Int:=(sv.Seen[(c-1).toNat]?).getD 0
def EK (sv:aI) (c:Int):ck:=(sv.Told[(c-1).toNat]?).getD ⟨0,0,0,0,0,0,0,0,[]⟩
def jD (sv:aI) (c:Int):bA:=(sv.aA.S.Marks[(c-1).toNat]?).getD ⟨0,0,0,0⟩
def mz (sv:aI) (a:bp):Int×ck:=
 if a.aS≠sv.aA.S.aS then(1,⟨0,0,0,0,0,0,0,0,[]⟩)
 else if a.Seq<seenAt sv a.bn then(2,⟨0,0,0,0,0,0,0,0,[]⟩)
 else if(EK sv a.bn).Seq=a.Seq then(3,EK sv a.bn)
 else if(jD sv a.bn).Seq=a.Seq then(3,⟨1,a.bn,sv.aA.S.aS,a.Seq,(jD sv a.bn).Gw,(jD sv a.bn).aX,0,(jD sv a.bn).pY,[]⟩)
 else(4,⟨0,0,0,0,0,0,0,0,[]⟩)
def yY (sv:aI) (a:bp):aI:={sv with Seen:=sv.Seen.set (a.bn-1).toNat a.Seq}
noncomputable def wj (sv:aI) (a:bp):Gq:=
 if(mz sv a).1=1 then(sv,[⟨3,a.bn,sv.aA.S.aS,0,0,0,0,0,[]⟩])
 else if(mz sv a).1=3 then(sv,[(mz sv a).2])
 else if(mz sv a).1=4 then fu (yY sv a) a
 else(sv,[])
noncomputable def oN (sv:aI) (b:List UInt8):Gq:=
 if sv.Live=false then(sv,[])
 else if(kN b).2=false then({sv with DZ:=ew (ay (sv.DZ+1)) 1073741824},[])
 else wj sv (kN b).1
def AR (d:aN) (s:aG):Prop:=(∀x∈d.aU,x.length=32)∧d.aU.length=19∧d.bC=[]∧d.Down=false∧(0≤d.gR∧d.gR≤900)∧Clean 9 d.aU (fun i=>(jr s).getD i [])
structure ij (sv:aI):Prop where
 lM:Good 1073741824 sv.aA.S
 rW:fQ sv.bd
 seen:sv.Seen.length=3
 told:sv.Told.length=3
 now:0≤sv.gQ∧sv.gQ≤9223372036854775807
 FO:sv.Live=true→AR sv.aA.D sv.aA.S
theorem oM {st:bV} {t:aG} (hd:AR st.D st.S) (hs:Good 1073741824 st.S) (ht:Good 1073741824 t):
  iV fuel st t=some (bZ st t)∧(bZ st t).1.S=(bif (bZ st t).2 then t else st.S)∧((bZ st t).2=true→AR (bZ st t).1.D t)∧
   ((bZ st t).2=false→Cd (bZ st t).1.D∧(bZ st t).1.D.aU.length=19∧ ∀aH,eZ 9 (eR (bZ st t).1.D.aU (bZ st t).1.D.bC aH) (fun i=>(jr st.S).getD i [])∨eZ 9 (eR (bZ st t).1.D.aU (bZ st t).1.D.bC aH) (fun i=>(jr t).getD i []))∧(st.D.gR=0→(bZ st t).2=true∧(bZ st t).1.D.gR=0):=by
 obtain⟨⟨L,W,A,D⟩,s⟩:=st
 obtain⟨h1,h2,h3,h4,h5,h6⟩:=hd
 simp only at h1 h2 h3 h4 h5 h6 hs ht
 subst h3 h4
 obtain⟨d',b,e,c1,c2,c3,c4,c5,c6⟩:=M4 h1 h2 h5.1 h5.2 hs ht h6
 have ef:bZ ⟨⟨L,[],A,false⟩,s⟩ t=(⟨d',bif b then t else s⟩,b):=by unfold bZ;rw[e];rfl
 rw[ef]
 refine⟨e,rfl,fun hb=> ?_,fun hb=>⟨c1,c2,c4 hb⟩,fun hA=>⟨(c5 hA).1,(c5 hA).2⟩⟩
 obtain⟨g1,g2,g3⟩:=c3 hb
 exact⟨c1.last,c2,g1,g2,⟨c1.a0,by show d'.gR≤900;omega⟩,g3⟩
open Go
@[reducible] def Hh (v:Gq):ax:=⟨v.1,v.2⟩
@[reducible] def zz:Type:=ax×List aT×List bG
@[reducible] def zy:Type:=ax×List (List UInt8)×List bB×List bL×List bA
@[reducible] def NL:Type:=ax×List (List UInt8)×List bB×List bL×List bA×List aT×List bG
def eH (h:ax):Gq:=(h.Server,h.told)
def eX (h:ax):Gq:=({h.Server with Live:=false},[])
theorem Jz {sv:aI} (h:sv.Told.length=3) {c:Int} (h1:1≤c) (h3:c≤3) (t:ck) (l:List ck):iG c t ⟨sv,l⟩=some (Hh (BU sv [] c t)):=by
 have hlt:(c-1).toNat<sv.Told.length:=by omega
 unfold iG dE BU wq
 simp only[aE,get_ite,aD,aC]
 rw[decide_eq_true (show c≥1 from h1),decide_eq_true (show c≤(sv.Told.length:Int)by omega),bh (by omega) (by omega),fO (by omega) (by omega),List.getElem?_eq_getElem hlt]
 simp only[cond_true,aw]
 by_cases hq:sv.Told[(c-1).toNat].Seq≤t.Seq
 ·rw[decide_eq_true hq,if_pos hq];rfl
 ·rw[decide_eq_false hq,if_neg hq];rfl
theorem qJ {sv:aI} (h:sv.Told.length=3) {a:bp} (h1:1≤a.bn) (h3:a.bn≤3) (t:ck) (l:List ck):dq a t ⟨sv,l⟩=some (Hh (ie sv a t)):=by
 unfold dq ed
 simp only[aE,aD,Jz h h1 h3];rfl
theorem zA {sv:aI} (h:sv.Told.length=3) {a:bp} (h1:1≤a.bn) (h3:a.bn≤3) (m:bA) (l:List ck):fZ a m ⟨sv,l⟩=some (Hh (ie sv a (Nk m))):=by
 unfold fZ gG
 simp only[aE,aD,qJ h h1 h3 _ _];rfl
theorem Ch {sv:aI} (hl:sv.aA.S.aP.length=6) (n:Int) (l:List ck):gF n ⟨sv,l⟩=some (Jt sv.aA.S n):=by
 unfold gF im Jt
 simp only[aE,get_ite,aD,aC]
 by_cases c1:n≥1
 ·by_cases c2:n≤(sv.aA.S.aP.length:Int)
  ·have hfn:=ji (n:=n) hl (by omega) (by omega)
   rw[decide_eq_true c1,decide_eq_true c2,decide_eq_true (show 1≤n∧n≤6 by omega),bh (by omega) (by omega),fO (by omega) (by omega),hfn]
   simp only[cond_true,aw,Bool.true_and]
   by_cases hn:(sA sv.aA.S n).Name=[]
   ·rw[eu hn,decide_eq_true hn]
   ·rw[dj hn,decide_eq_false hn]
  ·rw[decide_eq_true c1,decide_eq_false c2,decide_eq_false (show ¬(1≤n∧n≤6)by omega)];rfl
 ·rw[decide_eq_false c1,decide_eq_false (show ¬(1≤n∧n≤6)by omega)];rfl
theorem PB {sv:aI} (hl:sv.aA.S.aP.length=6) (ht:sv.Told.length=3) (hd:fQ sv.bd) {w:bG} (hw:AM w) (l:List ck):
  ∃s,oq fuel w ⟨sv,l⟩=some s∧(match s with| .inl h=>h| .inr h=>h)=Hh (Kg sv [] w):=by
 have hc:=hw.aV
 have hf:=hw.file
 have hfn:=ji (n:=w.aX) hl hf.1 hf.2
 unfold oq mn Kg Nq
 simp only[aE,get_ite,aD,aC,Gu _ sv.gQ w.Client w.aX hd.iJ.sorted (by have:=hd.iJ.short;omega),Ch hl,aw,Jz ht hc.1 hc.2]
 rw[bh (show-9223372036854775808≤w.aX-1 by omega) (by omega),fO (by omega) (by omega),hfn]
 simp only[cond_true,aw]
 cases hi:Jt sv.aA.S w.aX with
 |true=>exact⟨_,rfl,rfl⟩
 |false=>exact⟨_,rfl,rfl⟩
theorem MT {sv:aI} (cs:List Int) (hcs:cs.length<1000) (f:Int) (l0:List ck) (hl0:l0.length<1000) (step:Int×ax→Option ((Int×ax) ⊕ ax))
  (hs: ∀v,step v=D.Tree.get (.ite (decide (v.1<(cs.length:Int))) (.ite (cN v.1 cs.length) (.opt (cs[v.1.toNat]?) fun y_1=> .opt (gH y_1 f v.2) fun r_2=> .ret (.inl ((ay (v.1+1)),r_2))) .fail) (.ret (.inr v.2)))):
  iter step fuel (0,⟨sv,l0⟩)=some (Hh (sv,l0++cs.map (sh sv f))):=by
 obtain⟨x,e,hx⟩:=dI (step:=step) (fun k v=> ∃i:Nat,v.1=(i:Int)∧i+k=cs.length∧v.2=Hh (sv,l0++(cs.take i).map (sh sv f))) (fun r=>r=Hh (sv,l0++cs.map (sh sv f))) (fun k v hI=>by
  obtain⟨v1,v2⟩:=v
  obtain⟨i,hi,hk,hv⟩:=hI
  simp only at hi hv
  subst hi hv
  rw[hs]
  simp only[get_ite,aE,aD,aC,gH,lE]
  by_cases hlt:i<cs.length
  ·rw[dh hlt,bP hlt,Int.toNat_natCast,List.getElem?_eq_getElem hlt,aw,bI (by omega),decide_eq_true (show(l0++(cs.take i).map (sh sv f)).length+1≤dK by rw[cq];simp;omega)]
   refine⟨_,rfl,k-1,by omega,i+1,rfl,by omega,?_⟩
   show(⟨sv,l0++(cs.take i).map (sh sv f)++[sh sv f cs[i]]⟩:ax)=⟨sv,l0++(cs.take (i+1)).map (sh sv f)⟩
   rw[List.take_succ_eq_append_getElem hlt,List.map_append,List.append_assoc];rfl
  ·obtain rfl:i=cs.length:=by omega
   rw[dv]
   refine⟨_,rfl,?_⟩
   rw[List.take_length];rfl) cs.length (0,⟨sv,l0⟩) fuel ⟨0,rfl,by omega,by simp⟩ (cm (by omega))
 rw[e,hx]
def eL:ax ⊕ (zz ⊕ (zz ⊕ zz))→Gq
 | .inl h=>eH h
 | .inr (.inl p)=>eH p.1
 | .inr (.inr (.inl p))=>eH p.1
 | .inr (.inr (.inr p))=>eH p.1
theorem Pg (l:List aT) (now c f m:Int):(tq l now c f m).length≤l.length:=by
 unfold tq;rw[List.length_map];exact List.length_filter_le _ _
theorem NX {sv:aI} (S:ij sv) {a:bp} (h1:1≤a.bn) (h3:a.bn≤3) (hw:AM (cF a)) (l:List ck): ∃s,nj fuel a ⟨sv,l⟩=some s∧eL s=CD sv a:=by
 have hl:=S.lM.nf
 have hq:=S.rW.ask S.now hw
 have hshort:=hq.iJ.short
 unfold nj lD CD
 simp only[aE,get_ite,aD,aC,aF,Ch hl,aw,qJ S.told h1 h3,SH S.rW sv.gQ (cF a),show(⟨a.bn,a.Seq,a.aX,a.Mode⟩:bG)=cF a from rfl]
 cases hi:Jt sv.aA.S a.aX with
 |false=>exact⟨_,rfl,rfl⟩
 |true=>
  rw[if_neg (by simp)]
  simp only[Bool.not_true,cond_false]
  have cs0:(ju sv.bd sv.gQ (cF a)).2.1=true∨(ju sv.bd sv.gQ (cF a)).2.2.2≠0→(ju sv.bd sv.gQ (cF a)).2.2.1=[]:=by
   unfold ju
   split
   ·intro _;rfl
   split
   ·intro _;rfl
   ·intro h;rcases h with h|h
    ·cases h
    ·exact absurd rfl h
  have Pu:(ju sv.bd sv.gQ (cF a)).2.2.1.length<1000:=by
   have hs:=(S.rW.Io sv.gQ).iJ.short
   unfold ju
   split
   ·show(0:Nat)<1000;decide
   split
   ·show(0:Nat)<1000;decide
   ·exact Nat.lt_of_le_of_lt (Pg _ _ _ _ _) (by show(uN sv.bd.bF sv.gQ).length<1000;exact Nat.lt_of_le_of_lt hs (by decide))
  cases hok:(ju sv.bd sv.gQ (cF a)).2.1 with
  |true=>
   rw[if_pos rfl]
   simp only[cond_true]
   obtain⟨s,e,hs⟩:=PB (sv:={sv with bd:=(ju sv.bd sv.gQ (cF a)).1}) hl S.told hq hw []
   rw[e,aw,cs0 (Or.inl hok)]
   have lp: ∀h:ax,ei fuel [] (([]:List Int).length:Int) a (cF a) (ju sv.bd sv.gQ (cF a)).1 sv.bd.bF sv.bd.cZ 0 h=some h∧km fuel [] (([]:List Int).length:Int) a (cF a) (ju sv.bd sv.gQ (cF a)).1 sv.bd.bF sv.bd.cZ 0 h=some h:=fun h=>by
    unfold ei km
    rw[nH]
    exact⟨rfl,rfl⟩
   cases s with
   |inl h=>simp only[bu,(lp h).1,aw];refine⟨_,rfl,?_⟩;rw[show h=_ from hs];rfl
   |inr h=>simp only[fi,(lp h).2,aw];refine⟨_,rfl,?_⟩;rw[show h=_ from hs];rfl
  |false=>
   rw[if_neg (by simp)]
   simp only[cond_false]
   by_cases he:(ju sv.bd sv.gQ (cF a)).2.2.2=0
   ·rw[if_neg (by simp[he]),show((ju sv.bd sv.gQ (cF a)).2.2.2 != 0)=false by simp[he]]
    unfold pc
    have:=MT (sv:={sv with bd:=(ju sv.bd sv.gQ (cF a)).1}) (ju sv.bd sv.gQ (cF a)).2.2.1 Pu a.aX [] (by decide) (o9 (ju sv.bd sv.gQ (cF a)).2.2.1 ((ju sv.bd sv.gQ (cF a)).2.2.1.length:Int) a (cF a) (ju sv.bd sv.gQ (cF a)).1 sv.bd.bF sv.bd.cZ) (fun v=>rfl)
    simp only[cond_false]
    rw[this,aw]
    exact⟨_,rfl,rfl⟩
   ·rw[if_pos he,show((ju sv.bd sv.gQ (cF a)).2.2.2 != 0)=true by simp[he]]
    simp only[cond_true]
    rw[qJ (sv:={sv with bd:=(ju sv.bd sv.gQ (cF a)).1}) S.told h1 h3,aw,cs0 (Or.inr he)]
    have lp: ∀h:ax,ei fuel [] (([]:List Int).length:Int) a (cF a) (ju sv.bd sv.gQ (cF a)).1 sv.bd.bF sv.bd.cZ 0 h=some h:=fun h=>by
     unfold ei
     rw[nH];rfl
    rw[lp,aw]
    exact⟨_,rfl,rfl⟩
theorem wF {sv:aI} {s:aG} (hc:iV fuel sv.aA s=some (bZ sv.aA s)) (l:List ck):fD fuel s ⟨sv,l⟩=some (bif (bZ sv.aA s).2 then .inl (⟨{sv with aA:=(bZ sv.aA s).1},[]⟩,sv.aA.D.aU,sv.aA.D.bC)else .inr (⟨{sv with aA:=(bZ sv.aA s).1},[]⟩,sv.aA.D.aU,sv.aA.D.bC)):=by
 unfold fD gk
 simp only[aE,get_ite,aD,hc,aw]
 cases (bZ sv.aA s).2<;>rfl
def eO:zy ⊕ zy→Gq
 | .inl p=>eH p.1
 | .inr p=>eX p.1
theorem NW {sv:aI} (S:ij sv) (hlive:sv.Live=true) {a:bp} (h1:1≤a.bn) (h3:a.bn≤3) (hq:0≤a.Seq∧a.Seq≤1073741824) (hn:a.Name.length<4294967296) (l:List ck): ∃s,ni fuel a ⟨sv,l⟩=some s∧eO s=LY sv a:=by
 have hg:=CN S.lM a.bn a.Seq hq.1 hq.2 a.Name
 have hc:=(oM (S.FO hlive) S.lM hg.1).1
 unfold ni lC LY nC
 simp only[aE,get_ite,aD,aC,aF,Tb S.lM a.bn a.Seq h1 h3 a.Name hn,aw]
 rw[wF (sv:=sv) hc,aw]
 cases hb:(bZ sv.aA (pP sv.aA.S a.bn a.Seq a.Name).1).2 with
 |true=>
  simp only[cond_true,bu]
  rw[zA (sv:={sv with aA:=(bZ sv.aA (pP sv.aA.S a.bn a.Seq a.Name).1).1}) S.told h1 h3,aw]
  exact⟨_,rfl,rfl⟩
 |false=>exact⟨_,rfl,rfl⟩
def eF:ax ⊕ (zy ⊕ zy)→Gq
 | .inl h=>eH h
 | .inr (.inl p)=>eH p.1
 | .inr (.inr p)=>eX p.1
theorem Dk {sv:aI} (S:ij sv) (hlive:sv.Live=true) {a:bp} (h1:1≤a.bn) (h3:a.bn≤3) (hq:0≤a.Seq∧a.Seq≤1073741824) (hw:a.aQ.length<1000) (l:List ck):
  ∃s,iq fuel a ⟨sv,l⟩=some s∧eF s=px sv a∧(match s with| .inl h=>h=Hh (ie sv a (GL 6))∧rl sv a=false| .inr _=>rl sv a=true)∧
   (∀p,s= .inr (.inl p)→p.1.Server.bd=sv.bd∧(bZ sv.aA (jf sv.aA.S a.bn a.Seq a.aX a.aQ).1).2=true)∧(∀p,s= .inr (.inr p)→(bZ sv.aA (jf sv.aA.S a.bn a.Seq a.aX a.aQ).1).2=false):=by
 have hg:=vv S.lM a.bn a.Seq a.aX hq.1 hq.2 a.aQ
 have hc:=(oM (S.FO hlive) S.lM hg.1).1
 unfold iq jC px nC rl
 simp only[aE,get_ite,aD,aC,aF,Gu _ sv.gQ a.bn a.aX S.rW.iJ.sorted (by have:=S.rW.iJ.short;omega),aw,qJ S.told h1 h3,Ch S.lM.nf,Rz S.lM a.bn a.Seq a.aX h1 h3 a.aQ hw]
 by_cases hh:lL sv.bd.bF sv.gQ a.bn a.aX=2
 ·rw[decide_eq_true hh,show(lL sv.bd.bF sv.gQ a.bn a.aX != 2)=false by simp[hh]]
  cases hi:Jt sv.aA.S a.aX with
  |false=>exact⟨_,rfl,rfl,⟨rfl,rfl⟩,fun p h=>(by cases h),fun p h=>(by cases h)⟩
  |true=>
   rw[if_neg (by simp)]
   simp only[cond_false,Bool.not_true]
   rw[wF (sv:=sv) hc,aw]
   cases hb:(bZ sv.aA (jf sv.aA.S a.bn a.Seq a.aX a.aQ).1).2 with
   |true=>
    simp only[cond_true,bu]
    rw[zA (sv:={sv with aA:=(bZ sv.aA (jf sv.aA.S a.bn a.Seq a.aX a.aQ).1).1}) S.told h1 h3,aw]
    refine⟨_,rfl,rfl,rfl,fun p h=> ?_,fun p h=>by cases h⟩
    cases h
    refine⟨?_,trivial⟩
    show(wq _ _ _).bd=_
    unfold wq
    split
    ·split<;>rfl
    ·rfl
   |false=>exact⟨_,rfl,rfl,rfl,fun p h=>(by cases h),fun p h=>rfl⟩
 ·rw[decide_eq_false hh,show(lL sv.bd.bF sv.gQ a.bn a.aX != 2)=true by simp[hh]]
  exact⟨_,rfl,rfl,⟨rfl,rfl⟩,fun p h=>(by cases h),fun p h=>(by cases h)⟩
theorem OE (sv:aI) (c:Int) (t:ck) (d:b9):{wq sv c t with bd:=d}=wq {sv with bd:=d} c t:=by
 unfold wq
 simp only
 cases sv.Told[(c-1).toNat]? with
 |none=>rfl
 |some y=>
  simp only
  split<;>rfl
theorem E7 (sv:aI) (c:Int) (t:ck):(wq sv c t).bd=sv.bd:=by
 unfold wq
 split
 ·split<;>rfl
 ·rfl
open Go
theorem Nr {α:Type} (l:List α):decide ((l.length:Int)>0)= !decide (l=[]):=by
 cases l with
 |nil=>rfl
 |cons a r=>simp<;>omega
def eB:zz ⊕ (zz ⊕ (NL ⊕ zy))→Gq
 | .inl p=>eH p.1
 | .inr (.inl p)=>eH p.1
 | .inr (.inr (.inl p))=>eH p.1
 | .inr (.inr (.inr p))=>eX p.1
theorem PD {sv:aI} (S:ij sv) (hlive:sv.Live=true) {a:bp} (h1:1≤a.bn) (h3:a.bn≤3) (hq:0≤a.Seq∧a.Seq≤1073741824) (hw:a.aQ.length<1000) (l:List ck):
  ∃s,jB fuel a ⟨sv,l⟩=some s∧eB s=HT sv a:=by
 have hgive: ∀sv':aI,sv'.bd=sv.bd→oL fuel sv'.bd a.bn a.aX=some (BO sv.bd a.bn a.aX):=fun sv' h=>by rw[h];exact KT S.rW a.bn a.aX
 unfold jB iE HT
 simp only[aE,get_ite,aD,aC,aF,Nr,qJ S.told h1 h3,aw]
 by_cases h0:a.aQ=[]
 ·rw[decide_eq_true h0,if_pos h0]
  simp only[Bool.not_true,cond_false]
  rw[hgive (ie sv a ⟨0,0,0,0,0,a.aX,0,0,[]⟩).1 (E7 _ _ _),aw]
  exact⟨_,rfl,rfl⟩
 ·rw[decide_eq_false h0,if_neg h0]
  simp only[Bool.not_false,cond_true]
  obtain⟨s,e,es,k1,k2,k3⟩:=Dk S hlive h1 h3 hq hw []
  rw[e,aw]
  rcases s with s|s|s
  ·obtain⟨k1,k1'⟩:=k1
   rw[if_pos k1',k1]
   simp only[bu]
   rw[hgive (ie sv a (GL 6)).1 (E7 _ _ _),aw]
   exact⟨_,rfl,rfl⟩
  ·have k1:rl sv a=true:=k1
   obtain⟨k2,k2'⟩:=k2 s rfl
   rw[if_neg (by simp[k1])]
   simp only[bu,fi]
   rw[hgive _ k2,aw]
   refine⟨_,rfl,?_⟩
   unfold px nC at es
   rw[if_neg (by simp[k1]),if_pos k2']at es
   unfold nC
   rw[if_pos k2']
   have es1:s.1.Server=_:=congrArg Prod.fst es
   have es2:s.1.told=_:=congrArg Prod.snd es
   show({s.1.Server with bd:=BO sv.bd a.bn a.aX},s.1.told)=_
   rw[es1,es2]
   unfold ie BU
   simp only[id]
   rw[OE];rfl
  ·have k1:rl sv a=true:=k1
   have k3:=k3 s rfl
   rw[if_neg (by simp[k1])]
   simp only[fi]
   refine⟨_,rfl,?_⟩
   unfold px nC at es
   rw[if_neg (by simp[k1]),if_neg (by simp[k3])]at es
   unfold nC
   rw[if_neg (by simp[k3])]
   exact es
theorem K6 (l:List bG) (f c:Int) (h:l.length<1000000):gZ fuel l f c=some (l.any fun w=>(w.aX==f)&&(w.Client != c)):=by
 have hp:(fun w:bG=>(w.aX==f)&&(w.Client != c))=fun w=>du w f c:=funext fun w=>by
  unfold du iF
  simp only[aL,aK]
  cases w.aX==f<;>rfl
 unfold gZ fW mM gp j7
 simp only[aE,aD,aF]
 rw[oG l (fun w=>du w f c) (j6 l (l.length:Int) f c) (fun i=>rfl) h,aw,hp]
 cases hf:l.findIdx? (fun w=>du w f c)with
 |none=>
  have:l.any (fun w=>du w f c)=false:=by
   rw[List.any_eq_false]
   intro x hx
   rw[k6 hf x hx];decide
  rw[this];rfl
 |some i=>
  obtain⟨hi,hp,_⟩:=fh hf
  have:l.any (fun w=>du w f c)=true:=List.any_eq_true.2 ⟨_,List.getElem_mem hi,hp⟩
  rw[this]
  simp only[bu,aw]
  rw[decide_eq_true (show(i:Int)≥0 by omega)]
theorem LD {sv:aI} (S:ij sv) (c f:Int) (l:List ck):ml fuel c f ⟨sv,l⟩=some (Ek sv c f,Hh (sv,[])):=by
 unfold ml kl Ek
 simp only[aE,get_ite,aD,F9 _ sv.gQ c f 2 S.rW.iJ.sorted (by have:=S.rW.iJ.short;omega),aw,K6 sv.bd.cZ f c (by have:=S.rW.Pu;omega),Nr]
 cases decide (tq sv.bd.bF sv.gQ c f 2=[])<;>rfl
def eE:ax ⊕ (NL ⊕ zy)→Gq
 | .inl h=>eH h
 | .inr (.inl p)=>eH p.1
 | .inr (.inr p)=>eX p.1
theorem PC {sv:aI} (S:ij sv) (hlive:sv.Live=true) {a:bp} (h1:1≤a.bn) (h3:a.bn≤3) (hq:0≤a.Seq∧a.Seq≤1073741824) (l:List ck): ∃s,ou fuel a ⟨sv,l⟩=some s∧eE s=HJ sv a:=by
 have hg:=CO S.lM a.bn a.Seq a.aX hq.1 hq.2
 have hc:=(oM (S.FO hlive) S.lM hg.1).1
 unfold ou mo HJ nC
 simp only[aE,get_ite,aD,aC,aF,LD S,aw,qJ S.told h1 h3,Tf S.lM a.bn a.Seq a.aX h1 h3]
 cases ho:Ek sv a.bn a.aX with
 |true=>exact⟨_,rfl,rfl⟩
 |false=>
  rw[if_neg (by simp)]
  simp only[cond_false]
  rw[wF (sv:=sv) hc,aw]
  cases hb:(bZ sv.aA (pT sv.aA.S a.bn a.Seq a.aX).1).2 with
  |true=>
   simp only[cond_true,bu,KT S.rW,aw]
   rw[xA _ a.bn (by show sv.bd.cZ.length<1000000;have:=S.rW.Pu;omega),aw]
   rw[zA (sv:={sv with aA:=(bZ sv.aA (pT sv.aA.S a.bn a.Seq a.aX).1).1,bd:=⟨(BO sv.bd a.bn a.aX).bF,fE (BO sv.bd a.bn a.aX).cZ a.bn⟩}) S.told h1 h3,aw]
   exact⟨_,rfl,rfl⟩
  |false=>exact⟨_,rfl,rfl⟩
def eS:ax ⊕ (ax ⊕ (ax ⊕ (ax ⊕ (zz ⊕ (zz ⊕ (zz ⊕ (zz ⊕ (zz ⊕ (zy ⊕ (zy ⊕ (zy ⊕ (zy ⊕ (NL ⊕ NL)))))))))))))→Gq
 | .inl h=>(h.Server,[])
 | .inr (.inl h)=>eH h
 | .inr (.inr (.inl h))=>eH h
 | .inr (.inr (.inr (.inl h)))=>eH h
 | .inr (.inr (.inr (.inr (.inl p))))=>eH p.1
 | .inr (.inr (.inr (.inr (.inr (.inl p)))))=>eH p.1
 | .inr (.inr (.inr (.inr (.inr (.inr (.inl p))))))=>eH p.1
 | .inr (.inr (.inr (.inr (.inr (.inr (.inr (.inl p)))))))=>eH p.1
 | .inr (.inr (.inr (.inr (.inr (.inr (.inr (.inr (.inl p))))))))=>eH p.1
 | .inr (.inr (.inr (.inr (.inr (.inr (.inr (.inr (.inr (.inl p)))))))))=>(p.1.Server,[])
 | .inr (.inr (.inr (.inr (.inr (.inr (.inr (.inr (.inr (.inr (.inl p))))))))))=>(p.1.Server,[])
 | .inr (.inr (.inr (.inr (.inr (.inr (.inr (.inr (.inr (.inr (.inr (.inl p)))))))))))=>(p.1.Server,[])
 | .inr (.inr (.inr (.inr (.inr (.inr (.inr (.inr (.inr (.inr (.inr (.inr (.inl p))))))))))))=>eH p.1
 | .inr (.inr (.inr (.inr (.inr (.inr (.inr (.inr (.inr (.inr (.inr (.inr (.inr (.inl p)))))))))))))=>eH p.1
 | .inr (.inr (.inr (.inr (.inr (.inr (.inr (.inr (.inr (.inr (.inr (.inr (.inr (.inr p)))))))))))))=>eH p.1
theorem LC {sv:aI} (S:ij sv) (hlive:sv.Live=true) {a:bp} (ha:cL a=true): ∃s,ja fuel a ⟨sv,[]⟩=some s∧eS s=fu sv a:=by
 obtain⟨hk,hfr,_,hsq,hnm,hfi,hmo,hwl,_⟩:=fv ha
 have h1:=hfr.1
 have h3:=hfr.2
 have hq:0≤a.Seq∧a.Seq≤1073741824:=by omega
 unfold ja kk fu
 simp only[aE,get_ite,aD,aC,aF,qJ S.told h1 h3,aw]
 by_cases hh:sv.gQ<sv.l6
 ·rw[decide_eq_true hh,if_pos hh];exact⟨_,rfl,rfl⟩
 rw[decide_eq_false hh,if_neg hh,cond_false]
 by_cases k1:a.Kind=1
 ·rw[if_pos k1,eu k1,cond_true]
  obtain⟨s,e,es⟩:=NW S hlive h1 h3 hq (by omega) []
  rw[e,aw,←es]
  rcases s with s|s<;>exact⟨_,rfl,rfl⟩
 rw[if_neg k1,dj k1,cond_false]
 by_cases k2:a.Kind=2
 ·rw[if_pos k2,eu k2,cond_true]
  have hwait:AM (cF a):=by
   unfold cL at ha
   simp only[Bool.and_eq_true]at ha
   have h5:=ha.2.2.2.2.1
   unfold wE at h5
   rw[dj k1,eu k2]at h5
   simp only[cond_false,cond_true,Bool.and_eq_true,cH]at h5
   exact⟨hfr,h5.1,h5.2⟩
  obtain⟨s,e,es⟩:=NX S h1 h3 hwait []
  rw[e,aw,←es]
  rcases s with s|s|s|s<;>exact⟨_,rfl,rfl⟩
 rw[if_neg k2,dj k2,cond_false]
 by_cases k3:a.Kind=3
 ·rw[if_pos k3,eu k3,cond_true]
  obtain⟨s,e,es,_⟩:=Dk S hlive h1 h3 hq (by omega) []
  rw[e,aw,←es]
  rcases s with s|s|s<;>exact⟨_,rfl,rfl⟩
 rw[if_neg k3,dj k3,cond_false]
 by_cases k4:a.Kind=4
 ·rw[if_pos k4,eu k4,cond_true]
  obtain⟨s,e,es⟩:=PD S hlive h1 h3 hq (by omega) []
  rw[e,aw,←es]
  rcases s with s|s|s|s<;>exact⟨_,rfl,rfl⟩
 rw[if_neg k4,dj k4,cond_false,eu (show a.Kind=5 by omega),cond_true]
 obtain⟨s,e,es⟩:=PC S hlive h1 h3 hq []
 rw[e,aw,←es]
 rcases s with s|s|s<;>exact⟨_,rfl,rfl⟩
theorem at3 {α:Type} {l:List α} (hl:l.length=3) {c:Int} (h1:1≤c) (h3:c≤3) (d:α):l[(c-1).toNat]? =some ((l[(c-1).toNat]?).getD d):=by
 rw[List.getElem?_eq_getElem (show(c-1).toNat<l.length by omega)];rfl
theorem QC {sv:aI} (S:ij sv) {a:bp} (h1:1≤a.bn) (h3:a.bn≤3) (hq:1≤a.Seq):zL sv.aA.S.aS sv.Seen sv.Told sv.aA.S.Marks a=some (mz sv a):=by
 have e1:=S.seen
 have e2:=S.told
 have e3:=S.lM.nm
 unfold zL uB mz Nj CB uW qq
 simp only[aE,get_ite,aD,aC,aL,aK,e1,e2,e3]
 rw[decide_eq_false (show ¬a.bn<1 by omega),decide_eq_false (show ¬a.bn>((3:Nat):Int)by omega),decide_eq_false (show ¬a.Seq<1 by omega),decide_eq_true (show a.bn≥1 from h1),decide_eq_true (show a.bn≤((3:Nat):Int)by omega),decide_eq_false (show ¬a.Seq≤0 by omega),bh (show-9223372036854775808≤a.bn-1 by omega) (by omega),fO (show 0≤a.bn-1 by omega) (show a.bn-1<((3:Nat):Int)by omega)]
 simp only[bne_self_eq_false,cond_false,cond_true,Bool.not_true]
 by_cases he:a.aS=sv.aA.S.aS
 case neg=>rw[if_pos he,show(a.aS != sv.aA.S.aS)=true by simp[he]];rfl
 rw[if_neg (by simp[he]),show(a.aS != sv.aA.S.aS)=false by simp[he],at3 e1 h1 h3 0,at3 e2 h1 h3 ⟨0,0,0,0,0,0,0,0,[]⟩,at3 e3 h1 h3 ⟨0,0,0,0⟩]
 simp only[cond_false,aw]
 change (bif decide (a.Seq<seenAt sv a.bn)then _ else _)=_
 by_cases hs:a.Seq<seenAt sv a.bn
 ·rw[decide_eq_true hs,if_pos hs];rfl
 rw[decide_eq_false hs,if_neg hs]
 simp only[cond_false]
 change (bif (EK sv a.bn).Seq==a.Seq then some (3,EK sv a.bn)else _)=_
 by_cases ht:(EK sv a.bn).Seq=a.Seq
 ·rw[eu ht,if_pos ht];rfl
 rw[dj ht,if_neg ht]
 simp only[cond_false]
 change ((bif (jD sv a.bn).Seq != a.Seq then some ((⟨0,0,0,0⟩:bA),false)else some (jD sv a.bn,true)).bind _)=_
 by_cases hm:(jD sv a.bn).Seq=a.Seq
 ·rw[show((jD sv a.bn).Seq != a.Seq)=false by simp[hm],if_pos hm];rfl
 ·rw[show((jD sv a.bn).Seq != a.Seq)=true by simp[hm],if_neg hm];rfl
theorem Ie {sv:aI} (S:ij sv) (a:bp):ij (yY sv a):=
 ⟨S.lM,S.rW,by show(sv.Seen.set _ _).length=3;rw[List.length_set];exact S.seen,S.told,S.now,S.FO⟩
theorem Dp {b:List UInt8} (h:(kN b).2=true):cL (kN b).1=true∧b=eY (kN b).1:=by
 obtain⟨x,r,_,hz,hm⟩:=Ia h
 have:=Dn hm
 rw[←hz]at this
 rw[this]
 exact⟨hm,hz⟩
theorem NY {sv:aI} (S:ij sv) (b:List UInt8) (hb:b.length≤dK):kO fuel sv b=some (oN sv b):=by
 unfold kO qZ oN gz
 simp only[aE,get_ite,aD,aC,aF]
 cases hlive:sv.Live with
 |false=>rfl
 |true=>
  rw[if_neg (by simp)]
  simp only[Bool.not_true,cond_false,Fa b hb,aw]
  cases ht:(kN b).2 with
  |false=>rfl
  |true=>
   rw[if_neg (by simp)]
   simp only[Bool.not_true,cond_false]
   obtain⟨hm,_⟩:=Dp ht
   generalize (kN b).1=a at hm
   obtain⟨hk,hfr,_,hsq,_⟩:=fv hm
   rw[QC S hfr.1 hfr.2 hsq.1,aw]
   unfold wj
   by_cases j1:(mz sv a).1=1
   ·rw[if_pos j1,eu j1];rfl
   rw[if_neg j1,dj j1,cond_false]
   by_cases j3:(mz sv a).1=3
   ·rw[if_pos j3,eu j3];rfl
   rw[if_neg j3,dj j3,cond_false]
   by_cases j4:(mz sv a).1=4
   ·rw[if_pos j4,eu j4]
    have hs:=S.seen
    rw[bh (by omega) (by omega),fO (by omega) (by omega),List.getElem?_eq_getElem (show(a.bn-1).toNat<sv.Seen.length by omega)]
    simp only[cond_true,aw]
    obtain⟨s,e,es⟩:=LC (Ie S a) hlive hm
    have e':ja fuel a ⟨⟨sv.aA,sv.bd,sv.Seen.set (a.bn-1).toNat a.Seq,sv.Told,sv.gQ,sv.l6,sv.DZ,true,sv.gP⟩,[]⟩=some s:=by
     rw[←e]
     unfold yY
     rw[hlive]
    rw[e',aw,←es]
    rcases s with s|s|s|s|s|s|s|s|s|s|s|s|s|s|s<;>rfl
   ·rw[if_neg j4,dj j4];rfl
open Go
theorem Bt (sv:aI) (c:Int) (t:ck): ∃T,wq sv c t={sv with Told:=T}∧T.length=sv.Told.length:=by
 unfold wq
 split
 ·split
  ·exact⟨_,rfl,by simp⟩
  ·exact⟨_,rfl,rfl⟩
 ·exact⟨_,rfl,rfl⟩
theorem PO {sv:aI} (S:ij sv) {T:List ck} (h:T.length=3):ij {sv with Told:=T}:=⟨S.lM,S.rW,S.seen,h,S.now,S.FO⟩
theorem m8 {sv:aI} (S:ij sv) (c:Int) (t:ck):ij (wq sv c t):=by
 obtain⟨T,e,hT⟩:=Bt sv c t
 rw[e];exact PO S (hT.trans S.told)
theorem wP {sv:aI} (S:ij sv) {d:b9} (h:fQ d):ij {sv with bd:=d}:=⟨S.lM,h,S.seen,S.told,S.now,S.FO⟩
theorem Ba {sv:aI} (S:ij sv) (hlive:sv.Live=true) (a:bp) {r:aG×bA} (hg:Good 1073741824 r.1) {f:b9→b9} (hf:fQ (f sv.bd)):ij (nC sv a r f).1:=by
 obtain⟨_,cS,cD,_⟩:=oM (S.FO hlive) S.lM hg
 unfold nC
 split
 ·rename_i hb
  have:ij {sv with aA:=(bZ sv.aA r.1).1,bd:=f sv.bd}:=by
   refine⟨?_,hf,S.seen,S.told,S.now,fun _=> ?_⟩
   ·show Good _ (bZ sv.aA r.1).1.S;rw[cS,hb];exact hg
   ·show AR (bZ sv.aA r.1).1.D (bZ sv.aA r.1).1.S;rw[cS,hb];exact cD hb
  exact m8 this _ _
 ·rename_i hb
  refine⟨?_,S.rW,S.seen,S.told,S.now,fun h=>by cases h⟩
  show Good _ (bZ sv.aA r.1).1.S
  rw[cS]
  cases (bZ sv.aA r.1).2
  ·exact S.lM
  ·exact hg
theorem ph {d:b9} (h:fQ d) (c f:Int):fQ (QA c f d):=
 ⟨uj h.iJ _,fun x hx=>h.line x (uZ hx),Nat.le_trans (List.length_filter_le _ _) h.Pu⟩
theorem RG {a:bp} (ha:cL a=true) (k2:a.Kind=2):AM (cF a):=by
 have hfr:=(fv ha).2.1
 unfold cL at ha
 simp only[Bool.and_eq_true]at ha
 have h5:=ha.2.2.2.2.1
 unfold wE at h5
 rw[dj (show ¬a.Kind=1 by omega),eu k2]at h5
 simp only[cond_false,cond_true,Bool.and_eq_true,cH]at h5
 exact⟨hfr,h5.1,h5.2⟩
theorem LJ {sv:aI} (S:ij sv) (hlive:sv.Live=true) {a:bp} (ha:cL a=true):ij (fu sv a).1:=by
 obtain⟨hk,hfr,_,hsq,hnm,hfi,hmo,hwl,_⟩:=fv ha
 have hq0:0≤a.Seq:=by omega
 unfold fu
 split
 ·exact m8 S _ _
 split
 ·exact Ba S hlive a (CN S.lM a.bn a.Seq hq0 hsq.2 a.Name).1 S.rW
 rename_i k1
 split
 ·rename_i k2
  have hd:=S.rW.ask S.now (RG ha k2)
  unfold CD
  split
  ·exact m8 S _ _
  split
  ·exact m8 (wP S hd) _ _
  split
  ·exact m8 (wP S hd) _ _
  ·exact wP S hd
 split
 ·unfold px
  split
  ·exact m8 S _ _
  ·exact Ba S hlive a (vv S.lM a.bn a.Seq a.aX hq0 hsq.2 a.aQ).1 S.rW
 split
 ·unfold HT
  split
  ·exact wP (m8 S _ _) (S.rW.UL _ _)
  split
  ·exact wP (m8 S _ _) (S.rW.UL _ _)
  ·exact Ba S hlive a (vv S.lM a.bn a.Seq a.aX hq0 hsq.2 a.aQ).1 (S.rW.UL _ _)
 ·unfold HJ
  split
  ·exact m8 S _ _
  ·exact Ba S hlive a (CO S.lM a.bn a.Seq a.aX hq0 hsq.2).1 (ph S.rW _ _)
theorem Oc {sv:aI} (S:ij sv) (b:List UInt8):ij (oN sv b).1:=by
 unfold oN
 split
 ·exact S
 rename_i hl
 split
 ·exact⟨S.lM,S.rW,S.seen,S.told,S.now,S.FO⟩
 rename_i ht
 have hm:=(Dp (b:=b) (by simpa using ht)).1
 unfold wj
 split
 ·exact S
 split
 ·exact S
 split
 ·exact LJ (Ie S _) (by show sv.Live=true;simpa using hl) hm
 ·exact S
theorem vf (sv:aI) (a:bp) (r:aG×bA) (f:b9→b9):(nC sv a r f).1.gQ=sv.gQ∧(nC sv a r f).1.l6=sv.l6∧(nC sv a r f).1.Seen=sv.Seen:=by
 unfold nC ie BU
 split
 ·obtain⟨T,e,_⟩:=Bt {sv with aA:=(bZ sv.aA r.1).1,bd:=f sv.bd} a.bn {Nk r.2 with Seq:=a.Seq}
  rw[e]
  exact⟨rfl,rfl,rfl⟩
 ·exact⟨rfl,rfl,rfl⟩
theorem ga (sv:aI) (a:bp) (t:ck):(ie sv a t).1.gQ=sv.gQ∧(ie sv a t).1.l6=sv.l6∧(ie sv a t).1.Seen=sv.Seen∧(ie sv a t).1.aA=sv.aA∧(ie sv a t).1.bd=sv.bd∧(ie sv a t).1.Live=sv.Live:=by
 unfold ie BU
 obtain⟨T,e,_⟩:=Bt sv a.bn {t with Seq:=a.Seq}
 rw[e]
 exact⟨rfl,rfl,rfl,rfl,rfl,rfl⟩
theorem Bg (sv:aI) (a:bp):(fu sv a).1.gQ=sv.gQ∧(fu sv a).1.l6=sv.l6∧(fu sv a).1.Seen=sv.Seen:=by
 have hs: ∀(sv:aI) t,(ie sv a t).1.gQ=sv.gQ∧(ie sv a t).1.l6=sv.l6∧(ie sv a t).1.Seen=sv.Seen:=fun sv t=>⟨(ga sv a t).1,(ga sv a t).2.1,(ga sv a t).2.2.1⟩
 unfold fu
 split
 ·exact hs _ _
 split
 ·exact vf _ _ _ _
 split
 ·unfold CD
  split
  ·exact hs _ _
  split
  ·unfold Kg BU
   obtain⟨T,e,_⟩:=Bt {sv with bd:=(ju sv.bd sv.gQ (cF a)).1} (cF a).Client (Nq {sv with bd:=(ju sv.bd sv.gQ (cF a)).1} (cF a))
   rw[e]
   exact⟨rfl,rfl,rfl⟩
  split
  ·exact hs {sv with bd:=(ju sv.bd sv.gQ (cF a)).1} _
  ·exact⟨rfl,rfl,rfl⟩
 split
 ·unfold px
  split
  ·exact hs _ _
  ·exact vf _ _ _ _
 split
 ·unfold HT
  split
  ·exact hs sv _
  split
  ·exact hs sv _
  ·exact vf _ _ _ _
 ·unfold HJ
  split
  ·exact hs _ _
  ·exact vf _ _ _ _
set_option maxRecDepth 100000
open Go
theorem H7 (y:UInt8) (m:Int) (h0:0<m) (h1:m≤256):0≤i8 (b8 ((i8 y).tmod m))∧i8 (b8 ((i8 y).tmod m))<m:=by
 have h:0≤i8 y:=Int.natCast_nonneg _
 have e:=Int.tmod_eq_emod_of_nonneg (b:=m) h
 have a:=Int.emod_nonneg (i8 y) (show m≠0 by omega)
 have b:=Int.emod_lt_of_pos (i8 y) h0
 rw[e,Kr a (by omega)]
 exact⟨a,b⟩
theorem JY {A B:Type} {Q:B→Prop} {L:List A} {g:A→D.Tree B} {e:D.Tree B} {m:Int} {n:Nat} {y:UInt8} (hn:L.length=n) (hm:m=n) (h1:0<n∧n≤256) (h: ∀x∈L,Lq (g x) Q):
  Lq (.ite (cN (i8 (b8 ((i8 y).tmod m))) n) (.opt (L[(i8 (b8 ((i8 y).tmod m))).toNat]?) g) e) Q:=by
 obtain⟨a,b⟩:=H7 y m (by omega) (by omega)
 have hl:(i8 (b8 ((i8 y).tmod m))).toNat<L.length:=by omega
 refine Iy (fun _=> ?_) (fun hf=> ?_)
 ·exact jU (List.getElem?_eq_getElem hl) (h _ (List.getElem_mem hl))
 ·rw[fO a (by omega)]at hf;cases hf
theorem Iw {y:UInt8} {m:Int} (h0:0<m) (h1:m≤256):1≤ay (1+ay (i8 (b8 ((i8 y).tmod m))))∧ay (1+ay (i8 (b8 ((i8 y).tmod m))))≤m:=by
 obtain⟨a,b⟩:=H7 y m h0 h1
 rw[bh (show-9223372036854775808≤i8 (b8 ((i8 y).tmod m))by omega) (by omega),bh (by omega) (by omega)]
 omega
structure HY (sv:aI) (a:bp):Prop where
 may:cL a=true
 wu:a.aS=sv.aA.S.aS∨a.aS=sv.aA.S.aS+1
 seq:a.Seq=1∨a.Seq≤seenAt sv a.bn+2
theorem Qq {f e q:Int} {nm:List UInt8} (hf:1≤f∧f≤3) (he:0≤e∧e≤1073741824) (hq:1≤q∧q≤1073741824) (hn:gl nm=true):cL ⟨1,f,e,q,nm,0,0,[]⟩=true:=by
 unfold cL
 simp only[cH.2 hf,cH.2 he,cH.2 hq,Bool.true_and]
 show(oR 1 5 1&&(gl nm&&eJ ⟨1,f,e,q,nm,0,0,[]⟩ ⟨1,f,e,q,nm,0,0,[]⟩))=true
 rw[hn,eI];rfl
theorem OJ {f e q fl m:Int} (hf:1≤f∧f≤3) (he:0≤e∧e≤1073741824) (hq:1≤q∧q≤1073741824) (h6:1≤fl∧fl≤6) (hm:1≤m∧m≤2):cL ⟨2,f,e,q,[],fl,m,[]⟩=true:=by
 unfold cL
 simp only[cH.2 hf,cH.2 he,cH.2 hq,Bool.true_and]
 show(oR 1 5 2&&((oR 1 6 fl&&oR 1 2 m)&&eJ ⟨2,f,e,q,[],fl,m,[]⟩ ⟨2,f,e,q,[],fl,m,[]⟩))=true
 rw[cH.2 h6,cH.2 hm,eI];rfl
theorem Aa {k f e q fl:Int} {ws:List aY} (hk:(k==3)=true∨(k==4)=true) (hf:1≤f∧f≤3) (he:0≤e∧e≤1073741824) (hq:1≤q∧q≤1073741824) (h6:1≤fl∧fl≤6) (hw:ws.all bQ=true) (hl:(ws.length:Int)≤5) (h0:(ws.length:Int)>0∨(k==4)=true):cL ⟨k,f,e,q,[],fl,0,ws⟩=true:=by
 have g:((decide ((ws.length:Int)>0)||k==4):Bool)=true:=by
  rcases h0 with h0|h0
  ·rw[decide_eq_true h0];rfl
  ·rw[h0,Bool.or_true]
 have hk':k=3∨k=4:=hk.elim (fun h=>Or.inl (eq_of_beq h)) (fun h=>Or.inr (eq_of_beq h))
 unfold cL
 simp only[cH.2 hf,cH.2 he,cH.2 hq,Bool.true_and]
 rcases hk' with rfl|rfl
 ·show(oR 1 5 3&&((decide ((ws.length:Int)≤5)&&((decide ((ws.length:Int)>0)||(3:Int)==4)&&(oR 1 6 fl&&ws.all bQ)))&&eJ ⟨3,f,e,q,[],fl,0,ws⟩ ⟨3,f,e,q,[],fl,0,ws⟩))=true
  rw[g,decide_eq_true hl,cH.2 h6,hw,eI];rfl
 ·show(oR 1 5 4&&((decide ((ws.length:Int)≤5)&&((decide ((ws.length:Int)>0)||(4:Int)==4)&&(oR 1 6 fl&&ws.all bQ)))&&eJ ⟨4,f,e,q,[],fl,0,ws⟩ ⟨4,f,e,q,[],fl,0,ws⟩))=true
  rw[g,decide_eq_true hl,cH.2 h6,hw,eI];rfl
theorem Qr {f e q fl:Int} (hf:1≤f∧f≤3) (he:0≤e∧e≤1073741824) (hq:1≤q∧q≤1073741824) (h6:1≤fl∧fl≤6):cL ⟨5,f,e,q,[],fl,0,[]⟩=true:=by
 unfold cL
 simp only[cH.2 hf,cH.2 he,cH.2 hq,Bool.true_and]
 show(oR 1 5 5&&(oR 1 6 fl&&eJ ⟨5,f,e,q,[],fl,0,[]⟩ ⟨5,f,e,q,[],fl,0,[]⟩))=true
 rw[cH.2 h6,eI];rfl
theorem SS {sv:aI} (S:ij sv) (he:sv.aA.S.aS<1073741824) (hs: ∀x∈sv.Seen,0≤x∧x≤1073741822) {d:List UInt8} (hd:d.length=4): ∃b,Ah fuel sv d=some b∧ ∃a,b=eY a∧HY sv a:=by
 match d,hd with
 |[d0,d1,d2,d3],_=>
 have e0:=S.lM.e0
 unfold Ah ve
 refine Dv rfl ?_
 refine Qh (P:=fun _=>True) ?_ fun r _=> ?_
 ·obtain⟨r,hr,_⟩:=J9 _ (Sc (eo [d0,d1,d2,d3] 1 4) (by unfold eo;simp))
  exact⟨r,hr,trivial⟩
 refine jU (x:=d1) rfl ?_
 refine jU (x:=d2) rfl ?_
 refine jU (x:=d3) rfl ?_
 have hF:=Iw (y:=d1) (m:=3) (by decide) (by decide)
 have hK:=Iw (y:=d2) (m:=5) (by decide) (by decide)
 have hL:=Iw (y:=d3) (m:=2) (by decide) (by decide)
 have hM:=Iw (y:=b8 (qj ((i8 d3).tdiv 2))) (m:=2) (by decide) (by decide)
 have hO: ∀y:UInt8,0≤ay (i8 (b8 ((i8 y).tmod 9)))∧ay (i8 (b8 ((i8 y).tmod 9)))<9:=fun y=>by
  obtain⟨a,b⟩:=H7 y 9 (by decide) (by decide)
  rw[bh (show-9223372036854775808≤i8 (b8 ((i8 y).tmod 9))by omega) (by omega)]
  exact⟨a,b⟩
 generalize ay (1+ay (i8 (b8 ((i8 d1).tmod 3))))=F at hF⊢
 generalize ay (1+ay (i8 (b8 ((i8 d2).tmod 5))))=K at hK⊢
 generalize ay (1+ay (i8 (b8 ((i8 d3).tmod 2))))=L at hL⊢
 have put: ∀(A:bp),cL A=true→(A.aS=sv.aA.S.aS∨A.aS=sv.aA.S.aS+1)→(A.Seq=1∨A.Seq≤seenAt sv A.bn+2)→
   Lq (.opt (a8 fuel A) fun r=> .ret r) (fun b=> ∃a,b=eY a∧HY sv a):=fun A h1 h2 h3=>
  jU (D6 A (by have:=(fv h1).2.2.2.2.1;omega) (by have:=(fv h1).2.2.2.2.2.2.2.1;omega)) (R6 ⟨A,rfl,h1,h2,h3⟩)
 have tail: ∀(A:Int→Int→bp) (els:D.Tree (List UInt8)),(∀e q,(A e q).aS=e∧(A e q).Seq=q∧(A e q).bn=F)→(∀e q,(0≤e∧e≤1073741824)→(1≤q∧q≤1073741824)→cL (A e q)=true)→
   Lq (.ite ((sv.Seen.length:Int)==3) (.ite (cN (ay (F-1)) sv.Seen.length) (.opt (sv.Seen[(ay (F-1)).toNat]?) fun y_7=>
   .opt ([d0,d1,d2,d3][0]?) fun y_8=>
   .ite (cN (i8 (b8 ((i8 (b8 (qj ((i8 y_8).tdiv 8)))).tmod 7))) 7) (.opt (([1,1,1,1,0,(-1),2]:List Int)[(i8 (b8 ((i8 (b8 (qj ((i8 y_8).tdiv 8)))).tmod 7))).toNat]?) fun y_9=>
    .opt ([d0,d1,d2,d3][0]?) fun y_10=>
    .ite ((i8 (b8 ((i8 y_10).tmod 32)))==31) (.opt (a8 fuel (A (ay (sv.aA.S.aS+1)) (imax 1 (ay (y_7+y_9))))) fun r_11=>
    .ret r_11)
    (.opt (a8 fuel (A sv.aA.S.aS (imax 1 (ay (y_7+y_9))))) fun r_12=>
    .ret r_12)) .fail) .fail) els) (fun b=> ∃a,b=eY a∧HY sv a):=fun A els hA hm=>by
  have hw:ay (F-1)=F-1:=bh (by omega) (by omega)
  have hlt:(F-1).toNat<sv.Seen.length:=by rw[S.seen];omega
  refine Dv (by rw[S.seen];rfl) ?_
  rw[hw]
  refine Dv (fO (by omega) (by rw[S.seen];omega)) ?_
  refine jU (List.getElem?_eq_getElem hlt) ?_
  have hy:=hs _ (List.getElem_mem hlt)
  have hsee:seenAt sv F=sv.Seen[(F-1).toNat]:=by unfold seenAt;rw[List.getElem?_eq_getElem hlt];rfl
  refine jU (x:=d0) rfl ?_
  refine JY (n:=7) rfl rfl (by decide) fun x hx=> ?_
  have hx': -1≤x∧x≤2:=by
   simp only[List.mem_cons,List.not_mem_nil,or_false]at hx
   omega
  refine jU (x:=d0) rfl ?_
  rw[bh (show-9223372036854775808≤sv.Seen[(F-1).toNat]+x by omega) (by omega),bh (show-9223372036854775808≤sv.aA.S.aS+1 by omega) (by omega)]
  have hq:1≤imax 1 (sv.Seen[(F-1).toNat]+x)∧imax 1 (sv.Seen[(F-1).toNat]+x)≤1073741824∧(imax 1 (sv.Seen[(F-1).toNat]+x)=1∨imax 1 (sv.Seen[(F-1).toNat]+x)≤seenAt sv F+2):=by
   rw[hsee];unfold imax;split<;>omega
  have fin: ∀e,(e=sv.aA.S.aS∨e=sv.aA.S.aS+1)→Lq (.opt (a8 fuel (A e (imax 1 (sv.Seen[(F-1).toNat]+x)))) fun r=> .ret r) (fun b=> ∃a,b=eY a∧HY sv a):=fun e h=>by
   obtain⟨g1,g2,g3⟩:=hA e (imax 1 (sv.Seen[(F-1).toNat]+x))
   exact put _ (hm _ _ (by omega) ⟨hq.1,hq.2.1⟩) (by rw[g1];exact h) (by rw[g2,g3];exact hq.2.2)
  exact Iy (fun _=>fin _ (Or.inr rfl)) (fun _=>fin _ (Or.inl rfl))
 have hwr: ∀y:UInt8,([(⟨ay (i8 (b8 ((i8 y).tmod 9))),[119,114]⟩:aY)]).all bQ=true:=fun y=>by
  have:=hO y
  have h1:bQ ⟨ay (i8 (b8 ((i8 y).tmod 9))),[119,114]⟩=true:=jg.2 ⟨this.1,by simp,by simp,by show ay (i8 (b8 ((i8 y).tmod 9)))≤(24:Int)-2;omega⟩
  simp only[List.all_cons,List.all_nil,h1,Bool.and_self]
 have hk:K=1∨K=2∨K=3∨K=4∨K=5:=by omega
 rcases hk with rfl|rfl|rfl|rfl|rfl
 ·refine Dv rfl ?_
  refine jU (x:=d3) rfl ?_
  refine JY (n:=3) rfl rfl (by decide) fun x hx=> ?_
  refine tail (fun e q=>bp.mk 1 F e q x 0 0 []) _ (fun e q=>⟨rfl,rfl,rfl⟩) fun e q h1 h2=>Qq hF h1 h2 ?_
  simp only[List.mem_cons,List.not_mem_nil,or_false]at hx
  rcases hx with rfl|rfl|rfl<;>rfl
 ·refine xm rfl ?_
  refine Dv rfl ?_
  refine jU (x:=d3) rfl ?_
  exact tail (fun e q=>bp.mk 2 F e q [] L (ay (1+ay (i8 (b8 ((i8 (b8 (qj ((i8 d3).tdiv 2)))).tmod 2))))) []) _ (fun e q=>⟨rfl,rfl,rfl⟩) fun e q h1 h2=>OJ hF h1 h2 (by omega) hM
 ·refine xm rfl ?_
  refine xm rfl ?_
  refine Dv rfl ?_
  refine jU (x:=d3) rfl ?_
  refine xm rfl ?_
  exact tail (fun e q=>bp.mk 3 F e q [] L 0 [(aY.mk (ay (i8 (b8 ((i8 d3).tmod 9)))) [119,114])]) _ (fun e q=>⟨rfl,rfl,rfl⟩) fun e q h1 h2=>Aa (Or.inl rfl) hF h1 h2 (by omega) (hwr d3) (by simp) (Or.inl (by simp))
 ·refine xm rfl ?_
  refine xm rfl ?_
  refine xm rfl ?_
  refine Dv rfl ?_
  refine jU (x:=d3) rfl ?_
  refine Dv rfl ?_
  refine jU (x:=d0) rfl ?_
  refine Iy (fun _=> ?_) (fun _=> ?_)
  ·exact tail (fun e q=>bp.mk 4 F e q [] L 0 []) _ (fun e q=>⟨rfl,rfl,rfl⟩) fun e q h1 h2=>Aa (Or.inr rfl) hF h1 h2 (by omega) rfl (by simp) (Or.inr rfl)
  ·exact tail (fun e q=>bp.mk 4 F e q [] L 0 [(aY.mk (ay (i8 (b8 ((i8 d3).tmod 9)))) [119,114])]) _ (fun e q=>⟨rfl,rfl,rfl⟩) fun e q h1 h2=>Aa (Or.inr rfl) hF h1 h2 (by omega) (hwr d3) (by simp) (Or.inr rfl)
 ·refine xm rfl ?_
  refine xm rfl ?_
  refine xm rfl ?_
  refine xm rfl ?_
  exact tail (fun e q=>bp.mk 5 F e q [] L 0 []) _ (fun e q=>⟨rfl,rfl,rfl⟩) fun e q h1 h2=>Qr hF h1 h2 (by omega)
open Go
def Ck:aI:=⟨⟨⟨List.replicate 19 de,[],0,false⟩,kr⟩,⟨[],[]⟩,[0,0,0],[⟨0,0,0,0,0,0,0,0,[]⟩,⟨0,0,0,0,0,0,0,0,[]⟩,⟨0,0,0,0,0,0,0,0,[]⟩],0,0,0,true,0⟩
theorem PN:uC fuel 0=some Ck:=by rw[nH];kernel_rfl
theorem Fq:DC fuel=some true:=by rw[nH];kernel_rfl
theorem QL:Good 1073741824 kr:=⟨zX.nf,zX.nm,zX.e0,zX.e1,zX.fs,zX.on,fun m hm=>by
 have:=zX.ms m hm
 unfold nA at*
 omega⟩
theorem Ob (A:Int) (h0:0≤A) (h1:A≤900):ij {Ck with aA:=⟨⟨List.replicate 19 de,[],A,false⟩,kr⟩}:=by
 refine⟨QL,⟨⟨fun x hx=>(by cases hx),List.Pairwise.nil⟩,fun w hw=>(by cases hw),Nat.zero_le _⟩,rfl,rfl,⟨Int.le_refl 0,by show(0:Int)≤9223372036854775807;omega⟩,fun _=>⟨fun x hx=> ?_,List.length_replicate ..,rfl,rfl,⟨h0,h1⟩,Pf⟩⟩
 rw[List.eq_of_mem_replicate hx];rfl
theorem LZ (s:aG) (c q:Int) (nm:List UInt8):(pP s c q nm).1.aS=s.aS:=by
 unfold pP iu ql
 repeat' split
 all_goals rfl
theorem KB (s:aG) (c q n:Int) (l:List aY):(jf s c q n l).1.aS=s.aS:=by
 unfold jf iu ql
 repeat' split
 all_goals rfl
theorem Mr (s:aG) (c q n:Int):(pT s c q n).1.aS=s.aS:=by
 unfold pT iu ql
 repeat' split
 all_goals rfl
open Go
theorem C6 {sv:aI} (hl:sv.Live=true) {a:bp} (ha:cL a=true):oN sv (eY a)=wj sv a:=by
 unfold oN
 rw[if_neg (by simp[hl]),Dn ha,if_neg (by simp)]
theorem MS {sv:aI} (hl:sv.Live=false) (b:List UInt8):oN sv b=(sv,[]):=by
 unfold oN;rw[if_pos hl]
def Change (s:aG) (a:bp) (r:aG×bA):Prop:=r=pP s a.bn a.Seq a.Name∨r=jf s a.bn a.Seq a.aX a.aQ∨r=pT s a.bn a.Seq a.aX
theorem Change.lM {s:aG} {a:bp} {r:aG×bA} (h:Change s a r) (hs:Good 1073741824 s) (ha:cL a=true):Good 1073741824 r.1:=by
 obtain⟨_,_,_,hsq,_⟩:=fv ha
 rcases h with h|h|h<;>rw[h]
 ·exact(CN hs _ _ (by omega) hsq.2 _).1
 ·exact(vv hs _ _ _ (by omega) hsq.2 _).1
 ·exact(CO hs _ _ _ (by omega) hsq.2).1
theorem Change.wu {s:aG} {a:bp} {r:aG×bA} (h:Change s a r):r.1.aS=s.aS:=by
 rcases h with h|h|h<;>rw[h]
 ·exact LZ _ _ _ _
 ·exact KB _ _ _ _ _
 ·exact Mr _ _ _ _
def Jk (sv:aI) (a:bp) (p:Gq):Prop:=
 (p.1.aA=sv.aA∧p.1.Live=sv.Live)∨ ∃r,Change sv.aA.S a r∧p.1.aA=(bZ sv.aA r.1).1∧p.1.Live=(bZ sv.aA r.1).2∧((bZ sv.aA r.1).2=false→p.2=[]∧p.1={sv with aA:=(bZ sv.aA r.1).1,Live:=false})
theorem r8 (sv:aI) (a:bp) (t:ck):Jk sv a (ie sv a t):=Or.inl ⟨(ga sv a t).2.2.2.1,(ga sv a t).2.2.2.2.2⟩
theorem r9 {sv:aI} (hl:sv.Live=true) {a:bp} {r:aG×bA} (h:Change sv.aA.S a r) (f:b9→b9):Jk sv a (nC sv a r f):=by
 refine Or.inr ⟨r,h,?_⟩
 unfold nC
 split
 ·rename_i hb
  obtain⟨_,_,_,h4,_,h6⟩:=ga {sv with aA:=(bZ sv.aA r.1).1,bd:=f sv.bd} a (Nk r.2)
  exact⟨h4,h6.trans (hl.trans hb.symm),fun e=>by rw[hb]at e;cases e⟩
 ·rename_i hb
  exact⟨rfl,by simpa using hb,fun _=>⟨rfl,rfl⟩⟩
theorem y8 {sv:aI} (hl:sv.Live=true) (a:bp):Jk sv a (fu sv a):=by
 unfold fu
 split
 ·exact r8 _ _ _
 split
 ·exact r9 hl (Or.inl rfl) _
 split
 ·unfold CD
  split
  ·exact r8 _ _ _
  split
  ·unfold Kg BU
   obtain⟨T,e,_⟩:=Bt {sv with bd:=(ju sv.bd sv.gQ (cF a)).1} (cF a).Client (Nq {sv with bd:=(ju sv.bd sv.gQ (cF a)).1} (cF a))
   rw[e]
   exact Or.inl ⟨rfl,rfl⟩
  split
  ·obtain⟨_,_,_,h4,_,h6⟩:=ga {sv with bd:=(ju sv.bd sv.gQ (cF a)).1} a (GL (ju sv.bd sv.gQ (cF a)).2.2.2)
   exact Or.inl ⟨h4,h6⟩
  ·exact Or.inl ⟨rfl,rfl⟩
 split
 ·unfold px
  split
  ·exact r8 _ _ _
  ·exact r9 hl (Or.inr (Or.inl rfl)) _
 split
 ·unfold HT
  split
  ·exact Or.inl ⟨(ga sv a _).2.2.2.1,(ga sv a _).2.2.2.2.2⟩
  split
  ·exact Or.inl ⟨(ga sv a _).2.2.2.1,(ga sv a _).2.2.2.2.2⟩
  ·exact r9 hl (Or.inr (Or.inl rfl)) _
 ·unfold HJ
  split
  ·exact r8 _ _ _
  ·exact r9 hl (Or.inr (Or.inr rfl)) _
theorem yn (sv:aI) (a:bp):((wj sv a).1=sv∧((wj sv a).2=[]∨(∃t,(wj sv a).2=[t]∧t.Kind≠1)∨(mz sv a).1=3))∨((mz sv a).1=4∧wj sv a=fu (yY sv a) a):=by
 unfold wj
 split
 ·exact Or.inl ⟨rfl,Or.inr (Or.inl ⟨_,rfl,by show(3:Int)≠1;decide⟩)⟩
 split
 ·rename_i h;exact Or.inl ⟨rfl,Or.inr (Or.inr h)⟩
 split
 ·rename_i h;exact Or.inr ⟨h,rfl⟩
 ·exact Or.inl ⟨rfl,Or.inl rfl⟩
theorem OP {sv:aI} {a:bp} (h:(mz sv a).1=4):a.aS=sv.aA.S.aS∧seenAt sv a.bn≤a.Seq:=by
 unfold mz at h
 split at h
 ·cases h
 rename_i h1
 split at h
 ·cases h
 rename_i h2
 exact⟨Classical.not_not.1 h1,by omega⟩
structure NQ (N:Int) (sv:aI):Prop where
 ok:ij sv
 wu:sv.aA.S.aS=0
 seen: ∀x∈sv.Seen,0≤x∧x≤N
theorem Ic {sv:aI} (S:ij sv) (hl:sv.Live=true) {a:bp} (ha:cL a=true) {p:Gq} (h:Jk sv a p):p.1.aA.S.aS=sv.aA.S.aS:=by
 rcases h with h|⟨r,hr,e,_⟩
 ·rw[h.1]
 ·rw[e,(oM (S.FO hl) S.lM (hr.lM S.lM ha)).2.1]
  cases (bZ sv.aA r.1).2
  ·rfl
  ·exact hr.wu
theorem NQ.comes {N:Int} (hN:0≤N) {sv:aI} (A:NQ N sv) {a:bp} (ha:HY sv a):NQ (N+2) (oN sv (eY a)).1:=by
 cases hl:sv.Live with
 |false=>rw[MS hl];exact⟨A.ok,A.wu,fun x hx=>by have:=A.seen x hx;omega⟩
 |true=>
  refine⟨Oc A.ok _,?_,?_⟩
  ·rw[C6 hl ha.may]
   rcases yn sv a with h|h
   ·rw[h.1];exact A.wu
   ·rw[h.2]
    exact(Ic (Ie A.ok a) hl ha.may (y8 (sv:=yY sv a) hl a)).trans A.wu
  ·rw[C6 hl ha.may]
   rcases yn sv a with h|h
   ·rw[h.1];exact fun x hx=>by have:=A.seen x hx;omega
   ·rw[h.2,(Bg (yY sv a) a).2.2]
    intro x hx
    rcases List.mem_or_eq_of_mem_set hx with hx|hx
    ·have:=A.seen x hx;omega
    ·have hs:=(fv ha.may).2.2.2.1
     have hf:=(fv ha.may).2.1
     have hlt:(a.bn-1).toNat<sv.Seen.length:=by rw[A.ok.seen];omega
     have:=A.seen _ (List.getElem_mem hlt)
     have hsee:seenAt sv a.bn=sv.Seen[(a.bn-1).toNat]:=by unfold seenAt;rw[List.getElem?_eq_getElem hlt];rfl
     have:=ha.seq
     omega
open Go
theorem Hz {s:aG} (hs:Good 1073741824 s):Good 1073741824 (qU s):=by
 refine⟨hs.nf,hs.nm,?_,?_,hs.fs,hs.on,hs.ms⟩
 ·show 0≤ew (ay (s.aS+1)) 1073741824
  have:=hs.e0
  have:=hs.e1
  rw[bh (by omega) (by omega)]
  unfold ew
  split<;>omega
 ·show ew (ay (s.aS+1)) 1073741824≤1073741824
  unfold ew
  split<;>omega
theorem Se:F7 60 100=some 74:=by rfl
def CP (st:bV) (now:Int):aI:=⟨st,⟨[],[]⟩,st.S.Marks.map (·.Seq),[⟨0,0,0,0,0,0,0,0,[]⟩,⟨0,0,0,0,0,0,0,0,[]⟩,⟨0,0,0,0,0,0,0,0,[]⟩],now,0,0,true,0⟩
theorem QN {st:bV} (h:st.S.Marks.length=3) (now:Int):qm fuel st now=some (CP st now):=by
 unfold qm qY wk
 simp only[aE,get_ite,aD,aC]
 obtain⟨x,e,hx⟩:=dI (step:=pH st.S.Marks (st.S.Marks.length:Int) st) (fun k v=> ∃i:Nat,v.1=(i:Int)∧i+k=st.S.Marks.length∧v.2.2=⟨st,⟨[],[]⟩,(st.S.Marks.take i).map (·.Seq),[],now,0,0,true,0⟩) (fun r=>r.2=⟨st,⟨[],[]⟩,st.S.Marks.map (·.Seq),[],now,0,0,true,0⟩) (fun k v hI=>by
  obtain⟨v1,o,v2⟩:=v
  obtain⟨i,hi,hk,hv⟩:=hI
  simp only at hi hv
  subst hi hv
  simp only[pH,ov,get_ite,aE,aD,aC]
  by_cases hlt:i<st.S.Marks.length
  ·rw[dh hlt,bP hlt,Int.toNat_natCast,List.getElem?_eq_getElem hlt,aw,bI (by omega)]
   rw[decide_eq_true (show((st.S.Marks.take i).map (·.Seq)).length+1≤dK by rw[cq];simp;omega)]
   refine⟨_,rfl,k-1,by omega,i+1,rfl,by omega,?_⟩
   simp only[List.take_succ_eq_append_getElem hlt,List.map_append,List.map_cons,List.map_nil]
  ·obtain rfl:i=st.S.Marks.length:=by omega
   rw[dv]
   refine⟨_,rfl,?_⟩
   simp only[List.take_length]
   rfl) st.S.Marks.length (0,_,⟨st,⟨[],[]⟩,[],[],now,0,0,true,0⟩) fuel ⟨0,rfl,by omega,rfl⟩ (cm (by omega))
 rw[e,aw,hx,h]
 rfl
theorem SL {d:aN} (hd:ud d) {s:aG} (hs:Good 1073741824 s) (hset:eZ 9 d.aU (fun i=>(jr s).getD i [])) {now:Int} (hn:0≤now∧now≤9223372036854775807):
  ∃st,sb fuel d now=some ({CP st now with l6:=fT now 74},true)∧st.S=qU s∧st.D.gR=0∧AR st.D st.S:=by
 obtain⟨d',e,hg,hc,_⟩:=Jn hd hs hset
 have hok:AR d' s:=⟨hg.ok.last,hg.len,hg.wait,hg.up,⟨by rw[hg.arm];decide,by rw[hg.arm];decide⟩,hc⟩
 obtain⟨c1,c2,c3,_,c5⟩:=oM (st:=⟨d',s⟩) hok hs (Hz hs)
 obtain⟨b1,b2⟩:=c5 hg.arm
 rw[b1]at c2
 refine⟨(bZ ⟨d',s⟩ (qU s)).1,?_,c2,b2,by rw[c2];exact c3 b1⟩
 unfold sb sP
 simp only[aE,get_ite,aD,e,aw,Bool.not_true,cond_false,c1,b1,Se]
 rw[QN (by rw[c2];exact(Hz hs).nm),aw]
theorem Zb {d:aN} {s:aG} (h:AR d s) (aH:List Int):ud ⟨eR d.aU d.bC aH,[],0,false⟩∧eZ 9 (eR d.aU d.bC aH) (fun i=>(jr s).getD i []):=by
 obtain⟨h1,h2,h3,h4,h5,h6⟩:=h
 rw[h3]
 exact⟨⟨⟨h1,by show d.aU.length≤1000;omega,fun p hp=>(by cases hp),Nat.zero_le _,Int.le_refl _,by show(0:Int)≤1000;decide⟩,h2,rfl,rfl,rfl⟩,h6.Ul⟩
open Go
structure Dh (s:aG) (a:bp) (t:aG):Prop where
 files: ∃i f,t.aP=s.aP.set i f
 marks: ∃m,m.Seq=a.Seq∧t.Marks=s.Marks.set (a.bn-1).toNat m
theorem Fg {s s':aG} {a:bp} (hM:s'.Marks=s.Marks) (hF: ∃i f,s'.aP=s.aP.set i f) (hl:s.Marks.length=3) (hc:1≤a.bn∧a.bn≤3) (hq: ∀y,s.Marks[(a.bn-1).toNat]? =some y→y.Seq<a.Seq) {m:bA} (hm:m.Seq=a.Seq):Dh s a (iu s' a.bn m).1:=by
 refine⟨hF,m,hm,?_⟩
 show GC s'.Marks a.bn m=_
 rw[hM]
 have hlt:(a.bn-1).toNat<s.Marks.length:=by omega
 unfold GC
 rw[List.getElem?_eq_getElem hlt]
 exact if_pos (by rw[hm];exact hq _ (List.getElem?_eq_getElem hlt))
theorem ET {α:Type} (l:List α) (x:α):l=l.set l.length x:=(List.set_eq_of_length_le (Nat.le_refl _)).symm
theorem Change.off {s:aG} {a:bp} {r:aG×bA} (h:Change s a r) (hs:Good 1073741824 s) (hc:1≤a.bn∧a.bn≤3) (hq: ∀y,s.Marks[(a.bn-1).toNat]? =some y→y.Seq<a.Seq):Dh s a r.1:=by
 have same: ∃i f,s.aP=s.aP.set i f:=⟨_,mu,ET s.aP mu⟩
 have off: ∀(n:Int) (f:bL) (m:bA),m.Seq=a.Seq→Dh s a (iu (ql s n f) a.bn m).1:=fun n f m hm=>Fg (s:=s) (s':=ql s n f) rfl ⟨_,_,rfl⟩ hs.nm hc hq hm
 have off0: ∀(m:bA),m.Seq=a.Seq→Dh s a (iu s a.bn m).1:=fun m hm=>Fg rfl same hs.nm hc hq hm
 rcases h with h|h|h<;>rw[h]
 ·unfold pP
  split
  ·exact off0 _ rfl
  split
  ·exact off0 _ rfl
  split
  ·exact off _ _ _ rfl
  ·exact off0 _ rfl
 ·unfold jf
  split
  ·exact off0 _ rfl
  split
  ·exact off0 _ rfl
  ·exact off _ _ _ rfl
 ·unfold pT
  split
  ·exact off0 _ rfl
  ·exact off _ _ _ rfl
structure Kept (N:Int) (s:aI) (last:aG):Prop where
 asked:NQ N s
 last:last=s.aA.S
 marks:s.Live=true→ ∀c,1≤c∧c≤3→(jD s c).Seq≤seenAt s c
 dead:s.Live=false→Cd s.aA.D∧s.aA.D.aU.length=19∧ ∃a t,Dh s.aA.S a t∧Good 1073741824 t∧(1≤a.bn∧a.bn≤3)∧(∀y,s.aA.S.Marks[(a.bn-1).toNat]? =some y→y.Seq<a.Seq)∧
  ∀aH,eZ 9 (eR s.aA.D.aU s.aA.D.bC aH) (fun i=>(jr s.aA.S).getD i [])∨eZ 9 (eR s.aA.D.aU s.aA.D.bC aH) (fun i=>(jr t).getD i [])
theorem LM {sv:aI} {L:List Int} {c d:Int} {q:Int} (e:sv.Seen=L.set (d-1).toNat q) (hL:L.length=3) (hc:1≤c∧c≤3) (hd:1≤d∧d≤3):seenAt sv c=if c=d then q else(L[(c-1).toNat]?).getD 0:=by
 unfold seenAt
 rw[e]
 split
 ·rename_i h;subst h
  rw[List.getElem?_set_self (by omega)];rfl
 ·rw[List.getElem?_set_ne (by omega)]
theorem Mc {sv:aI} {M:List bA} {c d:Int} {m:bA} (e:sv.aA.S.Marks=M.set (d-1).toNat m) (hM:M.length=3) (hc:1≤c∧c≤3) (hd:1≤d∧d≤3):jD sv c=if c=d then m else(M[(c-1).toNat]?).getD ⟨0,0,0,0⟩:=by
 unfold jD
 rw[e]
 split
 ·rename_i h;subst h
  rw[List.getElem?_set_self (by omega)];rfl
 ·rw[List.getElem?_set_ne (by omega)]
theorem Mh {sv:aI} {a:bp} (h:(mz sv a).1=4):(jD sv a.bn).Seq≠a.Seq:=by
 unfold mz at h
 split at h
 ·cases h
 split at h
 ·cases h
 split at h
 ·cases h
 split at h
 ·cases h
 ·rename_i h4;exact h4
theorem ON {N:Int} (hN:0≤N) {s:aI} {last:aG} (K:Kept N s last) (hl:s.Live=true) {a:bp} (ha:HY s a):
  Kept (N+2) (oN s (eY a)).1 (bif (oN s (eY a)).1.Live then(oN s (eY a)).1.aA.S else last):=by
 have A':=K.asked.comes hN ha
 have hfr:=(fv ha.may).2.1
 have hm:=K.marks hl
 have S:=K.asked.ok
 rw[C6 hl ha.may]at A'⊢
 rcases yn s a with h|⟨hj,h⟩
 ·rw[h.1]at A'⊢
  rw[hl]
  exact⟨A',rfl,K.marks,fun e=>by rw[hl]at e;cases e⟩
 ·obtain⟨hep,hsq⟩:=OP hj
  have hmk:=Mh hj
  have hmf:=hm a.bn hfr
  have hst:=y8 (sv:=yY s a) hl a
  have hsee:=(Bg (yY s a) a).2.2
  rw[h]at A'⊢
  have hsa: ∀c,1≤c∧c≤3→seenAt (fu (yY s a) a).1 c=if c=a.bn then a.Seq else seenAt s c:=fun c hc=>LM hsee S.seen hc hfr
  have hlt: ∀y,s.aA.S.Marks[(a.bn-1).toNat]? =some y→y.Seq<a.Seq:=fun y hy=>by
   have:jD s a.bn=y:=by unfold jD;rw[hy];rfl
   rw[this]at hmk hmf
   omega
  rcases hst with k|⟨r,hr,k1,k2,k3⟩
  ·have hlv:(fu (yY s a) a).1.Live=true:=k.2.trans hl
   rw[hlv]
   refine⟨A',rfl,fun _ c hc=> ?_,fun e=>by rw[hlv]at e;cases e⟩
   rw[hsa c hc]
   have e:jD (fu (yY s a) a).1 c=jD s c:=by unfold jD;rw[k.1];rfl
   rw[e]
   split
   ·rename_i hcf;subst hcf;omega
   ·exact hm c hc
  ·have hg:=hr.lM S.lM ha.may
   obtain⟨c1,c2,c3,c4,_⟩:=oM (S.FO hl) S.lM hg
   have hoff:Dh s.aA.S a r.1:=hr.off S.lM hfr hlt
   cases hb:(bZ s.aA r.1).2 with
   |true=>
    have hlv:(fu (yY s a) a).1.Live=true:=k2.trans hb
    rw[hlv]
    refine⟨A',rfl,fun _ c hc=> ?_,fun e=>by rw[hlv]at e;cases e⟩
    rw[hsa c hc]
    obtain⟨m,hm1,hm2⟩:=hoff.marks
    have hM:(fu (yY s a) a).1.aA.S.Marks=s.aA.S.Marks.set (a.bn-1).toNat m:=by
     rw[k1]
     show(bZ s.aA r.1).1.S.Marks=_
     rw[c2,hb];exact hm2
    rw[Mc hM S.lM.nm hc hfr]
    split
    ·omega
    ·exact hm c hc
   |false=>
    have hlv:(fu (yY s a) a).1.Live=false:=k2.trans hb
    rw[hlv]
    have hS:(fu (yY s a) a).1.aA.S=s.aA.S:=by
     rw[k1]
     show(bZ s.aA r.1).1.S=_
     rw[c2,hb];rfl
    have hD:(fu (yY s a) a).1.aA.D=(bZ s.aA r.1).1.D:=by rw[k1];rfl
    obtain⟨d1,d2,d3⟩:=c4 hb
    refine⟨A',K.last.trans hS.symm,fun e=>(by rw[hlv]at e;cases e),fun _=> ?_⟩
    rw[hS,hD]
    exact⟨d1,d2,a,r.1,hoff,hg,hfr,hlt,d3⟩
theorem K4 {d:aN} (hd:Cd d) (hl:d.aU.length=19) (aH:List Int):ud ⟨eR d.aU d.bC aH,[],0,false⟩:=by
 have h:=C5 d.bC d.aU aH
 exact⟨⟨F1 d.bC d.aU aH hd.last hd.wait,by show(eR d.aU d.bC aH).length≤1000;omega,fun p hp=>(by cases hp),Nat.zero_le _,Int.le_refl _,by show(0:Int)≤1000;decide⟩,by show(eR d.aU d.bC aH).length=19;omega,rfl,rfl,rfl⟩
theorem F5 {α:Type} (L:List α) (k:Nat) (m:α) (hL:L.length<1000) (er:α→α→Bool) (he: ∀x y,er x y=true↔x=y) (step:Int×Int→Option ((Int×Int) ⊕ Int))
  (hs: ∀v,step v=D.Tree.get (.ite (decide (v.2<(L.length:Int))) (.ite (cN v.2 (L.set k m).length) (.opt ((L.set k m)[v.2.toNat]?) fun y_1=> .ite (cN v.2 L.length) (.opt (L[v.2.toNat]?) fun y_2=> .ite (!(er y_1 y_2)) (.ret (.inl ((ay (v.1+1)),(ay (v.2+1))))) (.ret (.inl (v.1,(ay (v.2+1)))))) .fail) .fail) (.ret (.inr v.1)))):
  ∃n:Int,iter step fuel (0,0)=some n∧(0≤n∧n≤1)∧((k<L.length∧L[k]? ≠some m)→n=1)∧(k≥L.length→n=0):=by
 obtain⟨x,e,hx⟩:=dI (step:=step) (fun j v=> ∃i:Nat,v.2=(i:Int)∧i+j=L.length∧(0≤v.1∧v.1≤1)∧(i≤k→v.1=0)∧((k<i∧L[k]? ≠some m)→v.1=1)) (fun n=>(0≤n∧n≤1)∧((k<L.length∧L[k]? ≠some m)→n=1)∧(k≥L.length→n=0)) (fun j v hI=>by
  obtain⟨v1,v2⟩:=v
  obtain⟨i,hi,hj,hb,h0,h1⟩:=hI
  simp only at hi hb h0 h1
  subst hi
  rw[hs]
  simp only[get_ite,aE,aD,aC]
  by_cases hlt:i<L.length
  ·have hlt':i<(L.set k m).length:=by rw[List.length_set];exact hlt
   rw[dh hlt,bP hlt',bP hlt,Int.toNat_natCast,List.getElem?_eq_getElem hlt',List.getElem?_eq_getElem hlt]
   simp only[aw,cond_true]
   rw[bI (i:=i) (by omega)]
   by_cases hk:k=i
   ·subst hk
    have:=h0 (Nat.le_refl _)
    subst this
    rw[List.getElem_set_self]
    by_cases hm:m=L[k]
    ·rw[(he _ _).2 hm]
     exact⟨_,rfl,j-1,by omega,k+1,rfl,by omega,⟨Int.le_refl _,by show(0:Int)≤1;omega⟩,fun h=>by omega,fun h=>absurd (by rw[List.getElem?_eq_getElem hlt,hm]) h.2⟩
    ·have:er m L[k]=false:=by
      cases hh:er m L[k]with
      |false=>rfl
      |true=>exact absurd ((he _ _).1 hh) hm
     rw[this]
     exact⟨_,rfl,j-1,by omega,k+1,rfl,by omega,⟨by show(0:Int)≤1;omega,Int.le_refl _⟩,fun h=>by omega,fun _=>rfl⟩
   ·rw[List.getElem_set_ne hk,(he _ _).2 rfl]
    exact⟨_,rfl,j-1,by omega,i+1,rfl,by omega,hb,fun h=>h0 (by omega),fun h=>h1 ⟨by omega,h.2⟩⟩
  ·obtain rfl:i=L.length:=by omega
   rw[dv]
   exact⟨_,rfl,hb,h1,h0⟩) L.length (0,0) fuel ⟨0,rfl,by omega,⟨Int.le_refl _,by show(0:Int)≤1;omega⟩,fun _=>rfl,fun h=>absurd h.1 (by omega)⟩ (cm (by omega))
 exact⟨x,e,hx⟩
theorem xI (l:List (List UInt8)) (arm:UInt8) (aH:List Int) (hl:l.length≤1048576∧ ∀x∈l,x.length=4) (hk:aH.length≤1048576):sr fuel l arm aH=some true:=by
 unfold sr lG
 simp only[aE,get_ite,aD,aC,aF,Fq,PN,aw,Bool.not_true,cond_false]
 by_cases hb:(l.length:Int)>30
 ·rw[decide_eq_true hb];rfl
 rw[decide_eq_false hb,cond_false]
 by_cases hb2:(aH.length:Int)>20
 ·rw[decide_eq_true hb2];rfl
 rw[decide_eq_false hb2,cond_false]
 unfold pq
 have put_len: ∀a,(eY a).length≤dK:=fun a=>by have:=E1 a;rw[cq];omega
 have ha0:0≤i8 arm:=Int.natCast_nonneg _
 have ha1:i8 arm<256:=by have:=arm.toNat_lt;unfold i8;omega
 have harm:ay (1+ay (i8 arm))=1+i8 arm:=by rw[bh (show-9223372036854775808≤i8 arm by omega) (by omega),bh (by omega) (by omega)]
 rw[harm]
 obtain⟨x,e,M,K⟩:=dI (step:=kv fuel l aH) (fun k v=> ∃i:Nat,v.1=(i:Int)∧i+k=l.length∧Kept (2*(i:Int)) v.2.1 v.2.2) (fun x=> ∃M,Kept M x.1 x.2) (fun k v hI=>by
  obtain⟨v1,s,last⟩:=v
  obtain⟨i,hi,hk,K⟩:=hI
  simp only at hi K
  subst hi
  simp only[kv,jF,get_ite,aE,aD,aC]
  by_cases hlt:i<l.length
  ·rw[dh hlt,cond_true]
   cases hlv:s.Live with
   |false=>exact⟨_,rfl,_,K⟩
   |true=>
    rw[cond_true,bP hlt,Int.toNat_natCast,List.getElem?_eq_getElem hlt,aw]
    obtain⟨b,eb,a,rfl,ha⟩:=SS K.asked.ok (by rw[K.asked.wu];decide) (fun x hx=>by have:=K.asked.seen x hx;omega) (hl.2 _ (List.getElem_mem hlt))
    simp only[eb,aw,NY K.asked.ok (eY a) (put_len a),cond_true]
    have K':=ON (by omega) K hlv ha
    have e2:(2*(i:Int))+2=2*((i+1:Nat):Int):=by omega
    rw[e2]at K'
    rw[bI (by omega)]
    cases hx:(oN s (eY a)).1.Live with
    |true=>rw[hx]at K';exact⟨_,rfl,k-1,by omega,i+1,rfl,by omega,K'⟩
    |false=>rw[hx]at K';exact⟨_,rfl,k-1,by omega,i+1,rfl,by omega,K'⟩
  ·obtain rfl:i=l.length:=by omega
   rw[dv]
   exact⟨_,rfl,_,K⟩) l.length (0,{Ck with aA:=⟨{Ck.aA.D with gR:=1+i8 arm},Ck.aA.S⟩},Ck.aA.S) fuel ⟨0,rfl,by omega,⟨⟨Ob (1+i8 arm) (by omega) (by omega),rfl,fun x hx=>by
    have:x∈[(0:Int),0,0]:=hx
    simp only[List.mem_cons,List.not_mem_nil,or_false,or_self]at this
    rw[show(2*((0:Nat):Int))=0 from rfl]
    omega⟩,rfl,fun _ c hc=>by
    have:c=1∨c=2∨c=3:=by omega
    rcases this with rfl|rfl|rfl<;>exact Int.le_refl _,fun h=>by cases h⟩⟩ (cm (by omega))
 rw[e,aw]
 obtain⟨s,last⟩:=x
 simp only at K
 have S:=K.asked.ok
 have hlast:=K.last
 subst hlast
 have S0:=S.lM
 have hup: ∃u,Cd s.aA.D∧ud ⟨eR s.aA.D.aU s.aA.D.bC aH,[],0,false⟩∧Good 1073741824 u∧eZ 9 (eR s.aA.D.aU s.aA.D.bC aH) (fun i=>(jr u).getD i [])∧
   ((u=s.aA.S)∨(s.Live=false∧(∃i f,u.aP=s.aA.S.aP.set i f)∧ ∃i m,u.Marks=s.aA.S.Marks.set i m∧i<3∧s.aA.S.Marks[i]? ≠some m)):=by
  cases hlv:s.Live with
  |true=>
   have hd:=S.FO hlv
   obtain⟨g1,g2⟩:=Zb hd aH
   refine⟨s.aA.S,⟨hd.1,by rw[hd.2.1];decide,fun p hp=> ?_,?_,hd.2.2.2.2.1.1,by have:=hd.2.2.2.2.1.2;omega⟩,g1,S0,g2,Or.inl rfl⟩
   ·rw[hd.2.2.1]at hp;cases hp
   ·rw[hd.2.2.1];decide
  |false=>
   obtain⟨d1,d2,a,t,ho,hg,hf,hq,hset⟩:=K.dead hlv
   have g0:ud ⟨eR s.aA.D.aU s.aA.D.bC aH,[],0,false⟩:=K4 d1 d2 aH
   rcases hset aH with h|h
   ·exact⟨_,d1,g0,S0,h,Or.inl rfl⟩
   ·obtain⟨m,hm1,hm2⟩:=ho.marks
    refine⟨t,d1,g0,hg,h,Or.inr ⟨rfl,ho.files,_,m,hm2,by omega,fun e=> ?_⟩⟩
    have:=hq m e
    omega
 obtain⟨u,hD,hG,hu,hset,hd⟩:=hup
 obtain⟨st,eb,hst,_,_⟩:=SL hG hu hset S.now
 rw[RA _ hD aH]
 simp only[aw]
 rw[eb]
 have hF:st.S.aP=u.aP:=by rw[hst];rfl
 have hM:st.S.Marks=u.Marks:=by rw[hst];rfl
 simp only[aw,Bool.not_true,cond_false]
 show(bif ((st.S.aP.length:Int) != (s.aA.S.aP.length:Int))then some false else _)=_
 rw[show((st.S.aP.length:Int) != (s.aA.S.aP.length:Int))=false by rw[hF,hu.nf,S0.nf];rfl,cond_false]
 show(bif ((st.S.Marks.length:Int) != (s.aA.S.Marks.length:Int))then some false else _)=_
 rw[show((st.S.Marks.length:Int) != (s.aA.S.Marks.length:Int))=false by rw[hM,hu.nm,S0.nm];rfl,cond_false]
 have hloops: ∃n1 n2:Int,ky fuel s s.aA.S {CP st s.gQ with l6:=fT s.gQ 74} 0 0=some n1∧kx fuel n1 s s.aA.S {CP st s.gQ with l6:=fT s.gQ 74} 0 0=some n2∧n1≤1∧n2≤1∧0≤n1∧0≤n2∧((n1=0∧n2=0)∨(s.Live=false∧n1=1)):=by
  have c1: ∀(k:Nat) (m:bA),st.S.Marks=s.aA.S.Marks.set k m→ ∃n:Int,ky fuel s s.aA.S {CP st s.gQ with l6:=fT s.gQ 74} 0 0=some n∧(0≤n∧n≤1)∧((k<s.aA.S.Marks.length∧s.aA.S.Marks[k]? ≠some m)→n=1)∧(k≥s.aA.S.Marks.length→n=0):=fun k m h=>
   F5 s.aA.S.Marks k m (by rw[S0.nm];decide) bA.er Qs _ (fun v=>by rw[←h];rfl)
  have c2: ∀(n1:Int) (k:Nat) (f:bL),st.S.aP=s.aA.S.aP.set k f→ ∃n:Int,kx fuel n1 s s.aA.S {CP st s.gQ with l6:=fT s.gQ 74} 0 0=some n∧(0≤n∧n≤1)∧((k<s.aA.S.aP.length∧s.aA.S.aP[k]? ≠some f)→n=1)∧(k≥s.aA.S.aP.length→n=0):=fun n1 k f h=>
   F5 s.aA.S.aP k f (by rw[S0.nf];decide) bL.er KH _ (fun v=>by rw[←h];rfl)
  rcases hd with rfl|⟨hlv,⟨i,f,hf⟩,j,m,hm,hj,hne⟩
  ·obtain⟨n1,e1,b1,_,z1⟩:=c1 _ ⟨0,0,0,0⟩ (hM.trans (ET s.aA.S.Marks ⟨0,0,0,0⟩))
   obtain⟨n2,e2,b2,_,z2⟩:=c2 n1 _ mu (hF.trans (ET s.aA.S.aP mu))
   exact⟨n1,n2,e1,e2,b1.2,b2.2,b1.1,b2.1,Or.inl ⟨z1 (Nat.le_refl _),z2 (Nat.le_refl _)⟩⟩
  ·obtain⟨n1,e1,b1,o1,_⟩:=c1 j m (hM.trans hm)
   obtain⟨n2,e2,b2,_,_⟩:=c2 n1 i f (hF.trans hf)
   exact⟨n1,n2,e1,e2,b1.2,b2.2,b1.1,b2.1,Or.inr ⟨hlv,o1 ⟨by rw[S0.nm];exact hj,hne⟩⟩⟩
 obtain⟨n1,n2,e1,e2,b1,b2,p1,p2,hc⟩:=hloops
 rw[e1,aw,e2,aw,decide_eq_true b1,decide_eq_true b2]
 rcases hc with⟨rfl,rfl⟩|⟨hlv,rfl⟩
 ·cases s.Live<;>rfl
 ·rw[hlv];rfl
end Go.Proofs.YtlejgahbbfeagaaGreatDoor.N

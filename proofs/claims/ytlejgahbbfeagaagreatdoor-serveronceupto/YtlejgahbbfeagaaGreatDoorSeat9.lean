/- Plain words for this seat (43). Plain words for this seat (44). Plain words for this seat (45). Plain words for this seat (46). Plain words for this seat (47). Plain words for this seat (48). Plain words for this seat (49). Plain words for this seat (50). ServerOnce is true. -/
import Derived.Test.YtlejgahbbfeagaaGreatDoorSeat8
import Derived.KernelRfl
set_option linter.unusedVariables false
set_option linter.unusedSimpArgs false
namespace Go.Proofs.YtlejgahbbfeagaaGreatDoor.N
open Go
def KD (l:List bC) (c:Int) (m:bC):List bC:=match l[(c-1).toNat]? with
 |some y=>if y.Seq<m.Seq then l.set (c-1).toNat m else l
 |none=>l
def kW (s:aI) (c:Int) (m:bC):aI×bC:=({s with Marks:=KD s.Marks c m},m)
def nameAt (l:List bL) (s:List UInt8):Option Nat:=l.findIdx? fun f=>f.Name==s
def s5 (s:aI) (n:Int):bL:=(s.aQ[(n-1).toNat]?).getD rP
def vf (s:aI) (n:Int) (f:bL):aI:={s with aQ:=s.aQ.set (n-1).toNat f}
def Ka (s:aI) (n:Int):Bool:=decide (1≤n∧n≤6)&& !decide ((s5 s n).Name=[])
def rN (s:aI) (c q:Int) (name:List UInt8):aI×bC:=
 if gk name=false then kW s c ⟨q,1,0,0⟩else
 match nameAt s.aQ name with
 |some i=>kW s c ⟨q,0,(i:Int)+1,(s5 s ((i:Int)+1)).qo⟩
 |none=>match nameAt s.aQ []with
  |some i=>kW (vf s ((i:Int)+1) ⟨name,1,[]⟩) c ⟨q,0,(i:Int)+1,1⟩
  |none=>kW s c ⟨q,3,0,0⟩
def Mt (f:bL) (l:List aX):bL:=⟨f.Name,jE (ay (f.qo+1)) 1073741824,Qb f.Body l⟩
def j0 (s:aI) (c q n:Int) (l:List aX):aI×bC:=
 if Ka s n=false then kW s c ⟨q,2,0,0⟩else
 if l=[]∨5<l.length∨l.all bU=false then kW s c ⟨q,1,0,0⟩else
 kW (vf s n (Mt (s5 s n) l)) c ⟨q,0,n,(Mt (s5 s n) l).qo⟩
def sb (s:aI) (c q n:Int):aI×bC:=
 if Ka s n=false then kW s c ⟨q,2,0,0⟩else kW (vf s n rP) c ⟨q,0,n,0⟩
theorem jj {s:aI} {n:Int} (h:s.aQ.length=6) (h1:1≤n) (h6:n≤6):s.aQ[(n-1).toNat]? =some (s5 s n):=by
 unfold s5
 rw[List.getElem?_eq_getElem (show(n-1).toNat<s.aQ.length by omega)];rfl
theorem Dp {s:aI} {n:Int} (h:s.aQ.length=6) (h1:1≤n) (h6:n≤6):s5 s n∈s.aQ:=List.mem_of_getElem? (jj h h1 h6)
theorem QU (l:List bC) (c:Int) (m:bC):(KD l c m).length=l.length:=by
 unfold KD
 split
 ·split<;>simp
 ·rfl
theorem QT {l:List bC} {c:Int} {m x:bC} (h:x∈KD l c m):x=m∨x∈l:=by
 unfold KD at h
 split at h
 ·split at h
  ·rcases List.mem_or_eq_of_mem_set h with h|h
   ·exact Or.inr h
   ·exact Or.inl h
  ·exact Or.inr h
 ·exact Or.inr h
theorem gU {B:Int} {s:aI} (hs:Good B s) (c:Int) {m:bC} (hm:oP B m):Good B (kW s c m).1:=
 ⟨hs.nf,by show(KD s.Marks c m).length=3;rw[QU];exact hs.nm,hs.e0,hs.e1,hs.fs,hs.on,fun x hx=>by rcases QT hx with e|e;rw[e];exact hm;exact hs.ms x e⟩
theorem nL {l:List bC} (hl:l.length=3) (c:Int) (h1:1≤c) (h3:c≤3) (m:bC):pD l c m=some (KD l c m):=by
 unfold pD AE vB qL KD
 simp only[aE,get_ite,aD,aC,aL,aK]
 rw[decide_eq_true (show c≥1 from h1),decide_eq_true (show c≤(l.length:Int)by omega),bq (by omega) (by omega),ig (by omega) (by omega),List.getElem?_eq_getElem (show(c-1).toNat<l.length by omega)]
 simp only[cond_true,aw]
 by_cases hq:l[(c-1).toNat].Seq<m.Seq
 ·rw[decide_eq_true (show m.Seq>l[(c-1).toNat].Seq from hq),if_pos hq];rfl
 ·rw[decide_eq_false (show ¬m.Seq>l[(c-1).toNat].Seq from hq),if_neg hq];rfl
theorem HZ (l:List bL) (s:List UInt8) (h:l.length<1000000):wv fuel l s=some (match nameAt l s with|some i=>((i:Int)+1,true)|none=>(0,false)):=by
 unfold wv wu mR gw ke nameAt
 simp only[aE,aD,aF]
 rw[oW l (fun x=>l5 x s) (kd l (l.length:Int) s) (fun i=>rfl) h,aw]
 have:(fun f:bL=>f.Name==s)=fun x=>l5 x s:=rfl
 rw[this]
 cases hf:l.findIdx? (fun x=>l5 x s)with
 |none=>rfl
 |some i=>
  have:=(fi hf).1
  simp only[bB,aw]
  rw[bq (by omega) (by omega),decide_eq_true (show(i:Int)≥0 by omega)]
theorem RR (l:List bL) (s:List UInt8) (h:l.length<1000000) (hs:gk s=true) (hn:s.length<4294967296):Gt fuel l s=some (match nameAt l s with|some i=>((i:Int)+1,true)|none=>(0,false)):=by
 unfold Gt A7
 simp only[aE,get_ite,aD,wx s hn,hs,aw,HZ l s h]
 cases nameAt l s<;>rfl
theorem RQ (l:List bL) (h:l.length<1000000):Gs fuel l=some (match nameAt l []with|some i=>((i:Int)+1,true)|none=>(0,false)):=by
 unfold Gs A4
 simp only[aE,aD,HZ l [] h,aw]
theorem TP {B:Int} {s:aI} (hs:Good B s) (c q:Int) (h1:1≤c) (h3:c≤3) (name:List UInt8) (hn:name.length<4294967296):Af fuel s c q name=some (rN s c q name):=by
 have hl:=hs.nf
 unfold Af uW Fl uV zE pU rN
 simp only[aE,get_ite,aD,aC,aF,wx name hn,aw]
 cases hm:gk name with
 |false=>
  simp only[Bool.not_false,cond_true,aw,fu]
  rw[nL hs.nm c h1 h3];rfl
 |true=>
  simp only[Bool.not_true,cond_false]
  rw[RR s.aQ name (by omega) hm hn,if_neg (by simp),aw]
  cases hf:nameAt s.aQ name with
  |some i=>
   have hi:=(fi hf).1
   have hfn:=jj (n:=(i:Int)+1) hl (by omega) (by omega)
   simp only[Bool.not_true,cond_false]
   rw[bq (show-9223372036854775808≤(i:Int)+1-1 by omega) (by omega),ig (by omega) (by omega),hfn]
   simp only[cond_true,aw,bB]
   rw[nL hs.nm c h1 h3];rfl
  |none=>
   simp only[Bool.not_false,cond_true]
   rw[RQ s.aQ (by omega),aw]
   cases hr:nameAt s.aQ []with
   |none=>
    simp only[Bool.not_false,cond_true,aw,fu]
    rw[nL hs.nm c h1 h3];rfl
   |some i=>
    have hi:=(fi hr).1
    have hfn:=jj (n:=(i:Int)+1) hl (by omega) (by omega)
    simp only[Bool.not_true,cond_false]
    rw[bq (show-9223372036854775808≤(i:Int)+1-1 by omega) (by omega),ig (by omega) (by omega),hfn]
    simp only[cond_true,aw,List.length_set]
    rw[ig (by omega) (by omega),List.getElem?_set,if_pos rfl,if_pos (by omega)]
    simp only[cond_true,aw,bB]
    rw[nL hs.nm c h1 h3];rfl
theorem Kh {s:aI} (hl:s.aQ.length=6) (n:Int):sI n s=some (if Ka s n=true then .inl (n-1).toNat else .inr ()):=by
 unfold sI tp Ka
 simp only[aE,get_ite,aD,aC]
 by_cases c1:n<1
 ·rw[decide_eq_true c1,decide_eq_false (show ¬(1≤n∧n≤6)by omega)];rfl
 by_cases c2:n>(s.aQ.length:Int)
 ·rw[decide_eq_false c1,decide_eq_true c2,decide_eq_false (show ¬(1≤n∧n≤6)by omega)];rfl
 have hfn:=jj (n:=n) hl (by omega) (by omega)
 rw[decide_eq_false c1,decide_eq_false c2,decide_eq_true (show 1≤n∧n≤6 by omega),bq (by omega) (by omega),ig (by omega) (by omega),hfn]
 simp only[cond_false,cond_true,aw]
 by_cases hn:(s5 s n).Name=[]
 ·rw[et hn,decide_eq_true hn];rfl
 ·rw[di hn,decide_eq_false hn];rfl
theorem RV (l:List aX) (h:l.length<1000000):fK fuel l=some (!(l.all bU)):=by
 unfold fK fk lQ fT jM
 simp only[aE,aD,aF]
 rw[oW l fp (jL l (l.length:Int)) (fun i=>rfl) h,aw]
 cases hf:l.findIdx? fp with
 |none=>
  have:=k5 hf
  have:l.all bU=true:=List.all_eq_true.2 fun x hx=>by
   have:=this x hx
   unfold fp at this
   simpa using this
  rw[this];rfl
 |some i=>
  obtain⟨hi,hp,_⟩:=fi hf
  have:l.all bU=false:=by
   rw[←Bool.not_eq_true]
   intro hx
   have:=List.all_eq_true.1 hx l[i] (List.getElem_mem hi)
   unfold fp at hp
   rw[this]at hp;cases hp
  rw[this]
  simp only[bB,aw]
  rw[decide_eq_true (show(i:Int)≥0 by omega)];rfl
theorem Sl {B:Int} {s:aI} (hs:Good B s) (c q n:Int) (h1:1≤c) (h3:c≤3) (l:List aX) (hlen:l.length<1000):xk fuel s c q n l=some (j0 s c q n l):=by
 have hl:=hs.nf
 unfold xk tt BC rm xj oB j0
 simp only[aE,get_ite,aD,aC,aF,Kh hl,aw]
 cases hi:Ka s n with
 |false=>
  rw[if_neg (by simp)]
  simp only[fu,aw]
  rw[nL hs.nm c h1 h3];rfl
 |true=>
  have hin:1≤n∧n≤6:=by
   unfold Ka at hi
   simp only[Bool.and_eq_true,decide_eq_true_eq]at hi
   exact hi.1
  have hfn:=jj (n:=n) hl hin.1 hin.2
  have hlt:(n-1).toNat<s.aQ.length:=oa hfn
  rw[if_pos rfl,if_neg (by simp)]
  simp only[bB]
  by_cases h0:l=[]
  ·rw[if_pos (Or.inl h0),h0]
   simp only[List.length_nil,show(((0:Nat):Int)==0)=true from rfl,cond_true,aw,fu]
   rw[nL hs.nm c h1 h3];rfl
  have hne:((l.length:Int)==0)=false:=by
   cases l with
   |nil=>exact absurd rfl h0
   |cons a r=>simp<;>omega
  rw[hne,cond_false]
  by_cases h5:5<l.length
  ·rw[if_pos (Or.inr (Or.inl h5)),decide_eq_true (show(l.length:Int)>5 by omega)]
   simp only[cond_true,aw,fu]
   rw[nL hs.nm c h1 h3];rfl
  rw[decide_eq_false (show ¬(l.length:Int)>5 by omega),RV l (by omega)]
  simp only[cond_false,aw]
  cases ha:l.all bU with
  |false=>
   rw[if_pos (Or.inr (Or.inr rfl))]
   simp only[Bool.not_false,cond_true,aw,fu]
   rw[nL hs.nm c h1 h3];rfl
  |true=>
   rw[if_neg (by simp[h0,h5])]
   simp only[Bool.not_true,cond_false]
   rw[hfn,aw,Lt l _ (by omega) (hs.fs _ (Dp hl hin.1 hin.2)).body,aw,aw,aw]
   simp only[List.getElem?_set,List.length_set,if_pos hlt,if_true,aw,bB,List.set_set]
   rw[nL hs.nm c h1 h3];rfl
theorem TS {B:Int} {s:aI} (hs:Good B s) (c q n:Int) (h1:1≤c) (h3:c≤3):Ag s c q n=some (sb s c q n):=by
 have hl:=hs.nf
 unfold Ag uY BB rl zF pV sb
 simp only[aE,get_ite,aD,aC,aF,Kh hl,aw]
 cases hi:Ka s n with
 |false=>
  rw[if_neg (by simp)]
  simp only[fu,aw]
  rw[nL hs.nm c h1 h3];rfl
 |true=>
  have hin:1≤n∧n≤6:=by
   unfold Ka at hi
   simp only[Bool.and_eq_true,decide_eq_true_eq]at hi
   exact hi.1
  have hfn:=jj (n:=n) hl hin.1 hin.2
  rw[if_pos rfl,if_neg (by simp)]
  simp only[bB,hfn,aw]
  rw[nL hs.nm c h1 h3];rfl
theorem F8 {B:Int} {s:aI} (hs:Good B s) (n:Int) {f:bL} (hf:jH f) (hf2:f.Name=[]∨ ∀(j:Nat) g,s.aQ[j]? =some g→g.Name=f.Name→j=(n-1).toNat):Good B (vf s n f):=
 ⟨by show(s.aQ.set _ f).length=6;rw[List.length_set];exact hs.nf,hs.nm,hs.e0,hs.e1,fun x hx=>by rcases List.mem_or_eq_of_mem_set hx with e|e;exact hs.fs x e;rw[e];exact hf,Q5 hs.on _ f hf2,hs.ms⟩
theorem Rs {s:aI} {n:Int} (h:Ka s n=true):(1≤n∧n≤6)∧(s5 s n).Name≠[]:=by
 unfold Ka at h
 simp only[Bool.and_eq_true,decide_eq_true_eq,Bool.not_eq_true',decide_eq_false_iff_not]at h
 exact h
theorem Di {B:Int} {s:aI} (hs:Good B s) (c q:Int) (hq:0≤q) (hq2:q≤B) (name:List UInt8):Good B (rN s c q name).1∧oP B (rN s c q name).2:=by
 unfold rN
 split
 ·exact⟨gU hs c (jX hq hq2 (by decide) (by decide) (by decide) (by decide) (by decide) (by decide)),jX hq hq2 (by decide) (by decide) (by decide) (by decide) (by decide) (by decide)⟩
 rename_i hm
 have hm:gk name=true:=by simpa using hm
 split
 ·rename_i i hf
  have hi:=(fi hf).1
  have hl:=hs.nf
  have hv:=(hs.fs _ (Dp (n:=(i:Int)+1) hl (by omega) (by omega))).ver
  have:=jX (f:=(i:Int)+1) hq hq2 (by decide:(0:Int)≤0) (by decide) (by omega) (by omega) hv.1 hv.2
  exact⟨gU hs c this,this⟩
 rename_i hnone
 split
 ·rename_i i hf
  have hi:=(fi hf).1
  have hl:=hs.nf
  have mk:=jX (f:=(i:Int)+1) (v:=1) hq hq2 (by decide:(0:Int)≤0) (by decide) (by omega) (by omega) (by decide) (by decide)
  refine⟨gU (F8 hs _ (Of hm (by decide) (by decide) (by decide)) (Or.inr fun j g hg hgn=> ?_)) c mk,mk⟩
  exact absurd (k5 hnone g (List.mem_of_getElem? hg)) (by rw[show(g.Name==name)=true from et hgn];decide)
 ·exact⟨gU hs c (jX hq hq2 (by decide) (by decide) (by decide) (by decide) (by decide) (by decide)),jX hq hq2 (by decide) (by decide) (by decide) (by decide) (by decide) (by decide)⟩
theorem vU {B:Int} {s:aI} (hs:Good B s) (c q n:Int) (hq:0≤q) (hq2:q≤B) (l:List aX):Good B (j0 s c q n l).1∧oP B (j0 s c q n l).2:=by
 unfold j0
 split
 ·exact⟨gU hs c (jX hq hq2 (by decide) (by decide) (by decide) (by decide) (by decide) (by decide)),jX hq hq2 (by decide) (by decide) (by decide) (by decide) (by decide) (by decide)⟩
 rename_i hi
 obtain⟨hin,hne⟩:=Rs (by simpa using hi)
 split
 ·exact⟨gU hs c (jX hq hq2 (by decide) (by decide) (by decide) (by decide) (by decide) (by decide)),jX hq hq2 (by decide) (by decide) (by decide) (by decide) (by decide) (by decide)⟩
 have hfs:=jj (n:=n) hs.nf hin.1 hin.2
 have hf:=hs.fs _ (Dp (n:=n) hs.nf hin.1 hin.2)
 obtain⟨v0,v1⟩:=Ru hf.ver.1 hf.ver.2
 have mk:=jX (f:=n) (v:=(Mt (s5 s n) l).qo) hq hq2 (by decide:(0:Int)≤0) (by decide) (by omega) (by omega) (by show 0≤jE _ _;omega) v1
 refine⟨gU (F8 hs _ (Of (hf.some hne).1 v0 v1 (Md _ _ hf.body)) (Or.inr fun j g hg hgn=> ?_)) c mk,mk⟩
 exact hs.on j _ g (s5 s n) hg hfs (by rw[hgn];exact hne) hgn
theorem Dj {B:Int} {s:aI} (hs:Good B s) (c q n:Int) (hq:0≤q) (hq2:q≤B):Good B (sb s c q n).1∧oP B (sb s c q n).2:=by
 unfold sb
 split
 ·exact⟨gU hs c (jX hq hq2 (by decide) (by decide) (by decide) (by decide) (by decide) (by decide)),jX hq hq2 (by decide) (by decide) (by decide) (by decide) (by decide) (by decide)⟩
 rename_i hi
 obtain⟨hin,hne⟩:=Rs (by simpa using hi)
 have mk:=jX (f:=n) (v:=0) hq hq2 (by decide:(0:Int)≤0) (by decide) (by omega) (by omega) (by decide) (by decide)
 exact⟨gU (F8 hs _ (Or.inl rfl) (Or.inl rfl)) c mk,mk⟩
open Go
@[reducible] def E4:Type:=aG×List bQ
noncomputable def cm (st:bZ) (s:aI):bZ×Bool:=(iX fuel st s).getD (st,false)
def Hw (sv:aG) (c:Int) (t:bQ):bQ:={t with Kind:=1,To:=c,aP:=sv.aB.S.aP}
def sR (sv:aG) (c:Int) (t:bQ):aG:=match sv.Told[(c-1).toNat]? with
 |some y=>if y.Seq≤t.Seq then{sv with Told:=sv.Told.set (c-1).toNat (Hw sv c t)}else sv
 |none=>sv
def yv (sv:aG) (l:List bQ) (c:Int) (t:bQ):E4:=(sR sv c t,l++[Hw sv c t])
def fO (sv:aG) (a:bf) (t:bQ):E4:=yv sv [] a.bg {t with Seq:=a.Seq}
def Oi (m:bC):bQ:=⟨0,0,0,0,m.G2,m.aV,0,m.qo,[]⟩
def Hl (e:Int):bQ:=⟨0,0,0,0,e,0,0,0,[]⟩
def D2 (sv:aG) (w:bA):bQ:=
 if Ka sv.aB.S w.aV=true then⟨0,0,0,w.Seq,0,w.aV,lM sv.aY.bD sv.gD w.Client w.aV,(s5 sv.aB.S w.aV).qo,(s5 sv.aB.S w.aV).Body⟩
 else⟨0,0,0,w.Seq,0,w.aV,lM sv.aY.bD sv.gD w.Client w.aV,0,[]⟩
def H8 (sv:aG) (l:List bQ) (w:bA):E4:=yv sv l w.Client (D2 sv w)
def pg (sv:aG) (f c:Int):bQ:=⟨2,c,sv.aB.S.aP,0,0,f,0,0,[]⟩
noncomputable def lZ (sv:aG) (a:bf) (r:aI×bC) (f:bR→bR):E4:=
 if(cm sv.aB r.1).2=true then fO {sv with aB:=(cm sv.aB r.1).1,aY:=f sv.aY} a (Oi r.2)
 else({sv with aB:=(cm sv.aB r.1).1,Live:=false},[])
noncomputable def MU (sv:aG) (a:bf):E4:=lZ sv a (rN sv.aB.S a.bg a.Seq a.Name) id
def ck (a:bf):bA:=⟨a.bg,a.Seq,a.aV,a.Mode⟩
def AJ (sv:aG) (a:bf):E4:=
 if Ka sv.aB.S a.aV=false then fO sv a (Hl 2)else
 if(gl sv.aY sv.gD (ck a)).2.1=true then H8 {sv with aY:=(gl sv.aY sv.gD (ck a)).1} [] (ck a)
 else if(gl sv.aY sv.gD (ck a)).2.2.2≠0 then fO {sv with aY:=(gl sv.aY sv.gD (ck a)).1} a (Hl (gl sv.aY sv.gD (ck a)).2.2.2)
 else({sv with aY:=(gl sv.aY sv.gD (ck a)).1},(gl sv.aY sv.gD (ck a)).2.2.1.map (pg sv a.aV))
def rR (sv:aG) (a:bf):Bool:=decide (lM sv.aY.bD sv.gD a.bg a.aV=2)&&Ka sv.aB.S a.aV
noncomputable def nQ (sv:aG) (a:bf):E4:=
 if rR sv a=false then fO sv a (Hl 6)else lZ sv a (j0 sv.aB.S a.bg a.Seq a.aV a.aN) id
noncomputable def GN (sv:aG) (a:bf):E4:=
 if a.aN=[]then({(fO sv a ⟨0,0,0,0,0,a.aV,0,0,[]⟩).1 with aY:=Cj sv.aY a.bg a.aV},(fO sv a ⟨0,0,0,0,0,a.aV,0,0,[]⟩).2)
 else if rR sv a=false then({(fO sv a (Hl 6)).1 with aY:=Cj sv.aY a.bg a.aV},(fO sv a (Hl 6)).2)
 else lZ sv a (j0 sv.aB.S a.bg a.Seq a.aV a.aN) fun d=>Cj d a.bg a.aV
def EO (sv:aG) (c f:Int):Bool:= !decide (tY sv.aY.bD sv.gD c f 2=[])||sv.aY.cW.any fun w=>(w.aV==f)&&(w.Client != c)
def Ro (c f:Int) (d:bR):bR:=⟨Oz d.bD c f,fy d.cW c⟩
noncomputable def Gj (sv:aG) (a:bf):E4:=
 if EO sv a.bg a.aV=true then fO sv a (Hl 4)else lZ sv a (sb sv.aB.S a.bg a.Seq a.aV) (Ro a.bg a.aV)
noncomputable def eA (sv:aG) (a:bf):E4:=
 if sv.gD<sv.od then fO sv a (Hl 7)
 else if a.Kind=1 then MU sv a
 else if a.Kind=2 then AJ sv a
 else if a.Kind=3 then nQ sv a
 else if a.Kind=4 then GN sv a
 else Gj sv a
def seenAt (sv:aG) (c:Int):Int:=(sv.Seen[(c-1).toNat]?).getD 0
def gp (sv:aG) (c:Int):bQ:=(sv.Told[(c-1).toNat]?).getD ⟨0,0,0,0,0,0,0,0,[]⟩
def vC (sv:aG) (c:Int):bC:=(sv.aB.S.Marks[(c-1).toNat]?).getD ⟨0,0,0,0⟩
def kB (sv:aG) (a:bf):Int×bQ:=
 if a.aP≠sv.aB.S.aP then(1,⟨0,0,0,0,0,0,0,0,[]⟩)
 else if a.Seq<seenAt sv a.bg then(2,⟨0,0,0,0,0,0,0,0,[]⟩)
 else if(gp sv a.bg).Seq=a.Seq then(3,gp sv a.bg)
 else if(vC sv a.bg).Seq=a.Seq then(3,⟨1,a.bg,sv.aB.S.aP,a.Seq,(vC sv a.bg).G2,(vC sv a.bg).aV,0,(vC sv a.bg).qo,[]⟩)
 else(4,⟨0,0,0,0,0,0,0,0,[]⟩)
def um (sv:aG) (a:bf):aG:={sv with Seen:=sv.Seen.set (a.bg-1).toNat a.Seq}
noncomputable def su (sv:aG) (a:bf):E4:=
 if(kB sv a).1=1 then(sv,[⟨3,a.bg,sv.aB.S.aP,0,0,0,0,0,[]⟩])
 else if(kB sv a).1=3 then(sv,[(kB sv a).2])
 else if(kB sv a).1=4 then eA (um sv a) a
 else(sv,[])
noncomputable def kK (sv:aG) (b:List UInt8):E4:=
 if sv.Live=false then(sv,[])
 else if(iW b).2=false then({sv with wM:=jE (ay (sv.wM+1)) 1073741824},[])
 else su sv (iW b).1
def J8 (d:aT) (s:aI):Prop:=(∀x∈d.bz,x.length=32)∧d.bz.length=19∧d.bM=[]∧d.Down=false∧(0≤d.im∧d.im≤900)∧Clean 9 d.bz (fun i=>(pQ s).getD i [])
structure gn (sv:aG):Prop where
 mH:Good 1073741824 sv.aB.S
 si:fv sv.aY
 seen:sv.Seen.length=3
 told:sv.Told.length=3
 now:0≤sv.gD∧sv.gD≤9223372036854775807
 Gr:sv.Live=true→J8 sv.aB.D sv.aB.S
theorem qZ {st:bZ} {t:aI} (hd:J8 st.D st.S) (hs:Good 1073741824 st.S) (ht:Good 1073741824 t):
  iX fuel st t=some (cm st t)∧(cm st t).1.S=(bif (cm st t).2 then t else st.S)∧((cm st t).2=true→J8 (cm st t).1.D t)∧
   ((cm st t).2=false→Hr (cm st t).1.D∧(cm st t).1.D.bz.length=19∧ ∀aM,jm 9 (nW (cm st t).1.D.bz (cm st t).1.D.bM aM) (fun i=>(pQ st.S).getD i [])∨jm 9 (nW (cm st t).1.D.bz (cm st t).1.D.bM aM) (fun i=>(pQ t).getD i []))∧(st.D.im=0→(cm st t).2=true∧(cm st t).1.D.im=0):=by
 obtain⟨⟨L,W,A,D⟩,s⟩:=st
 obtain⟨h1,h2,h3,h4,h5,h6⟩:=hd
 simp only at h1 h2 h3 h4 h5 h6 hs ht
 subst h3 h4
 obtain⟨d',b,e,c1,c2,c3,c4,c5,c6⟩:=NT h1 h2 h5.1 h5.2 hs ht h6
 have ef:cm ⟨⟨L,[],A,false⟩,s⟩ t=(⟨d',bif b then t else s⟩,b):=by unfold cm;rw[e];rfl
 rw[ef]
 refine⟨e,rfl,fun hb=> ?_,fun hb=>⟨c1,c2,c4 hb⟩,fun hA=>⟨(c5 hA).1,(c5 hA).2⟩⟩
 obtain⟨g1,g2,g3⟩:=c3 hb
 exact⟨c1.last,c2,g1,g2,⟨c1.a0,by show d'.im≤900;omega⟩,g3⟩
open Go
@[reducible] def Hh (v:E4):ax:=⟨v.1,v.2⟩
@[reducible] def Aa:Type:=ax×List aS×List bA
@[reducible] def z8:Type:=ax×List (List UInt8)×List bJ×List bL×List bC
@[reducible] def OI:Type:=ax×List (List UInt8)×List bJ×List bL×List bC×List aS×List bA
def eH (h:ax):E4:=(h.Server,h.told)
def eX (h:ax):E4:=({h.Server with Live:=false},[])
theorem Kf {sv:aG} (h:sv.Told.length=3) {c:Int} (h1:1≤c) (h3:c≤3) (t:bQ) (l:List bQ):iI c t ⟨sv,l⟩=some (Hh (yv sv [] c t)):=by
 have hlt:(c-1).toNat<sv.Told.length:=by omega
 unfold iI dI yv sR
 simp only[aE,get_ite,aD,aC]
 rw[decide_eq_true (show c≥1 from h1),decide_eq_true (show c≤(sv.Told.length:Int)by omega),bq (by omega) (by omega),ig (by omega) (by omega),List.getElem?_eq_getElem hlt]
 simp only[cond_true,aw]
 by_cases hq:sv.Told[(c-1).toNat].Seq≤t.Seq
 ·rw[decide_eq_true hq,if_pos hq];rfl
 ·rw[decide_eq_false hq,if_neg hq];rfl
theorem re {sv:aG} (h:sv.Told.length=3) {a:bf} (h1:1≤a.bg) (h3:a.bg≤3) (t:bQ) (l:List bQ):dv a t ⟨sv,l⟩=some (Hh (fO sv a t)):=by
 unfold dv ek
 simp only[aE,aD,Kf h h1 h3];rfl
theorem Ac {sv:aG} (h:sv.Told.length=3) {a:bf} (h1:1≤a.bg) (h3:a.bg≤3) (m:bC) (l:List bQ):fY a m ⟨sv,l⟩=some (Hh (fO sv a (Oi m))):=by
 unfold fY gK
 simp only[aE,aD,re h h1 h3 _ _];rfl
theorem CJ {sv:aG} (hl:sv.aB.S.aQ.length=6) (n:Int) (l:List bQ):gJ n ⟨sv,l⟩=some (Ka sv.aB.S n):=by
 unfold gJ ir Ka
 simp only[aE,get_ite,aD,aC]
 by_cases c1:n≥1
 ·by_cases c2:n≤(sv.aB.S.aQ.length:Int)
  ·have hfn:=jj (n:=n) hl (by omega) (by omega)
   rw[decide_eq_true c1,decide_eq_true c2,decide_eq_true (show 1≤n∧n≤6 by omega),bq (by omega) (by omega),ig (by omega) (by omega),hfn]
   simp only[cond_true,aw,Bool.true_and]
   by_cases hn:(s5 sv.aB.S n).Name=[]
   ·rw[et hn,decide_eq_true hn]
   ·rw[di hn,decide_eq_false hn]
  ·rw[decide_eq_true c1,decide_eq_false c2,decide_eq_false (show ¬(1≤n∧n≤6)by omega)];rfl
 ·rw[decide_eq_false c1,decide_eq_false (show ¬(1≤n∧n≤6)by omega)];rfl
theorem Qr {sv:aG} (hl:sv.aB.S.aQ.length=6) (ht:sv.Told.length=3) (hd:fv sv.aY) {w:bA} (hw:Bh w) (l:List bQ):
  ∃s,oC fuel w ⟨sv,l⟩=some s∧(match s with| .inl h=>h| .inr h=>h)=Hh (H8 sv [] w):=by
 have hc:=hw.aU
 have hf:=hw.file
 have hfn:=jj (n:=w.aV) hl hf.1 hf.2
 unfold oC mo H8 D2
 simp only[aE,get_ite,aD,aC,G0 _ sv.gD w.Client w.aV hd.ie.sorted (by have:=hd.ie.short;omega),CJ hl,aw,Kf ht hc.1 hc.2]
 rw[bq (show-9223372036854775808≤w.aV-1 by omega) (by omega),ig (by omega) (by omega),hfn]
 simp only[cond_true,aw]
 cases hi:Ka sv.aB.S w.aV with
 |true=>exact⟨_,rfl,rfl⟩
 |false=>exact⟨_,rfl,rfl⟩
theorem NL {sv:aG} (cs:List Int) (hcs:cs.length<1000) (f:Int) (l0:List bQ) (hl0:l0.length<1000) (step:Int×ax→Option ((Int×ax) ⊕ ax))
  (hs: ∀v,step v=D.Tree.get (.ite (decide (v.1<(cs.length:Int))) (.ite (cL v.1 cs.length) (.opt (cs[v.1.toNat]?) fun y_1=> .opt (gL y_1 f v.2) fun r_2=> .ret (.inl ((ay (v.1+1)),r_2))) .fail) (.ret (.inr v.2)))):
  iter step fuel (0,⟨sv,l0⟩)=some (Hh (sv,l0++cs.map (pg sv f))):=by
 obtain⟨x,e,hx⟩:=dR (step:=step) (fun k v=> ∃i:Nat,v.1=(i:Int)∧i+k=cs.length∧v.2=Hh (sv,l0++(cs.take i).map (pg sv f))) (fun r=>r=Hh (sv,l0++cs.map (pg sv f))) (fun k v hI=>by
  obtain⟨v1,v2⟩:=v
  obtain⟨i,hi,hk,hv⟩:=hI
  simp only at hi hv
  subst hi hv
  rw[hs]
  simp only[get_ite,aE,aD,aC,gL,lE]
  by_cases hlt:i<cs.length
  ·rw[da hlt,bP hlt,Int.toNat_natCast,List.getElem?_eq_getElem hlt,aw,bG (by omega),decide_eq_true (show(l0++(cs.take i).map (pg sv f)).length+1≤dy by rw[cw];simp;omega)]
   refine⟨_,rfl,k-1,by omega,i+1,rfl,by omega,?_⟩
   show(⟨sv,l0++(cs.take i).map (pg sv f)++[pg sv f cs[i]]⟩:ax)=⟨sv,l0++(cs.take (i+1)).map (pg sv f)⟩
   rw[List.take_succ_eq_append_getElem hlt,List.map_append,List.append_assoc];rfl
  ·obtain rfl:i=cs.length:=by omega
   rw[db]
   refine⟨_,rfl,?_⟩
   rw[List.take_length];rfl) cs.length (0,⟨sv,l0⟩) fuel ⟨0,rfl,by omega,by simp⟩ (cr (by omega))
 rw[e,hx]
def eL:ax ⊕ (Aa ⊕ (Aa ⊕ Aa))→E4
 | .inl h=>eH h
 | .inr (.inl p)=>eH p.1
 | .inr (.inr (.inl p))=>eH p.1
 | .inr (.inr (.inr p))=>eH p.1
theorem P7 (l:List aS) (now c f m:Int):(tY l now c f m).length≤l.length:=by
 unfold tY;rw[List.length_map];exact List.length_filter_le _ _
theorem OU {sv:aG} (S:gn sv) {a:bf} (h1:1≤a.bg) (h3:a.bg≤3) (hw:Bh (ck a)) (l:List bQ): ∃s,ns fuel a ⟨sv,l⟩=some s∧eL s=AJ sv a:=by
 have hl:=S.mH.nf
 have hq:=S.si.ask S.now hw
 have hshort:=hq.ie.short
 unfold ns lD AJ
 simp only[aE,get_ite,aD,aC,aF,CJ hl,aw,re S.told h1 h3,Tl S.si sv.gD (ck a),show(⟨a.bg,a.Seq,a.aV,a.Mode⟩:bA)=ck a from rfl]
 cases hi:Ka sv.aB.S a.aV with
 |false=>exact⟨_,rfl,rfl⟩
 |true=>
  rw[if_neg (by simp)]
  simp only[Bool.not_true,cond_false]
  have cs0:(gl sv.aY sv.gD (ck a)).2.1=true∨(gl sv.aY sv.gD (ck a)).2.2.2≠0→(gl sv.aY sv.gD (ck a)).2.2.1=[]:=by
   unfold gl
   split
   ·intro _;rfl
   split
   ·intro _;rfl
   ·intro h;rcases h with h|h
    ·cases h
    ·exact absurd rfl h
  have PJ:(gl sv.aY sv.gD (ck a)).2.2.1.length<1000:=by
   have hs:=(S.si.I5 sv.gD).ie.short
   unfold gl
   split
   ·show(0:Nat)<1000;decide
   split
   ·show(0:Nat)<1000;decide
   ·exact Nat.lt_of_le_of_lt (P7 _ _ _ _ _) (by show(vp sv.aY.bD sv.gD).length<1000;exact Nat.lt_of_le_of_lt hs (by decide))
  cases hok:(gl sv.aY sv.gD (ck a)).2.1 with
  |true=>
   rw[if_pos rfl]
   simp only[cond_true]
   obtain⟨s,e,hs⟩:=Qr (sv:={sv with aY:=(gl sv.aY sv.gD (ck a)).1}) hl S.told hq hw []
   rw[e,aw,cs0 (Or.inl hok)]
   have lp: ∀h:ax,eu fuel [] (([]:List Int).length:Int) a (ck a) (gl sv.aY sv.gD (ck a)).1 sv.aY.bD sv.aY.cW 0 h=some h∧ko fuel [] (([]:List Int).length:Int) a (ck a) (gl sv.aY sv.gD (ck a)).1 sv.aY.bD sv.aY.cW 0 h=some h:=fun h=>by
    unfold eu ko
    rw[pn]
    exact⟨rfl,rfl⟩
   cases s with
   |inl h=>simp only[bB,(lp h).1,aw];refine⟨_,rfl,?_⟩;rw[show h=_ from hs];rfl
   |inr h=>simp only[fu,(lp h).2,aw];refine⟨_,rfl,?_⟩;rw[show h=_ from hs];rfl
  |false=>
   rw[if_neg (by simp)]
   simp only[cond_false]
   by_cases he:(gl sv.aY sv.gD (ck a)).2.2.2=0
   ·rw[if_neg (by simp[he]),show((gl sv.aY sv.gD (ck a)).2.2.2 != 0)=false by simp[he]]
    unfold pA
    have:=NL (sv:={sv with aY:=(gl sv.aY sv.gD (ck a)).1}) (gl sv.aY sv.gD (ck a)).2.2.1 PJ a.aV [] (by decide) (pz (gl sv.aY sv.gD (ck a)).2.2.1 ((gl sv.aY sv.gD (ck a)).2.2.1.length:Int) a (ck a) (gl sv.aY sv.gD (ck a)).1 sv.aY.bD sv.aY.cW) (fun v=>rfl)
    simp only[cond_false]
    rw[this,aw]
    exact⟨_,rfl,rfl⟩
   ·rw[if_pos he,show((gl sv.aY sv.gD (ck a)).2.2.2 != 0)=true by simp[he]]
    simp only[cond_true]
    rw[re (sv:={sv with aY:=(gl sv.aY sv.gD (ck a)).1}) S.told h1 h3,aw,cs0 (Or.inr he)]
    have lp: ∀h:ax,eu fuel [] (([]:List Int).length:Int) a (ck a) (gl sv.aY sv.gD (ck a)).1 sv.aY.bD sv.aY.cW 0 h=some h:=fun h=>by
     unfold eu
     rw[pn];rfl
    rw[lp,aw]
    exact⟨_,rfl,rfl⟩
theorem w8 {sv:aG} {s:aI} (hc:iX fuel sv.aB s=some (cm sv.aB s)) (l:List bQ):fw fuel s ⟨sv,l⟩=some (bif (cm sv.aB s).2 then .inl (⟨{sv with aB:=(cm sv.aB s).1},[]⟩,sv.aB.D.bz,sv.aB.D.bM)else .inr (⟨{sv with aB:=(cm sv.aB s).1},[]⟩,sv.aB.D.bz,sv.aB.D.bM)):=by
 unfold fw gj
 simp only[aE,get_ite,aD,hc,aw]
 cases (cm sv.aB s).2<;>rfl
def eO:z8 ⊕ z8→E4
 | .inl p=>eH p.1
 | .inr p=>eX p.1
theorem OT {sv:aG} (S:gn sv) (hlive:sv.Live=true) {a:bf} (h1:1≤a.bg) (h3:a.bg≤3) (hq:0≤a.Seq∧a.Seq≤1073741824) (hn:a.Name.length<4294967296) (l:List bQ): ∃s,nr fuel a ⟨sv,l⟩=some s∧eO s=MU sv a:=by
 have hg:=Di S.mH a.bg a.Seq hq.1 hq.2 a.Name
 have hc:=(qZ (S.Gr hlive) S.mH hg.1).1
 unfold nr lC MU lZ
 simp only[aE,get_ite,aD,aC,aF,TP S.mH a.bg a.Seq h1 h3 a.Name hn,aw]
 rw[w8 (sv:=sv) hc,aw]
 cases hb:(cm sv.aB (rN sv.aB.S a.bg a.Seq a.Name).1).2 with
 |true=>
  simp only[cond_true,bB]
  rw[Ac (sv:={sv with aB:=(cm sv.aB (rN sv.aB.S a.bg a.Seq a.Name).1).1}) S.told h1 h3,aw]
  exact⟨_,rfl,rfl⟩
 |false=>exact⟨_,rfl,rfl⟩
def eF:ax ⊕ (z8 ⊕ z8)→E4
 | .inl h=>eH h
 | .inr (.inl p)=>eH p.1
 | .inr (.inr p)=>eX p.1
theorem DM {sv:aG} (S:gn sv) (hlive:sv.Live=true) {a:bf} (h1:1≤a.bg) (h3:a.bg≤3) (hq:0≤a.Seq∧a.Seq≤1073741824) (hw:a.aN.length<1000) (l:List bQ):
  ∃s,iu fuel a ⟨sv,l⟩=some s∧eF s=nQ sv a∧(match s with| .inl h=>h=Hh (fO sv a (Hl 6))∧rR sv a=false| .inr _=>rR sv a=true)∧
   (∀p,s= .inr (.inl p)→p.1.Server.aY=sv.aY∧(cm sv.aB (j0 sv.aB.S a.bg a.Seq a.aV a.aN).1).2=true)∧(∀p,s= .inr (.inr p)→(cm sv.aB (j0 sv.aB.S a.bg a.Seq a.aV a.aN).1).2=false):=by
 have hg:=vU S.mH a.bg a.Seq a.aV hq.1 hq.2 a.aN
 have hc:=(qZ (S.Gr hlive) S.mH hg.1).1
 unfold iu jB nQ lZ rR
 simp only[aE,get_ite,aD,aC,aF,G0 _ sv.gD a.bg a.aV S.si.ie.sorted (by have:=S.si.ie.short;omega),aw,re S.told h1 h3,CJ S.mH.nf,Sl S.mH a.bg a.Seq a.aV h1 h3 a.aN hw]
 by_cases hh:lM sv.aY.bD sv.gD a.bg a.aV=2
 ·rw[decide_eq_true hh,show(lM sv.aY.bD sv.gD a.bg a.aV != 2)=false by simp[hh]]
  cases hi:Ka sv.aB.S a.aV with
  |false=>exact⟨_,rfl,rfl,⟨rfl,rfl⟩,fun p h=>(by cases h),fun p h=>(by cases h)⟩
  |true=>
   rw[if_neg (by simp)]
   simp only[cond_false,Bool.not_true]
   rw[w8 (sv:=sv) hc,aw]
   cases hb:(cm sv.aB (j0 sv.aB.S a.bg a.Seq a.aV a.aN).1).2 with
   |true=>
    simp only[cond_true,bB]
    rw[Ac (sv:={sv with aB:=(cm sv.aB (j0 sv.aB.S a.bg a.Seq a.aV a.aN).1).1}) S.told h1 h3,aw]
    refine⟨_,rfl,rfl,rfl,fun p h=> ?_,fun p h=>by cases h⟩
    cases h
    refine⟨?_,trivial⟩
    show(sR _ _ _).aY=_
    unfold sR
    split
    ·split<;>rfl
    ·rfl
   |false=>exact⟨_,rfl,rfl,rfl,fun p h=>(by cases h),fun p h=>rfl⟩
 ·rw[decide_eq_false hh,show(lM sv.aY.bD sv.gD a.bg a.aV != 2)=true by simp[hh]]
  exact⟨_,rfl,rfl,⟨rfl,rfl⟩,fun p h=>(by cases h),fun p h=>(by cases h)⟩
theorem Pt (sv:aG) (c:Int) (t:bQ) (d:bR):{sR sv c t with aY:=d}=sR {sv with aY:=d} c t:=by
 unfold sR
 simp only
 cases sv.Told[(c-1).toNat]? with
 |none=>rfl
 |some y=>
  simp only
  split<;>rfl
theorem FI (sv:aG) (c:Int) (t:bQ):(sR sv c t).aY=sv.aY:=by
 unfold sR
 split
 ·split<;>rfl
 ·rfl
open Go
theorem On {α:Type} (l:List α):decide ((l.length:Int)>0)= !decide (l=[]):=by
 cases l with
 |nil=>rfl
 |cons a r=>simp<;>omega
def eB:Aa ⊕ (Aa ⊕ (OI ⊕ z8))→E4
 | .inl p=>eH p.1
 | .inr (.inl p)=>eH p.1
 | .inr (.inr (.inl p))=>eH p.1
 | .inr (.inr (.inr p))=>eX p.1
theorem Qt {sv:aG} (S:gn sv) (hlive:sv.Live=true) {a:bf} (h1:1≤a.bg) (h3:a.bg≤3) (hq:0≤a.Seq∧a.Seq≤1073741824) (hw:a.aN.length<1000) (l:List bQ):
  ∃s,jA fuel a ⟨sv,l⟩=some s∧eB s=GN sv a:=by
 have hgive: ∀sv':aG,sv'.aY=sv.aY→o6 fuel sv'.aY a.bg a.aV=some (Cj sv.aY a.bg a.aV):=fun sv' h=>by rw[h];exact LF S.si a.bg a.aV
 unfold jA iG GN
 simp only[aE,get_ite,aD,aC,aF,On,re S.told h1 h3,aw]
 by_cases h0:a.aN=[]
 ·rw[decide_eq_true h0,if_pos h0]
  simp only[Bool.not_true,cond_false]
  rw[hgive (fO sv a ⟨0,0,0,0,0,a.aV,0,0,[]⟩).1 (FI _ _ _),aw]
  exact⟨_,rfl,rfl⟩
 ·rw[decide_eq_false h0,if_neg h0]
  simp only[Bool.not_false,cond_true]
  obtain⟨s,e,es,k1,k2,k3⟩:=DM S hlive h1 h3 hq hw []
  rw[e,aw]
  rcases s with s|s|s
  ·obtain⟨k1,k1'⟩:=k1
   rw[if_pos k1',k1]
   simp only[bB]
   rw[hgive (fO sv a (Hl 6)).1 (FI _ _ _),aw]
   exact⟨_,rfl,rfl⟩
  ·have k1:rR sv a=true:=k1
   obtain⟨k2,k2'⟩:=k2 s rfl
   rw[if_neg (by simp[k1])]
   simp only[bB,fu]
   rw[hgive _ k2,aw]
   refine⟨_,rfl,?_⟩
   unfold nQ lZ at es
   rw[if_neg (by simp[k1]),if_pos k2']at es
   unfold lZ
   rw[if_pos k2']
   have es1:s.1.Server=_:=congrArg Prod.fst es
   have es2:s.1.told=_:=congrArg Prod.snd es
   show({s.1.Server with aY:=Cj sv.aY a.bg a.aV},s.1.told)=_
   rw[es1,es2]
   unfold fO yv
   simp only[id]
   rw[Pt];rfl
  ·have k1:rR sv a=true:=k1
   have k3:=k3 s rfl
   rw[if_neg (by simp[k1])]
   simp only[fu]
   refine⟨_,rfl,?_⟩
   unfold nQ lZ at es
   rw[if_neg (by simp[k1]),if_neg (by simp[k3])]at es
   unfold lZ
   rw[if_neg (by simp[k3])]
   exact es
theorem LR (l:List bA) (f c:Int) (h:l.length<1000000):hU fuel l f c=some (l.any fun w=>(w.aV==f)&&(w.Client != c)):=by
 have hp:(fun w:bA=>(w.aV==f)&&(w.Client != c))=fun w=>dx w f c:=funext fun w=>by
  unfold dx iH
  simp only[aL,aK]
  cases w.aV==f<;>rfl
 unfold hU fV mP gq j9
 simp only[aE,aD,aF]
 rw[oW l (fun w=>dx w f c) (j8 l (l.length:Int) f c) (fun i=>rfl) h,aw,hp]
 cases hf:l.findIdx? (fun w=>dx w f c)with
 |none=>
  have:l.any (fun w=>dx w f c)=false:=by
   rw[List.any_eq_false]
   intro x hx
   rw[k5 hf x hx];decide
  rw[this];rfl
 |some i=>
  obtain⟨hi,hp,_⟩:=fi hf
  have:l.any (fun w=>dx w f c)=true:=List.any_eq_true.2 ⟨_,List.getElem_mem hi,hp⟩
  rw[this]
  simp only[bB,aw]
  rw[decide_eq_true (show(i:Int)≥0 by omega)]
theorem Mx {sv:aG} (S:gn sv) (c f:Int) (l:List bQ):mn fuel c f ⟨sv,l⟩=some (EO sv c f,Hh (sv,[])):=by
 unfold mn kn EO
 simp only[aE,get_ite,aD,GD _ sv.gD c f 2 S.si.ie.sorted (by have:=S.si.ie.short;omega),aw,LR sv.aY.cW f c (by have:=S.si.PJ;omega),On]
 cases decide (tY sv.aY.bD sv.gD c f 2=[])<;>rfl
def eE:ax ⊕ (OI ⊕ z8)→E4
 | .inl h=>eH h
 | .inr (.inl p)=>eH p.1
 | .inr (.inr p)=>eX p.1
theorem Qs {sv:aG} (S:gn sv) (hlive:sv.Live=true) {a:bf} (h1:1≤a.bg) (h3:a.bg≤3) (hq:0≤a.Seq∧a.Seq≤1073741824) (l:List bQ): ∃s,oD fuel a ⟨sv,l⟩=some s∧eE s=Gj sv a:=by
 have hg:=Dj S.mH a.bg a.Seq a.aV hq.1 hq.2
 have hc:=(qZ (S.Gr hlive) S.mH hg.1).1
 unfold oD mq Gj lZ
 simp only[aE,get_ite,aD,aC,aF,Mx S,aw,re S.told h1 h3,TS S.mH a.bg a.Seq a.aV h1 h3]
 cases ho:EO sv a.bg a.aV with
 |true=>exact⟨_,rfl,rfl⟩
 |false=>
  rw[if_neg (by simp)]
  simp only[cond_false]
  rw[w8 (sv:=sv) hc,aw]
  cases hb:(cm sv.aB (sb sv.aB.S a.bg a.Seq a.aV).1).2 with
  |true=>
   simp only[cond_true,bB,LF S.si,aw]
   rw[x2 _ a.bg (by show sv.aY.cW.length<1000000;have:=S.si.PJ;omega),aw]
   rw[Ac (sv:={sv with aB:=(cm sv.aB (sb sv.aB.S a.bg a.Seq a.aV).1).1,aY:=⟨(Cj sv.aY a.bg a.aV).bD,fy (Cj sv.aY a.bg a.aV).cW a.bg⟩}) S.told h1 h3,aw]
   exact⟨_,rfl,rfl⟩
  |false=>exact⟨_,rfl,rfl⟩
def eS:ax ⊕ (ax ⊕ (ax ⊕ (ax ⊕ (Aa ⊕ (Aa ⊕ (Aa ⊕ (Aa ⊕ (Aa ⊕ (z8 ⊕ (z8 ⊕ (z8 ⊕ (z8 ⊕ (OI ⊕ OI)))))))))))))→E4
 | .inl h=>(h.Server,[])
 | .inr (.inl h)=>eH h
 | .inr (.inr (.inl h))=>eH h
 | .inr (.inr (.inr (.inl h)))=>eH h
 | .inr (.inr (.inr (.inr (.inl p))))=>eH p.1
 | .inr (.inr (.inr (.inr (.inr (.inl p)))))=>eH p.1
 | .inr (.inr (.inr (.inr (.inr (.inr (.inl p))))))=>eH p.1
 | .inr (.inr (.inr (.inr (.inr (.inr (.inr (.inl p)))))))=>eH p.1
 | .inr (.inr (.inr (.inr (.inr (.inr (.inr (.inr (.inl p))))))))=>eH p.1
 | .inr (.inr (.inr (.inr (.inr (.inr (.inr (.inr (.inr (.inl p)))))))))=>(p.1.Server,[])
 | .inr (.inr (.inr (.inr (.inr (.inr (.inr (.inr (.inr (.inr (.inl p))))))))))=>(p.1.Server,[])
 | .inr (.inr (.inr (.inr (.inr (.inr (.inr (.inr (.inr (.inr (.inr (.inl p)))))))))))=>(p.1.Server,[])
 | .inr (.inr (.inr (.inr (.inr (.inr (.inr (.inr (.inr (.inr (.inr (.inr (.inl p))))))))))))=>eH p.1
 | .inr (.inr (.inr (.inr (.inr (.inr (.inr (.inr (.inr (.inr (.inr (.inr (.inr (.inl p)))))))))))))=>eH p.1
 | .inr (.inr (.inr (.inr (.inr (.inr (.inr (.inr (.inr (.inr (.inr (.inr (.inr (.inr p)))))))))))))=>eH p.1
theorem Mw {sv:aG} (S:gn sv) (hlive:sv.Live=true) {a:bf} (ha:cH a=true): ∃s,jb fuel a ⟨sv,[]⟩=some s∧eS s=eA sv a:=by
 obtain⟨hk,hfr,_,hsq,hnm,hfi,hmo,hwl,_⟩:=fb ha
 have h1:=hfr.1
 have h3:=hfr.2
 have hq:0≤a.Seq∧a.Seq≤1073741824:=by omega
 unfold jb km eA
 simp only[aE,get_ite,aD,aC,aF,re S.told h1 h3,aw]
 by_cases hh:sv.gD<sv.od
 ·rw[decide_eq_true hh,if_pos hh];exact⟨_,rfl,rfl⟩
 rw[decide_eq_false hh,if_neg hh,cond_false]
 by_cases k1:a.Kind=1
 ·rw[if_pos k1,et k1,cond_true]
  obtain⟨s,e,es⟩:=OT S hlive h1 h3 hq (by omega) []
  rw[e,aw,←es]
  rcases s with s|s<;>exact⟨_,rfl,rfl⟩
 rw[if_neg k1,di k1,cond_false]
 by_cases k2:a.Kind=2
 ·rw[if_pos k2,et k2,cond_true]
  have hwait:Bh (ck a):=by
   unfold cH at ha
   simp only[Bool.and_eq_true]at ha
   have h5:=ha.2.2.2.2.1
   unfold w7 at h5
   rw[di k1,et k2]at h5
   simp only[cond_false,cond_true,Bool.and_eq_true,cJ]at h5
   exact⟨hfr,h5.1,h5.2⟩
  obtain⟨s,e,es⟩:=OU S h1 h3 hwait []
  rw[e,aw,←es]
  rcases s with s|s|s|s<;>exact⟨_,rfl,rfl⟩
 rw[if_neg k2,di k2,cond_false]
 by_cases k3:a.Kind=3
 ·rw[if_pos k3,et k3,cond_true]
  obtain⟨s,e,es,_⟩:=DM S hlive h1 h3 hq (by omega) []
  rw[e,aw,←es]
  rcases s with s|s|s<;>exact⟨_,rfl,rfl⟩
 rw[if_neg k3,di k3,cond_false]
 by_cases k4:a.Kind=4
 ·rw[if_pos k4,et k4,cond_true]
  obtain⟨s,e,es⟩:=Qt S hlive h1 h3 hq (by omega) []
  rw[e,aw,←es]
  rcases s with s|s|s|s<;>exact⟨_,rfl,rfl⟩
 rw[if_neg k4,di k4,cond_false,et (show a.Kind=5 by omega),cond_true]
 obtain⟨s,e,es⟩:=Qs S hlive h1 h3 hq []
 rw[e,aw,←es]
 rcases s with s|s|s<;>exact⟨_,rfl,rfl⟩
theorem at3 {α:Type} {l:List α} (hl:l.length=3) {c:Int} (h1:1≤c) (h3:c≤3) (d:α):l[(c-1).toNat]? =some ((l[(c-1).toNat]?).getD d):=by
 rw[List.getElem?_eq_getElem (show(c-1).toNat<l.length by omega)];rfl
theorem Rq {sv:aG} (S:gn sv) {a:bf} (h1:1≤a.bg) (h3:a.bg≤3) (hq:1≤a.Seq):Al sv.aB.S.aP sv.Seen sv.Told sv.aB.S.Marks a=some (kB sv a):=by
 have e1:=S.seen
 have e2:=S.told
 have e3:=S.mH.nm
 unfold Al vg kB Oh C6 vB qL
 simp only[aE,get_ite,aD,aC,aL,aK,e1,e2,e3]
 rw[decide_eq_false (show ¬a.bg<1 by omega),decide_eq_false (show ¬a.bg>((3:Nat):Int)by omega),decide_eq_false (show ¬a.Seq<1 by omega),decide_eq_true (show a.bg≥1 from h1),decide_eq_true (show a.bg≤((3:Nat):Int)by omega),decide_eq_false (show ¬a.Seq≤0 by omega),bq (show-9223372036854775808≤a.bg-1 by omega) (by omega),ig (show 0≤a.bg-1 by omega) (show a.bg-1<((3:Nat):Int)by omega)]
 simp only[bne_self_eq_false,cond_false,cond_true,Bool.not_true]
 by_cases he:a.aP=sv.aB.S.aP
 case neg=>rw[if_pos he,show(a.aP != sv.aB.S.aP)=true by simp[he]];rfl
 rw[if_neg (by simp[he]),show(a.aP != sv.aB.S.aP)=false by simp[he],at3 e1 h1 h3 0,at3 e2 h1 h3 ⟨0,0,0,0,0,0,0,0,[]⟩,at3 e3 h1 h3 ⟨0,0,0,0⟩]
 simp only[cond_false,aw]
 change (bif decide (a.Seq<seenAt sv a.bg)then _ else _)=_
 by_cases hs:a.Seq<seenAt sv a.bg
 ·rw[decide_eq_true hs,if_pos hs];rfl
 rw[decide_eq_false hs,if_neg hs]
 simp only[cond_false]
 change (bif (gp sv a.bg).Seq==a.Seq then some (3,gp sv a.bg)else _)=_
 by_cases ht:(gp sv a.bg).Seq=a.Seq
 ·rw[et ht,if_pos ht];rfl
 rw[di ht,if_neg ht]
 simp only[cond_false]
 change ((bif (vC sv a.bg).Seq != a.Seq then some ((⟨0,0,0,0⟩:bC),false)else some (vC sv a.bg,true)).bind _)=_
 by_cases hm:(vC sv a.bg).Seq=a.Seq
 ·rw[show((vC sv a.bg).Seq != a.Seq)=false by simp[hm],if_pos hm];rfl
 ·rw[show((vC sv a.bg).Seq != a.Seq)=true by simp[hm],if_neg hm];rfl
theorem IU {sv:aG} (S:gn sv) (a:bf):gn (um sv a):=
 ⟨S.mH,S.si,by show(sv.Seen.set _ _).length=3;rw[List.length_set];exact S.seen,S.told,S.now,S.Gr⟩
theorem DQ {b:List UInt8} (h:(iW b).2=true):cH (iW b).1=true∧b=cP (iW b).1:=by
 obtain⟨x,r,_,hz,hm⟩:=IN h
 have:=xe hm
 rw[←hz]at this
 rw[this]
 exact⟨hm,hz⟩
theorem CK {sv:aG} (S:gn sv) (b:List UInt8) (hb:b.length≤dy):gM fuel sv b=some (kK sv b):=by
 unfold gM ry kK gA
 simp only[aE,get_ite,aD,aC,aF]
 cases hlive:sv.Live with
 |false=>rfl
 |true=>
  rw[if_neg (by simp)]
  simp only[Bool.not_true,cond_false,FL b hb,aw]
  cases ht:(iW b).2 with
  |false=>rfl
  |true=>
   rw[if_neg (by simp)]
   simp only[Bool.not_true,cond_false]
   obtain⟨hm,_⟩:=DQ ht
   generalize (iW b).1=a at hm
   obtain⟨hk,hfr,_,hsq,_⟩:=fb hm
   rw[Rq S hfr.1 hfr.2 hsq.1,aw]
   unfold su
   by_cases j1:(kB sv a).1=1
   ·rw[if_pos j1,et j1];rfl
   rw[if_neg j1,di j1,cond_false]
   by_cases j3:(kB sv a).1=3
   ·rw[if_pos j3,et j3];rfl
   rw[if_neg j3,di j3,cond_false]
   by_cases j4:(kB sv a).1=4
   ·rw[if_pos j4,et j4]
    have hs:=S.seen
    rw[bq (by omega) (by omega),ig (by omega) (by omega),List.getElem?_eq_getElem (show(a.bg-1).toNat<sv.Seen.length by omega)]
    simp only[cond_true,aw]
    obtain⟨s,e,es⟩:=Mw (IU S a) hlive hm
    have e':jb fuel a ⟨⟨sv.aB,sv.aY,sv.Seen.set (a.bg-1).toNat a.Seq,sv.Told,sv.gD,sv.od,sv.wM,true,sv.fG⟩,[]⟩=some s:=by
     rw[←e]
     unfold um
     rw[hlive]
    rw[e',aw,←es]
    rcases s with s|s|s|s|s|s|s|s|s|s|s|s|s|s|s<;>rfl
   ·rw[if_neg j4,di j4];rfl
open Go
theorem B1 (sv:aG) (c:Int) (t:bQ): ∃T,sR sv c t={sv with Told:=T}∧T.length=sv.Told.length:=by
 unfold sR
 split
 ·split
  ·exact⟨_,rfl,by simp⟩
  ·exact⟨_,rfl,rfl⟩
 ·exact⟨_,rfl,rfl⟩
theorem QD {sv:aG} (S:gn sv) {T:List bQ} (h:T.length=3):gn {sv with Told:=T}:=⟨S.mH,S.si,S.seen,h,S.now,S.Gr⟩
theorem nh {sv:aG} (S:gn sv) (c:Int) (t:bQ):gn (sR sv c t):=by
 obtain⟨T,e,hT⟩:=B1 sv c t
 rw[e];exact QD S (hT.trans S.told)
theorem xl {sv:aG} (S:gn sv) {d:bR} (h:fv d):gn {sv with aY:=d}:=⟨S.mH,h,S.seen,S.told,S.now,S.Gr⟩
theorem BF {sv:aG} (S:gn sv) (hlive:sv.Live=true) (a:bf) {r:aI×bC} (hg:Good 1073741824 r.1) {f:bR→bR} (hf:fv (f sv.aY)):gn (lZ sv a r f).1:=by
 obtain⟨_,cS,cD,_⟩:=qZ (S.Gr hlive) S.mH hg
 unfold lZ
 split
 ·rename_i hb
  have:gn {sv with aB:=(cm sv.aB r.1).1,aY:=f sv.aY}:=by
   refine⟨?_,hf,S.seen,S.told,S.now,fun _=> ?_⟩
   ·show Good _ (cm sv.aB r.1).1.S;rw[cS,hb];exact hg
   ·show J8 (cm sv.aB r.1).1.D (cm sv.aB r.1).1.S;rw[cS,hb];exact cD hb
  exact nh this _ _
 ·rename_i hb
  refine⟨?_,S.si,S.seen,S.told,S.now,fun h=>by cases h⟩
  show Good _ (cm sv.aB r.1).1.S
  rw[cS]
  cases (cm sv.aB r.1).2
  ·exact S.mH
  ·exact hg
theorem pF {d:bR} (h:fv d) (c f:Int):fv (Ro c f d):=
 ⟨uS h.ie _,fun x hx=>h.line x (vF hx),Nat.le_trans (List.length_filter_le _ _) h.PJ⟩
theorem Sr {a:bf} (ha:cH a=true) (k2:a.Kind=2):Bh (ck a):=by
 have hfr:=(fb ha).2.1
 unfold cH at ha
 simp only[Bool.and_eq_true]at ha
 have h5:=ha.2.2.2.2.1
 unfold w7 at h5
 rw[di (show ¬a.Kind=1 by omega),et k2]at h5
 simp only[cond_false,cond_true,Bool.and_eq_true,cJ]at h5
 exact⟨hfr,h5.1,h5.2⟩
theorem MG {sv:aG} (S:gn sv) (hlive:sv.Live=true) {a:bf} (ha:cH a=true):gn (eA sv a).1:=by
 obtain⟨hk,hfr,_,hsq,hnm,hfi,hmo,hwl,_⟩:=fb ha
 have hq0:0≤a.Seq:=by omega
 unfold eA
 split
 ·exact nh S _ _
 split
 ·exact BF S hlive a (Di S.mH a.bg a.Seq hq0 hsq.2 a.Name).1 S.si
 rename_i k1
 split
 ·rename_i k2
  have hd:=S.si.ask S.now (Sr ha k2)
  unfold AJ
  split
  ·exact nh S _ _
  split
  ·exact nh (xl S hd) _ _
  split
  ·exact nh (xl S hd) _ _
  ·exact xl S hd
 split
 ·unfold nQ
  split
  ·exact nh S _ _
  ·exact BF S hlive a (vU S.mH a.bg a.Seq a.aV hq0 hsq.2 a.aN).1 S.si
 split
 ·unfold GN
  split
  ·exact xl (nh S _ _) (S.si.Vd _ _)
  split
  ·exact xl (nh S _ _) (S.si.Vd _ _)
  ·exact BF S hlive a (vU S.mH a.bg a.Seq a.aV hq0 hsq.2 a.aN).1 (S.si.Vd _ _)
 ·unfold Gj
  split
  ·exact nh S _ _
  ·exact BF S hlive a (Dj S.mH a.bg a.Seq a.aV hq0 hsq.2).1 (pF S.si _ _)
theorem O4 {sv:aG} (S:gn sv) (b:List UInt8):gn (kK sv b).1:=by
 unfold kK
 split
 ·exact S
 rename_i hl
 split
 ·exact⟨S.mH,S.si,S.seen,S.told,S.now,S.Gr⟩
 rename_i ht
 have hm:=(DQ (b:=b) (by simpa using ht)).1
 unfold su
 split
 ·exact S
 split
 ·exact S
 split
 ·exact MG (IU S _) (by show sv.Live=true;simpa using hl) hm
 ·exact S
theorem vI (sv:aG) (a:bf) (r:aI×bC) (f:bR→bR):(lZ sv a r f).1.gD=sv.gD∧(lZ sv a r f).1.od=sv.od∧(lZ sv a r f).1.Seen=sv.Seen:=by
 unfold lZ fO yv
 split
 ·obtain⟨T,e,_⟩:=B1 {sv with aB:=(cm sv.aB r.1).1,aY:=f sv.aY} a.bg {Oi r.2 with Seq:=a.Seq}
  rw[e]
  exact⟨rfl,rfl,rfl⟩
 ·exact⟨rfl,rfl,rfl⟩
theorem fZ (sv:aG) (a:bf) (t:bQ):(fO sv a t).1.gD=sv.gD∧(fO sv a t).1.od=sv.od∧(fO sv a t).1.Seen=sv.Seen∧(fO sv a t).1.aB=sv.aB∧(fO sv a t).1.aY=sv.aY∧(fO sv a t).1.Live=sv.Live:=by
 unfold fO yv
 obtain⟨T,e,_⟩:=B1 sv a.bg {t with Seq:=a.Seq}
 rw[e]
 exact⟨rfl,rfl,rfl,rfl,rfl,rfl⟩
theorem BL (sv:aG) (a:bf):(eA sv a).1.gD=sv.gD∧(eA sv a).1.od=sv.od∧(eA sv a).1.Seen=sv.Seen:=by
 have hs: ∀(sv:aG) t,(fO sv a t).1.gD=sv.gD∧(fO sv a t).1.od=sv.od∧(fO sv a t).1.Seen=sv.Seen:=fun sv t=>⟨(fZ sv a t).1,(fZ sv a t).2.1,(fZ sv a t).2.2.1⟩
 unfold eA
 split
 ·exact hs _ _
 split
 ·exact vI _ _ _ _
 split
 ·unfold AJ
  split
  ·exact hs _ _
  split
  ·unfold H8 yv
   obtain⟨T,e,_⟩:=B1 {sv with aY:=(gl sv.aY sv.gD (ck a)).1} (ck a).Client (D2 {sv with aY:=(gl sv.aY sv.gD (ck a)).1} (ck a))
   rw[e]
   exact⟨rfl,rfl,rfl⟩
  split
  ·exact hs {sv with aY:=(gl sv.aY sv.gD (ck a)).1} _
  ·exact⟨rfl,rfl,rfl⟩
 split
 ·unfold nQ
  split
  ·exact hs _ _
  ·exact vI _ _ _ _
 split
 ·unfold GN
  split
  ·exact hs sv _
  split
  ·exact hs sv _
  ·exact vI _ _ _ _
 ·unfold Gj
  split
  ·exact hs _ _
  ·exact vI _ _ _ _
set_option maxRecDepth 100000
open Go
theorem IK (y:UInt8) (m:Int) (h0:0<m) (h1:m≤256):0≤i8 (b8 ((i8 y).tmod m))∧i8 (b8 ((i8 y).tmod m))<m:=by
 have h:0≤i8 y:=Int.natCast_nonneg _
 have e:=Int.tmod_eq_emod_of_nonneg (b:=m) h
 have a:=Int.emod_nonneg (i8 y) (show m≠0 by omega)
 have b:=Int.emod_lt_of_pos (i8 y) h0
 rw[e,Rw a (by omega)]
 exact⟨a,b⟩
theorem KN {A B:Type} {Q:B→Prop} {L:List A} {g:A→D.Tree B} {e:D.Tree B} {m:Int} {n:Nat} {y:UInt8} (hn:L.length=n) (hm:m=n) (h1:0<n∧n≤256) (h: ∀x∈L,Mk (g x) Q):
  Mk (.ite (cL (i8 (b8 ((i8 y).tmod m))) n) (.opt (L[(i8 (b8 ((i8 y).tmod m))).toNat]?) g) e) Q:=by
 obtain⟨a,b⟩:=IK y m (by omega) (by omega)
 have hl:(i8 (b8 ((i8 y).tmod m))).toNat<L.length:=by omega
 refine Jd (fun _=> ?_) (fun hf=> ?_)
 ·exact jV (List.getElem?_eq_getElem hl) (h _ (List.getElem_mem hl))
 ·rw[ig a (by omega)]at hf;cases hf
theorem Jb {y:UInt8} {m:Int} (h0:0<m) (h1:m≤256):1≤ay (1+ay (i8 (b8 ((i8 y).tmod m))))∧ay (1+ay (i8 (b8 ((i8 y).tmod m))))≤m:=by
 obtain⟨a,b⟩:=IK y m h0 h1
 rw[bq (show-9223372036854775808≤i8 (b8 ((i8 y).tmod m))by omega) (by omega),bq (by omega) (by omega)]
 omega
structure IE (sv:aG) (a:bf):Prop where
 may:cH a=true
 sf:a.aP=sv.aB.S.aP∨a.aP=sv.aB.S.aP+1
 seq:a.Seq=1∨a.Seq≤seenAt sv a.bg+2
theorem Rf {f e q:Int} {nm:List UInt8} (hf:1≤f∧f≤3) (he:0≤e∧e≤1073741824) (hq:1≤q∧q≤1073741824) (hn:gk nm=true):cH ⟨1,f,e,q,nm,0,0,[]⟩=true:=by
 unfold cH
 simp only[cJ.2 hf,cJ.2 he,cJ.2 hq,Bool.true_and]
 show(pc 1 5 1&&(gk nm&&eP ⟨1,f,e,q,nm,0,0,[]⟩ ⟨1,f,e,q,nm,0,0,[]⟩))=true
 rw[hn,eN];rfl
theorem Py {f e q fl m:Int} (hf:1≤f∧f≤3) (he:0≤e∧e≤1073741824) (hq:1≤q∧q≤1073741824) (h6:1≤fl∧fl≤6) (hm:1≤m∧m≤2):cH ⟨2,f,e,q,[],fl,m,[]⟩=true:=by
 unfold cH
 simp only[cJ.2 hf,cJ.2 he,cJ.2 hq,Bool.true_and]
 show(pc 1 5 2&&((pc 1 6 fl&&pc 1 2 m)&&eP ⟨2,f,e,q,[],fl,m,[]⟩ ⟨2,f,e,q,[],fl,m,[]⟩))=true
 rw[cJ.2 h6,cJ.2 hm,eN];rfl
theorem AD {k f e q fl:Int} {ws:List aX} (hk:(k==3)=true∨(k==4)=true) (hf:1≤f∧f≤3) (he:0≤e∧e≤1073741824) (hq:1≤q∧q≤1073741824) (h6:1≤fl∧fl≤6) (hw:ws.all bU=true) (hl:(ws.length:Int)≤5) (h0:(ws.length:Int)>0∨(k==4)=true):cH ⟨k,f,e,q,[],fl,0,ws⟩=true:=by
 have g:((decide ((ws.length:Int)>0)||k==4):Bool)=true:=by
  rcases h0 with h0|h0
  ·rw[decide_eq_true h0];rfl
  ·rw[h0,Bool.or_true]
 have hk':k=3∨k=4:=hk.elim (fun h=>Or.inl (eq_of_beq h)) (fun h=>Or.inr (eq_of_beq h))
 unfold cH
 simp only[cJ.2 hf,cJ.2 he,cJ.2 hq,Bool.true_and]
 rcases hk' with rfl|rfl
 ·show(pc 1 5 3&&((decide ((ws.length:Int)≤5)&&((decide ((ws.length:Int)>0)||(3:Int)==4)&&(pc 1 6 fl&&ws.all bU)))&&eP ⟨3,f,e,q,[],fl,0,ws⟩ ⟨3,f,e,q,[],fl,0,ws⟩))=true
  rw[g,decide_eq_true hl,cJ.2 h6,hw,eN];rfl
 ·show(pc 1 5 4&&((decide ((ws.length:Int)≤5)&&((decide ((ws.length:Int)>0)||(4:Int)==4)&&(pc 1 6 fl&&ws.all bU)))&&eP ⟨4,f,e,q,[],fl,0,ws⟩ ⟨4,f,e,q,[],fl,0,ws⟩))=true
  rw[g,decide_eq_true hl,cJ.2 h6,hw,eN];rfl
theorem Rg {f e q fl:Int} (hf:1≤f∧f≤3) (he:0≤e∧e≤1073741824) (hq:1≤q∧q≤1073741824) (h6:1≤fl∧fl≤6):cH ⟨5,f,e,q,[],fl,0,[]⟩=true:=by
 unfold cH
 simp only[cJ.2 hf,cJ.2 he,cJ.2 hq,Bool.true_and]
 show(pc 1 5 5&&(pc 1 6 fl&&eP ⟨5,f,e,q,[],fl,0,[]⟩ ⟨5,f,e,q,[],fl,0,[]⟩))=true
 rw[cJ.2 h6,eN];rfl
theorem Tv {sv:aG} (S:gn sv) (he:sv.aB.S.aP<1073741824) (hs: ∀x∈sv.Seen,0≤x∧x≤1073741822) {d:List UInt8} (hd:d.length=4): ∃b,AL fuel sv d=some b∧ ∃a,b=cP a∧IE sv a:=by
 match d,hd with
 |[d0,d1,d2,d3],_=>
 have e0:=S.mH.e0
 unfold AL vH
 refine DW rfl ?_
 refine Q6 (P:=fun _=>True) ?_ fun r _=> ?_
 ·obtain⟨r,hr,_⟩:=KY _ (SX (eD [d0,d1,d2,d3] 1 4) (by unfold eD;simp))
  exact⟨r,hr,trivial⟩
 refine jV (x:=d1) rfl ?_
 refine jV (x:=d2) rfl ?_
 refine jV (x:=d3) rfl ?_
 have hF:=Jb (y:=d1) (m:=3) (by decide) (by decide)
 have hK:=Jb (y:=d2) (m:=5) (by decide) (by decide)
 have hL:=Jb (y:=d3) (m:=2) (by decide) (by decide)
 have hM:=Jb (y:=b8 (qE ((i8 d3).tdiv 2))) (m:=2) (by decide) (by decide)
 have hO: ∀y:UInt8,0≤ay (i8 (b8 ((i8 y).tmod 9)))∧ay (i8 (b8 ((i8 y).tmod 9)))<9:=fun y=>by
  obtain⟨a,b⟩:=IK y 9 (by decide) (by decide)
  rw[bq (show-9223372036854775808≤i8 (b8 ((i8 y).tmod 9))by omega) (by omega)]
  exact⟨a,b⟩
 generalize ay (1+ay (i8 (b8 ((i8 d1).tmod 3))))=F at hF⊢
 generalize ay (1+ay (i8 (b8 ((i8 d2).tmod 5))))=K at hK⊢
 generalize ay (1+ay (i8 (b8 ((i8 d3).tmod 2))))=L at hL⊢
 have put: ∀(A:bf),cH A=true→(A.aP=sv.aB.S.aP∨A.aP=sv.aB.S.aP+1)→(A.Seq=1∨A.Seq≤seenAt sv A.bg+2)→
   Mk (.opt (aZ fuel A) fun r=> .ret r) (fun b=> ∃a,b=cP a∧IE sv a):=fun A h1 h2 h3=>
  jV (wO A (by have:=(fb h1).2.2.2.2.1;omega) (by have:=(fb h1).2.2.2.2.2.2.2.1;omega)) (SQ ⟨A,rfl,h1,h2,h3⟩)
 have tail: ∀(A:Int→Int→bf) (els:D.Tree (List UInt8)),(∀e q,(A e q).aP=e∧(A e q).Seq=q∧(A e q).bg=F)→(∀e q,(0≤e∧e≤1073741824)→(1≤q∧q≤1073741824)→cH (A e q)=true)→
   Mk (.ite ((sv.Seen.length:Int)==3) (.ite (cL (ay (F-1)) sv.Seen.length) (.opt (sv.Seen[(ay (F-1)).toNat]?) fun y_7=>
   .opt ([d0,d1,d2,d3][0]?) fun y_8=>
   .ite (cL (i8 (b8 ((i8 (b8 (qE ((i8 y_8).tdiv 8)))).tmod 7))) 7) (.opt (([1,1,1,1,0,(-1),2]:List Int)[(i8 (b8 ((i8 (b8 (qE ((i8 y_8).tdiv 8)))).tmod 7))).toNat]?) fun y_9=>
    .opt ([d0,d1,d2,d3][0]?) fun y_10=>
    .ite ((i8 (b8 ((i8 y_10).tmod 32)))==31) (.opt (aZ fuel (A (ay (sv.aB.S.aP+1)) (imax 1 (ay (y_7+y_9))))) fun r_11=>
    .ret r_11)
    (.opt (aZ fuel (A sv.aB.S.aP (imax 1 (ay (y_7+y_9))))) fun r_12=>
    .ret r_12)) .fail) .fail) els) (fun b=> ∃a,b=cP a∧IE sv a):=fun A els hA hm=>by
  have hw:ay (F-1)=F-1:=bq (by omega) (by omega)
  have hlt:(F-1).toNat<sv.Seen.length:=by rw[S.seen];omega
  refine DW (by rw[S.seen];rfl) ?_
  rw[hw]
  refine DW (ig (by omega) (by rw[S.seen];omega)) ?_
  refine jV (List.getElem?_eq_getElem hlt) ?_
  have hy:=hs _ (List.getElem_mem hlt)
  have hsee:seenAt sv F=sv.Seen[(F-1).toNat]:=by unfold seenAt;rw[List.getElem?_eq_getElem hlt];rfl
  refine jV (x:=d0) rfl ?_
  refine KN (n:=7) rfl rfl (by decide) fun x hx=> ?_
  have hx': -1≤x∧x≤2:=by
   simp only[List.mem_cons,List.not_mem_nil,or_false]at hx
   omega
  refine jV (x:=d0) rfl ?_
  rw[bq (show-9223372036854775808≤sv.Seen[(F-1).toNat]+x by omega) (by omega),bq (show-9223372036854775808≤sv.aB.S.aP+1 by omega) (by omega)]
  have hq:1≤imax 1 (sv.Seen[(F-1).toNat]+x)∧imax 1 (sv.Seen[(F-1).toNat]+x)≤1073741824∧(imax 1 (sv.Seen[(F-1).toNat]+x)=1∨imax 1 (sv.Seen[(F-1).toNat]+x)≤seenAt sv F+2):=by
   rw[hsee];unfold imax;split<;>omega
  have fin: ∀e,(e=sv.aB.S.aP∨e=sv.aB.S.aP+1)→Mk (.opt (aZ fuel (A e (imax 1 (sv.Seen[(F-1).toNat]+x)))) fun r=> .ret r) (fun b=> ∃a,b=cP a∧IE sv a):=fun e h=>by
   obtain⟨g1,g2,g3⟩:=hA e (imax 1 (sv.Seen[(F-1).toNat]+x))
   exact put _ (hm _ _ (by omega) ⟨hq.1,hq.2.1⟩) (by rw[g1];exact h) (by rw[g2,g3];exact hq.2.2)
  exact Jd (fun _=>fin _ (Or.inr rfl)) (fun _=>fin _ (Or.inl rfl))
 have hwr: ∀y:UInt8,([(⟨ay (i8 (b8 ((i8 y).tmod 9))),[119,114]⟩:aX)]).all bU=true:=fun y=>by
  have:=hO y
  have h1:bU ⟨ay (i8 (b8 ((i8 y).tmod 9))),[119,114]⟩=true:=ji.2 ⟨this.1,by simp,by simp,by show ay (i8 (b8 ((i8 y).tmod 9)))≤(24:Int)-2;omega⟩
  simp only[List.all_cons,List.all_nil,h1,Bool.and_self]
 have hk:K=1∨K=2∨K=3∨K=4∨K=5:=by omega
 rcases hk with rfl|rfl|rfl|rfl|rfl
 ·refine DW rfl ?_
  refine jV (x:=d3) rfl ?_
  refine KN (n:=3) rfl rfl (by decide) fun x hx=> ?_
  refine tail (fun e q=>bf.mk 1 F e q x 0 0 []) _ (fun e q=>⟨rfl,rfl,rfl⟩) fun e q h1 h2=>Rf hF h1 h2 ?_
  simp only[List.mem_cons,List.not_mem_nil,or_false]at hx
  rcases hx with rfl|rfl|rfl<;>rfl
 ·refine xP rfl ?_
  refine DW rfl ?_
  refine jV (x:=d3) rfl ?_
  exact tail (fun e q=>bf.mk 2 F e q [] L (ay (1+ay (i8 (b8 ((i8 (b8 (qE ((i8 d3).tdiv 2)))).tmod 2))))) []) _ (fun e q=>⟨rfl,rfl,rfl⟩) fun e q h1 h2=>Py hF h1 h2 (by omega) hM
 ·refine xP rfl ?_
  refine xP rfl ?_
  refine DW rfl ?_
  refine jV (x:=d3) rfl ?_
  refine xP rfl ?_
  exact tail (fun e q=>bf.mk 3 F e q [] L 0 [(aX.mk (ay (i8 (b8 ((i8 d3).tmod 9)))) [119,114])]) _ (fun e q=>⟨rfl,rfl,rfl⟩) fun e q h1 h2=>AD (Or.inl rfl) hF h1 h2 (by omega) (hwr d3) (by simp) (Or.inl (by simp))
 ·refine xP rfl ?_
  refine xP rfl ?_
  refine xP rfl ?_
  refine DW rfl ?_
  refine jV (x:=d3) rfl ?_
  refine DW rfl ?_
  refine jV (x:=d0) rfl ?_
  refine Jd (fun _=> ?_) (fun _=> ?_)
  ·exact tail (fun e q=>bf.mk 4 F e q [] L 0 []) _ (fun e q=>⟨rfl,rfl,rfl⟩) fun e q h1 h2=>AD (Or.inr rfl) hF h1 h2 (by omega) rfl (by simp) (Or.inr rfl)
  ·exact tail (fun e q=>bf.mk 4 F e q [] L 0 [(aX.mk (ay (i8 (b8 ((i8 d3).tmod 9)))) [119,114])]) _ (fun e q=>⟨rfl,rfl,rfl⟩) fun e q h1 h2=>AD (Or.inr rfl) hF h1 h2 (by omega) (hwr d3) (by simp) (Or.inr rfl)
 ·refine xP rfl ?_
  refine xP rfl ?_
  refine xP rfl ?_
  refine xP rfl ?_
  exact tail (fun e q=>bf.mk 5 F e q [] L 0 []) _ (fun e q=>⟨rfl,rfl,rfl⟩) fun e q h1 h2=>Rg hF h1 h2 (by omega)
open Go
def IT:aG:=⟨⟨⟨List.replicate 19 dj,[],0,false⟩,kv⟩,⟨[],[]⟩,[0,0,0],[⟨0,0,0,0,0,0,0,0,[]⟩,⟨0,0,0,0,0,0,0,0,[]⟩,⟨0,0,0,0,0,0,0,0,[]⟩],0,0,0,true,0⟩
theorem QC:vh fuel 0=some IT:=by rw[pn];kernel_rfl
theorem FY:D3 fuel=some true:=by rw[pn];kernel_rfl
theorem Rz:Good 1073741824 kv:=⟨Aw.nf,Aw.nm,Aw.e0,Aw.e1,Aw.fs,Aw.on,fun m hm=>by
 have:=Aw.ms m hm
 unfold oP at*
 omega⟩
theorem O3 (A:Int) (h0:0≤A) (h1:A≤900):gn {IT with aB:=⟨⟨List.replicate 19 dj,[],A,false⟩,kv⟩}:=by
 refine⟨Rz,⟨⟨fun x hx=>(by cases hx),List.Pairwise.nil⟩,fun w hw=>(by cases hw),Nat.zero_le _⟩,rfl,rfl,⟨Int.le_refl 0,by show(0:Int)≤9223372036854775807;omega⟩,fun _=>⟨fun x hx=> ?_,List.length_replicate ..,rfl,rfl,⟨h0,h1⟩,P6⟩⟩
 rw[List.eq_of_mem_replicate hx];rfl
theorem y6 {α:Type} (a:List α) (h:a.length<1000000) (step:Int→Option (Int ⊕ (Unit ⊕ Unit))) (h1: ∀(i:Nat) (hi:i<a.length),step (i:Int)=some (.inl ((i+1:Nat):Int))) (h2:step (a.length:Int)=some (.inr (.inr ()))):iter step fuel 0=some (.inr ()):=by
 obtain⟨x,e,hx⟩:=dR (step:=step) (fun k v=> ∃i:Nat,v=(i:Int)∧i+k=a.length) (fun r=>r= .inr ()) (fun k v hI=>by
  obtain⟨i,rfl,hk⟩:=hI
  by_cases hlt:i<a.length
  ·exact⟨_,h1 i hlt,k-1,by omega,i+1,rfl,by omega⟩
  ·obtain rfl:i=a.length:=by omega
   exact⟨_,h2,rfl⟩) a.length 0 fuel ⟨0,rfl,by omega⟩ (cr (by omega))
 rw[e,hx]
theorem BO (a:List bQ) (h:a.length<1000000):l9 fuel a a=some true:=by
 unfold l9 nE rH
 simp only[aE,get_ite,aD,aF]
 rw[eq_int rfl,cond_false,y6 a h (jd a a) (fun i hi=>by
  simp only[jd,iy,get_ite,aE,aD,aC]
  rw[da hi,bP hi,Int.toNat_natCast,List.getElem?_eq_getElem hi,aw,aw,(QA _ _).2 rfl,bG (by omega)];rfl) (by
  simp only[jd,iy,get_ite,aE,aD,aC]
  rw[db];rfl)]
 rfl
theorem PB (x:aS):aS.ee x x=true:=by simp[aS.ee]
theorem Qq (x:bA):bA.ee x x=true:=by simp[bA.ee]
theorem G8 (a:List aS) (h:a.length<1000000):oK fuel a a=some true:=by
 unfold oK mB qy
 simp only[aE,get_ite,aD,aF]
 rw[eq_int rfl,cond_false,y6 a h (iA a a) (fun i hi=>by
  simp only[iA,gQ,get_ite,aE,aD,aC]
  rw[da hi,bP hi,Int.toNat_natCast,List.getElem?_eq_getElem hi,aw,aw,PB,bG (by omega)];rfl) (by
  simp only[iA,gQ,get_ite,aE,aD,aC]
  rw[db];rfl)]
 rfl
theorem IW (a:List bA) (h:a.length<1000000):qe fuel a a=some true:=by
 unfold qe nD rG
 simp only[aE,get_ite,aD,aF]
 rw[eq_int rfl,cond_false,y6 a h (jc a a) (fun i hi=>by
  simp only[jc,ix,get_ite,aE,aD,aC]
  rw[da hi,bP hi,Int.toNat_natCast,List.getElem?_eq_getElem hi,aw,aw,Qq,bG (by omega)];rfl) (by
  simp only[jc,ix,get_ite,aE,aD,aC]
  rw[db];rfl)]
 rfl
theorem Kt {d:bR} (h:fv d):rI fuel d d=some true:=by
 unfold rI oL
 simp only[aE,get_ite,aD,G8 d.bD (by have:=h.ie.short;omega),IW d.cW (by have:=h.PJ;omega),aw,cond_true]
theorem Ks {d:aT} (h:d.bz.length≤1000) (hw:d.bM.length≤1000):CW fuel d d=some true:=by
 unfold CW xE
 simp only[aE,get_ite,aD,J0 d.bz d.bz h,Hq d.bM hw,aw,beq_self_eq_true,cond_true]
theorem IX {s:bZ} (h:s.D.bz.length≤1000) (hw:s.D.bM.length≤1000) (hg:Good 1073741824 s.S):rB fuel s s=some true:=by
 unfold rB oF
 simp only[aE,get_ite,aD,Ks h hw,GW s.S (by rw[hg.nm];decide) (by rw[hg.nf];decide),aw,cond_true]
theorem G7 {sv:aG} (S:gn sv) (h:sv.aB.D.bz.length≤1000) (hw:sv.aB.D.bM.length≤1000):iJ fuel sv sv=some true:=by
 unfold iJ mA qx
 simp only[aE,get_ite,aD,aF,BO sv.Told (by rw[S.told];decide),IX h hw S.mH,Kt S.si,aw]
 rw[eq_int rfl,cond_false,y6 sv.Seen (by rw[S.seen];decide) (iz sv sv) (fun i hi=>by
  simp only[iz,gP,get_ite,aE,aD,aC]
  rw[da hi,bP hi,Int.toNat_natCast,List.getElem?_eq_getElem hi,aw,aw,bG (by have:=S.seen;omega)];simp) (by
  simp only[iz,gP,get_ite,aE,aD,aC]
  rw[db];rfl)]
 simp only[aw,cond_true,beq_self_eq_true,Bool.not_true,cond_false]
 rfl
theorem DT {sv:aG} (S:gn sv) (hl:sv.Live=true):iJ fuel sv sv=some true:=by
 obtain⟨_,h2,h3,_⟩:=S.Gr hl
 exact G7 S (by rw[h2];decide) (by rw[h3];decide)
theorem MV (s:aI) (c q:Int) (nm:List UInt8):(rN s c q nm).1.aP=s.aP:=by
 unfold rN kW vf
 repeat' split
 all_goals rfl
theorem Lm (s:aI) (c q n:Int) (l:List aX):(j0 s c q n l).1.aP=s.aP:=by
 unfold j0 kW vf
 repeat' split
 all_goals rfl
theorem Nh (s:aI) (c q n:Int):(sb s c q n).1.aP=s.aP:=by
 unfold sb kW vf
 repeat' split
 all_goals rfl
open Go
theorem q8 {sv:aG} (hl:sv.Live=true) {a:bf} (ha:cH a=true):kK sv (cP a)=su sv a:=by
 unfold kK
 rw[if_neg (by simp[hl]),xe ha,if_neg (by simp)]
theorem NJ {sv:aG} (hl:sv.Live=false) (b:List UInt8):kK sv b=(sv,[]):=by
 unfold kK;rw[if_pos hl]
def Change (s:aI) (a:bf) (r:aI×bC):Prop:=r=rN s a.bg a.Seq a.Name∨r=j0 s a.bg a.Seq a.aV a.aN∨r=sb s a.bg a.Seq a.aV
theorem Change.mH {s:aI} {a:bf} {r:aI×bC} (h:Change s a r) (hs:Good 1073741824 s) (ha:cH a=true):Good 1073741824 r.1:=by
 obtain⟨_,_,_,hsq,_⟩:=fb ha
 rcases h with h|h|h<;>rw[h]
 ·exact(Di hs _ _ (by omega) hsq.2 _).1
 ·exact(vU hs _ _ _ (by omega) hsq.2 _).1
 ·exact(Dj hs _ _ _ (by omega) hsq.2).1
theorem Change.sf {s:aI} {a:bf} {r:aI×bC} (h:Change s a r):r.1.aP=s.aP:=by
 rcases h with h|h|h<;>rw[h]
 ·exact MV _ _ _ _
 ·exact Lm _ _ _ _ _
 ·exact Nh _ _ _ _
def JZ (sv:aG) (a:bf) (p:E4):Prop:=
 (p.1.aB=sv.aB∧p.1.Live=sv.Live)∨ ∃r,Change sv.aB.S a r∧p.1.aB=(cm sv.aB r.1).1∧p.1.Live=(cm sv.aB r.1).2∧((cm sv.aB r.1).2=false→p.2=[]∧p.1={sv with aB:=(cm sv.aB r.1).1,Live:=false})
theorem sF (sv:aG) (a:bf) (t:bQ):JZ sv a (fO sv a t):=Or.inl ⟨(fZ sv a t).2.2.2.1,(fZ sv a t).2.2.2.2.2⟩
theorem sG {sv:aG} (hl:sv.Live=true) {a:bf} {r:aI×bC} (h:Change sv.aB.S a r) (f:bR→bR):JZ sv a (lZ sv a r f):=by
 refine Or.inr ⟨r,h,?_⟩
 unfold lZ
 split
 ·rename_i hb
  obtain⟨_,_,_,h4,_,h6⟩:=fZ {sv with aB:=(cm sv.aB r.1).1,aY:=f sv.aY} a (Oi r.2)
  exact⟨h4,h6.trans (hl.trans hb.symm),fun e=>by rw[hb]at e;cases e⟩
 ·rename_i hb
  exact⟨rfl,by simpa using hb,fun _=>⟨rfl,rfl⟩⟩
theorem zD {sv:aG} (hl:sv.Live=true) (a:bf):JZ sv a (eA sv a):=by
 unfold eA
 split
 ·exact sF _ _ _
 split
 ·exact sG hl (Or.inl rfl) _
 split
 ·unfold AJ
  split
  ·exact sF _ _ _
  split
  ·unfold H8 yv
   obtain⟨T,e,_⟩:=B1 {sv with aY:=(gl sv.aY sv.gD (ck a)).1} (ck a).Client (D2 {sv with aY:=(gl sv.aY sv.gD (ck a)).1} (ck a))
   rw[e]
   exact Or.inl ⟨rfl,rfl⟩
  split
  ·obtain⟨_,_,_,h4,_,h6⟩:=fZ {sv with aY:=(gl sv.aY sv.gD (ck a)).1} a (Hl (gl sv.aY sv.gD (ck a)).2.2.2)
   exact Or.inl ⟨h4,h6⟩
  ·exact Or.inl ⟨rfl,rfl⟩
 split
 ·unfold nQ
  split
  ·exact sF _ _ _
  ·exact sG hl (Or.inr (Or.inl rfl)) _
 split
 ·unfold GN
  split
  ·exact Or.inl ⟨(fZ sv a _).2.2.2.1,(fZ sv a _).2.2.2.2.2⟩
  split
  ·exact Or.inl ⟨(fZ sv a _).2.2.2.1,(fZ sv a _).2.2.2.2.2⟩
  ·exact sG hl (Or.inr (Or.inl rfl)) _
 ·unfold Gj
  split
  ·exact sF _ _ _
  ·exact sG hl (Or.inr (Or.inr rfl)) _
theorem yO (sv:aG) (a:bf):((su sv a).1=sv∧((su sv a).2=[]∨(∃t,(su sv a).2=[t]∧t.Kind≠1)∨(kB sv a).1=3))∨((kB sv a).1=4∧su sv a=eA (um sv a) a):=by
 unfold su
 split
 ·exact Or.inl ⟨rfl,Or.inr (Or.inl ⟨_,rfl,by show(3:Int)≠1;decide⟩)⟩
 split
 ·rename_i h;exact Or.inl ⟨rfl,Or.inr (Or.inr h)⟩
 split
 ·rename_i h;exact Or.inr ⟨h,rfl⟩
 ·exact Or.inl ⟨rfl,Or.inl rfl⟩
theorem PD {sv:aG} {a:bf} (h:(kB sv a).1=4):a.aP=sv.aB.S.aP∧seenAt sv a.bg≤a.Seq:=by
 unfold kB at h
 split at h
 ·cases h
 rename_i h1
 split at h
 ·cases h
 rename_i h2
 exact⟨Classical.not_not.1 h1,by omega⟩
structure OO (N:Int) (sv:aG):Prop where
 ok:gn sv
 sf:sv.aB.S.aP=0
 seen: ∀x∈sv.Seen,0≤x∧x≤N
theorem IS {sv:aG} (S:gn sv) (hl:sv.Live=true) {a:bf} (ha:cH a=true) {p:E4} (h:JZ sv a p):p.1.aB.S.aP=sv.aB.S.aP:=by
 rcases h with h|⟨r,hr,e,_⟩
 ·rw[h.1]
 ·rw[e,(qZ (S.Gr hl) S.mH (hr.mH S.mH ha)).2.1]
  cases (cm sv.aB r.1).2
  ·rfl
  ·exact hr.sf
theorem OO.comes {N:Int} (hN:0≤N) {sv:aG} (A:OO N sv) {a:bf} (ha:IE sv a):OO (N+2) (kK sv (cP a)).1:=by
 cases hl:sv.Live with
 |false=>rw[NJ hl];exact⟨A.ok,A.sf,fun x hx=>by have:=A.seen x hx;omega⟩
 |true=>
  refine⟨O4 A.ok _,?_,?_⟩
  ·rw[q8 hl ha.may]
   rcases yO sv a with h|h
   ·rw[h.1];exact A.sf
   ·rw[h.2]
    exact(IS (IU A.ok a) hl ha.may (zD (sv:=um sv a) hl a)).trans A.sf
  ·rw[q8 hl ha.may]
   rcases yO sv a with h|h
   ·rw[h.1];exact fun x hx=>by have:=A.seen x hx;omega
   ·rw[h.2,(BL (um sv a) a).2.2]
    intro x hx
    rcases List.mem_or_eq_of_mem_set hx with hx|hx
    ·have:=A.seen x hx;omega
    ·have hs:=(fb ha.may).2.2.2.1
     have hf:=(fb ha.may).2.1
     have hlt:(a.bg-1).toNat<sv.Seen.length:=by rw[A.ok.seen];omega
     have:=A.seen _ (List.getElem_mem hlt)
     have hsee:seenAt sv a.bg=sv.Seen[(a.bg-1).toNat]:=by unfold seenAt;rw[List.getElem?_eq_getElem hlt];rfl
     have:=ha.seq
     omega
open Go
def Tz (T:List bQ) (a:bf) (p:E4):Prop:=
 (p.1.Told=T∧ ∀t,p.2=[t]→t.Kind≠1)∨ ∃t,t.Seq=a.Seq∧p.1.Told=T.set (a.bg-1).toNat t∧p.2=[t]
theorem H0 {sv:aG} (hT:sv.Told.length=3) {c:Int} (hc:1≤c∧c≤3) {t:bQ} (h:(gp sv c).Seq≤t.Seq):sR sv c t={sv with Told:=sv.Told.set (c-1).toNat (Hw sv c t)}:=by
 have hlt:(c-1).toNat<sv.Told.length:=by omega
 have e:gp sv c=sv.Told[(c-1).toNat]:=by unfold gp;rw[List.getElem?_eq_getElem hlt];rfl
 rw[e]at h
 unfold sR
 rw[List.getElem?_eq_getElem hlt]
 exact if_pos h
theorem oE {sv:aG} (hT:sv.Told.length=3) {a:bf} (hc:1≤a.bg∧a.bg≤3) (h:(gp sv a.bg).Seq≤a.Seq) (t:bQ):Tz sv.Told a (fO sv a t):=by
 refine Or.inr ⟨Hw sv a.bg {t with Seq:=a.Seq},rfl,?_,rfl⟩
 unfold fO yv
 rw[H0 hT hc (t:={t with Seq:=a.Seq}) h]
theorem y7 {sv:aG} (hT:sv.Told.length=3) {a:bf} (hc:1≤a.bg∧a.bg≤3) (h:(gp sv a.bg).Seq≤a.Seq) (r:aI×bC) (f:bR→bR):Tz sv.Told a (lZ sv a r f):=by
 unfold lZ
 split
 ·exact oE (sv:={sv with aB:=(cm sv.aB r.1).1,aY:=f sv.aY}) hT hc h _
 ·exact Or.inl ⟨rfl,fun t e=>by cases e⟩
theorem HI {sv:aG} (hT:sv.Told.length=3) {a:bf} (hc:1≤a.bg∧a.bg≤3) (h:(gp sv a.bg).Seq≤a.Seq) (t:bQ) (d:bR):Tz sv.Told a ({(fO sv a t).1 with aY:=d},(fO sv a t).2):=by
 rcases oE hT hc h t with k|⟨u,k1,k2,k3⟩
 ·exact Or.inl k
 ·exact Or.inr ⟨u,k1,k2,k3⟩
theorem Ku {sv:aG} (hT:sv.Told.length=3) {a:bf} (hc:1≤a.bg∧a.bg≤3) (h:(gp sv a.bg).Seq≤a.Seq):Tz sv.Told a (eA sv a):=by
 unfold eA
 split
 ·exact oE hT hc h _
 split
 ·exact y7 hT hc h _ _
 split
 ·unfold AJ
  split
  ·exact oE hT hc h _
  split
  ·refine Or.inr ⟨Hw {sv with aY:=(gl sv.aY sv.gD (ck a)).1} a.bg (D2 {sv with aY:=(gl sv.aY sv.gD (ck a)).1} (ck a)),?_,?_,rfl⟩
   ·unfold Hw D2
    split<;>rfl
   ·unfold H8 yv
    have hh:(gp {sv with aY:=(gl sv.aY sv.gD (ck a)).1} (ck a).Client).Seq≤(D2 {sv with aY:=(gl sv.aY sv.gD (ck a)).1} (ck a)).Seq:=by
     refine Int.le_trans h (Int.le_of_eq ?_)
     unfold D2
     split<;>rfl
    rw[H0 (sv:={sv with aY:=(gl sv.aY sv.gD (ck a)).1}) hT (c:=(ck a).Client) hc hh]
    rfl
  split
  ·exact oE (sv:={sv with aY:=(gl sv.aY sv.gD (ck a)).1}) hT hc h _
  ·refine Or.inl ⟨rfl,fun t e=> ?_⟩
   have:t∈(gl sv.aY sv.gD (ck a)).2.2.1.map (pg sv a.aV):=by
    have e':(gl sv.aY sv.gD (ck a)).2.2.1.map (pg sv a.aV)=[t]:=e
    rw[e'];exact List.mem_singleton.2 rfl
   obtain⟨c,_,hc⟩:=List.mem_map.1 this
   rw[←hc]
   show(2:Int)≠1
   decide
 split
 ·unfold nQ
  split
  ·exact oE hT hc h _
  ·exact y7 hT hc h _ _
 split
 ·unfold GN
  split
  ·exact HI hT hc h _ _
  split
  ·exact HI hT hc h _ _
  ·exact y7 hT hc h _ _
 ·unfold Gj
  split
  ·exact oE hT hc h _
  ·exact y7 hT hc h _ _
structure Et (N:Int) (sv:aG):Prop where
 asked:OO N sv
 live:sv.Live=true
 arm:sv.aB.D.im=0
 told: ∀c,1≤c∧c≤3→(gp sv c).Seq≤seenAt sv c
theorem Fg {sv:aG} {T:List bQ} {c d:Int} {t:bQ} (e:sv.Told=T.set (d-1).toNat t) (hT:T.length=3) (hc:1≤c∧c≤3) (hd:1≤d∧d≤3):gp sv c=if c=d then t else(T[(c-1).toNat]?).getD ⟨0,0,0,0,0,0,0,0,[]⟩:=by
 unfold gp
 rw[e]
 split
 ·rename_i h;subst h
  rw[List.getElem?_set_self (by omega)];rfl
 ·rw[List.getElem?_set_ne (by omega)]
theorem MJ {sv:aG} {L:List Int} {c d:Int} {q:Int} (e:sv.Seen=L.set (d-1).toNat q) (hL:L.length=3) (hc:1≤c∧c≤3) (hd:1≤d∧d≤3):seenAt sv c=if c=d then q else(L[(c-1).toNat]?).getD 0:=by
 unfold seenAt
 rw[e]
 split
 ·rename_i h;subst h
  rw[List.getElem?_set_self (by omega)];rfl
 ·rw[List.getElem?_set_ne (by omega)]
theorem Pp {N:Int} (hN:0≤N) {sv:aG} (O:Et N sv) {a:bf} (ha:IE sv a):
  Et (N+2) (kK sv (cP a)).1∧(∀t,(kK sv (cP a)).2=[t]→t.Kind=1→kK (kK sv (cP a)).1 (cP a)=kK sv (cP a)):=by
 have A':=O.asked.comes hN ha
 have hfr:=(fb ha.may).2.1
 have hT:=O.asked.ok.told
 have hS:=O.asked.ok.seen
 rw[q8 O.live ha.may]at A'⊢
 rcases yO sv a with h|⟨hj,h⟩
 ·refine⟨⟨A',by rw[h.1];exact O.live,by rw[h.1];exact O.arm,by rw[h.1];exact O.told⟩,fun t ht hk=> ?_⟩
  rw[h.1,q8 O.live ha.may]
 ·obtain⟨hep,hsq⟩:=PD hj
  have h0:(gp (um sv a) a.bg).Seq≤a.Seq:=Int.le_trans (O.told a.bg hfr) hsq
  have hsaid:=Ku (sv:=um sv a) hT hfr h0
  have hst:=zD (sv:=um sv a) O.live a
  have hsee:=(BL (um sv a) a).2.2
  rw[h]at A'⊢
  have hlv:(eA (um sv a) a).1.Live=true∧(eA (um sv a) a).1.aB.D.im=0:=by
   rcases hst with k|⟨r,hr,k1,k2,_⟩
   ·rw[k.1,k.2];exact⟨O.live,O.arm⟩
   ·have S:=O.asked.ok
    obtain⟨_,_,_,_,hc⟩:=qZ (S.Gr O.live) S.mH (hr.mH S.mH ha.may)
    obtain⟨g1,g2⟩:=hc O.arm
    rw[k1,k2]
    exact⟨g1,g2⟩
  have hsa: ∀c,1≤c∧c≤3→seenAt (eA (um sv a) a).1 c=if c=a.bg then a.Seq else seenAt sv c:=fun c hc=>MJ hsee hS hc hfr
  have htold: ∀c,1≤c∧c≤3→(gp (eA (um sv a) a).1 c).Seq≤seenAt (eA (um sv a) a).1 c:=fun c hc=>by
   rw[hsa c hc]
   have hold:=O.told c hc
   rcases hsaid with k|⟨t,k1,k2,_⟩
   ·have e:gp (eA (um sv a) a).1 c=gp sv c:=by unfold gp;rw[k.1];rfl
    rw[e]
    split
    ·rename_i hcf;subst hcf;omega
    ·exact hold
   ·rw[Fg k2 hT hc hfr]
    split
    ·omega
    ·exact hold
  refine⟨⟨A',hlv.1,hlv.2,htold⟩,fun t ht hk=> ?_⟩
  rcases hsaid with k|⟨u,k1,k2,k3⟩
  ·exact absurd hk (k.2 t ht)
  ·have hep':(eA (um sv a) a).1.aB.S.aP=sv.aB.S.aP:=A'.sf.trans O.asked.sf.symm
   rw[q8 hlv.1 ha.may]
   have e1:gp (eA (um sv a) a).1 a.bg=u:=by rw[Fg k2 hT hfr hfr,if_pos rfl]
   have e2:seenAt (eA (um sv a) a).1 a.bg=a.Seq:=by rw[hsa _ hfr,if_pos rfl]
   have ej:kB (eA (um sv a) a).1 a=(3,u):=by
    unfold kB
    rw[if_neg (by rw[hep',hep];simp),if_neg (by rw[e2];omega),if_pos (by rw[e1,k1]),e1]
   unfold su
   rw[ej]
   simp only
   rw[if_neg (by decide),if_pos trivial]
   exact Prod.ext rfl k3.symm
theorem KL:Et (2*((0:Nat):Int)) IT:=by
 rw[show(2*((0:Nat):Int))=0 from rfl]
 refine⟨⟨O3 0 (by decide) (by decide),rfl,fun x hx=> ?_⟩,rfl,rfl,fun c hc=> ?_⟩
 ·have:x∈[(0:Int),0,0]:=hx
  simp only[List.mem_cons,List.not_mem_nil,or_false,or_self]at this
  omega
 ·have:c=1∨c=2∨c=3:=by omega
  rcases this with rfl|rfl|rfl<;>exact Int.le_refl _
theorem zv (l:List (List UInt8)) (which:UInt8) (hl:l.length≤1048576∧ ∀x∈l,x.length=4):uD fuel l which=some true:=by
 unfold uD mF
 simp only[aE,get_ite,aD,aC,aF,FY,QC,aw,Bool.not_true,cond_false]
 by_cases hb:(l.length:Int)>30
 ·rw[decide_eq_true hb];rfl
 rw[decide_eq_false hb,cond_false]
 unfold qA
 have h30:l.length≤30:=by omega
 have put_len: ∀a,(cP a).length≤dy:=fun a=>by have:=FA a;rw[cw];omega
 obtain⟨x,e,s,sent,hx,O,hlen,hsent⟩:=dR (step:=lH fuel l which) (fun k v=> ∃i:Nat,v.1=(i:Int)∧i+k=l.length∧Et (2*(i:Int)) v.2.1∧v.2.2.length=i∧ ∀c∈v.2.2,∃a,c=cP a∧cH a=true) (fun x=> ∃s sent,x= .inr (s,sent)∧Et 60 s∧sent.length=l.length∧ ∀c∈sent,∃a,c=cP a∧cH a=true) (fun k v hI=>by
  obtain⟨v1,s,sent⟩:=v
  obtain⟨i,hi,hk,O,hlen,hsent⟩:=hI
  simp only at hi O hlen hsent
  subst hi
  simp only[lH,kz,get_ite,aE,aD,aC]
  by_cases hlt:i<l.length
  ·rw[da hlt,bP hlt,Int.toNat_natCast,List.getElem?_eq_getElem hlt,aw]
   obtain⟨b,eb,a,rfl,ha⟩:=Tv O.asked.ok (by rw[O.asked.sf];decide) (fun x hx=>by have:=O.asked.seen x hx;omega) (hl.2 _ (List.getElem_mem hlt))
   obtain⟨O',hag⟩:=Pp (by omega) O ha
   simp only[eb,aw,CK O.asked.ok (cP a) (put_len a),cond_true]
   have hnext: ∀s',Et (2*(i:Int)+2) s'→Sum.elim (fun v':Int×aG×List (List UInt8)=> ∃k',k'<k∧ ∃j:Nat,v'.1=(j:Int)∧j+k'=l.length∧Et (2*(j:Int)) v'.2.1∧v'.2.2.length=j∧ ∀c∈v'.2.2,∃a,c=cP a∧cH a=true) (fun x:(aG×aG×aG×List (List UInt8)) ⊕ (aG×List (List UInt8))=> ∃s sent,x= .inr (s,sent)∧Et 60 s∧sent.length=l.length∧ ∀c∈sent,∃a,c=cP a∧cH a=true) (.inl (((i+1:Nat):Int),s',sent++[cP a])):=fun s' O'=>by
    refine⟨k-1,by omega,i+1,rfl,by omega,?_,by simp[hlen],fun c hc=> ?_⟩
    ·have:(2*((i+1:Nat):Int))=2*(i:Int)+2:=by omega
     rw[this];exact O'
    ·rcases List.mem_append.1 hc with hc|hc
     ·exact hsent c hc
     ·exact⟨a,List.mem_singleton.1 hc,ha.may⟩
   rw[decide_eq_true (show sent.length+1≤dy by rw[cw];omega),bG (by omega)]
   simp only[cond_true]
   by_cases hq:(kK s (cP a)).2.length=1
   ·obtain⟨t,ht⟩:=List.length_eq_one_iff.1 hq
    rw[ht]
    by_cases hk1:t.Kind=1
    ·have hag:=hag t ht hk1
     have hlive:=O'.live
     simp only[CK O'.asked.ok (cP a) (put_len a),aw,hag,DT O'.asked.ok hlive]
     rw[ht,BO [t] (by simp)]
     simp only[aw]
     have:(t.Kind==1)=true:=et hk1
     simp only[List.length_cons,List.length_nil,List.getElem?_cons_zero,aw,this,cond_true]
     exact⟨_,rfl,hnext _ O'⟩
    ·have:(t.Kind==1)=false:=di hk1
     simp only[List.length_cons,List.length_nil,List.getElem?_cons_zero,aw,this,cond_true,cond_false]
     exact⟨_,rfl,hnext _ O'⟩
   ·rw[di (show ¬((kK s (cP a)).2.length:Int)=1 by omega)]
    exact⟨_,rfl,hnext _ O'⟩
  ·obtain rfl:i=l.length:=by omega
   rw[db]
   refine⟨_,rfl,s,sent,rfl,?_,hlen,hsent⟩
   exact⟨⟨O.asked.ok,O.asked.sf,fun x hx=>by have:=O.asked.seen x hx;omega⟩,O.live,O.arm,O.told⟩) l.length (0,IT,[]) fuel ⟨0,rfl,by omega,KL,rfl,fun c hc=>(by cases hc)⟩ (cr (by omega))
 rw[e,aw,hx]
 simp only[fu]
 by_cases h0:l.length=0
 ·rw[et (show(sent.length:Int)=0 by omega)];rfl
 rw[di (show ¬(sent.length:Int)=0 by omega)]
 simp only[cond_false]
 have hw0:0≤i8 which:=Int.natCast_nonneg _
 have hw1:i8 which<256:=by have:=which.toNat_lt;unfold i8;omega
 have em:=Int.tmod_eq_emod_of_nonneg (b:=(sent.length:Int)) hw0
 have a1:=Int.emod_nonneg (i8 which) (show(sent.length:Int)≠0 by omega)
 have a2:=Int.emod_lt_of_pos (i8 which) (show(0:Int)<sent.length by omega)
 rw[bq (by omega) (by omega),em,ig a1 (by omega),List.getElem?_eq_getElem (show(i8 which%(sent.length:Int)).toNat<sent.length by omega)]
 obtain⟨a,ea,ha⟩:=hsent _ (List.getElem_mem (show(i8 which%(sent.length:Int)).toNat<sent.length by omega))
 have hfr:=(fb ha).2.1
 simp only[cond_true,aw,ea,CY (cP a) (put_len a),xe ha,Bool.not_true,cond_false]
 have hS:=O.asked.ok.seen
 rw[show((s.Seen.length:Int) != 3)=false by rw[hS];rfl]
 by_cases hep:a.aP=s.aB.S.aP
 case neg=>rw[show(a.aP != s.aB.S.aP)=true by simp[hep]];rfl
 rw[show(a.aP != s.aB.S.aP)=false by simp[hep],bq (by omega) (by omega),ig (by omega) (by omega),List.getElem?_eq_getElem (show(a.bg-1).toNat<s.Seen.length by omega)]
 simp only[cond_true,cond_false,aw]
 by_cases hsq:a.Seq≥s.Seen[(a.bg-1).toNat]'(by omega)
 ·rw[decide_eq_true hsq];rfl
 rw[decide_eq_false hsq,cond_false,CK O.asked.ok (cP a) (put_len a),aw]
 have hsee:seenAt s a.bg=s.Seen[(a.bg-1).toNat]'(by omega):=by unfold seenAt;rw[List.getElem?_eq_getElem (by omega)];rfl
 have ej:(kB s a).1=2:=by
  unfold kB
  rw[if_neg (by simp[hep]),if_pos (by rw[hsee];omega)]
 have ec:kK s (cP a)=(s,[]):=by
  rw[q8 O.live ha]
  unfold su
  rw[ej]
  rfl
 rw[ec]
 simp only
 rw[DT O.asked.ok O.live,aw]
 rfl
end Go.Proofs.YtlejgahbbfeagaaGreatDoor.N

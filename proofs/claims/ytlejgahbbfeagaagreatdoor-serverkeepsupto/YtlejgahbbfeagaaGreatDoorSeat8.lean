/- Plain words for this seat (24). Plain words for this seat (25). Plain words for this seat (26). Plain words for this seat (27). Plain words for this seat (28). Plain words for this seat (30). Plain words for this seat (40). Plain words for this seat (41). Plain words for this seat (42). -/
import Derived.Test.YtlejgahbbfeagaaGreatDoorSeat7
import Derived.KernelRfl
set_option linter.unusedVariables false
set_option linter.unusedSimpArgs false
namespace Go.Proofs.YtlejgahbbfeagaaGreatDoor.N
open Go
def AX (L:List (List UInt8)) (p:bB) (n:Nat):List (List UInt8):=L.set p.At.toNat (p.B.take n++(L.getD p.At.toNat []).drop n)
def vV:Option Int→Nat
 |some k=>(min (max k 0) 32).toNat
 |none=>0
def eR (L:List (List UInt8)):List bB→List Int→List (List UInt8)
 |[],_=>L
 |p::r,ks=>eR (AX L p (vV ks.head?)) r ks.tail
theorem tZ (o:Option Int):vV o≤32:=by
 cases o with
 |none=>exact Nat.zero_le _
 |some k=>show(min (max k 0) 32).toNat≤32;omega
theorem wJ (L:List (List UInt8)) (p:bB) (n:Nat):(AX L p n).length=L.length:=List.length_set
theorem GW {L:List (List UInt8)} (h: ∀x∈L,x.length=32) {p:bB} (hp:Cc L.length p) {n:Nat} (hn:n≤32): ∀x∈AX L p n,x.length=32:=by
 intro x hx
 obtain⟨a,b,c⟩:=hp
 rcases List.mem_or_eq_of_mem_set hx with hx|rfl
 ·exact h x hx
 ·have:=BQ h (show p.At.toNat<L.length by omega)
  rw[List.length_append,List.length_take,List.length_drop,this,c]
  omega
theorem C5: ∀(ws:List bB) (L:List (List UInt8)) (ks:List Int),(eR L ws ks).length=L.length
 |[],L,ks=>rfl
 |p::r,L,ks=>by rw[eR,C5 r,wJ]
theorem F1: ∀(ws:List bB) (L:List (List UInt8)) (ks:List Int),(∀x∈L,x.length=32)→(∀p∈ws,Cc L.length p)→ ∀x∈eR L ws ks,x.length=32
 |[],L,ks,h,_=>h
 |p::r,L,ks,h,hp=>F1 r _ _ (GW h (hp p (List.mem_cons_self ..)) (tZ _)) (fun q hq=>by rw[wJ];exact hp q (List.mem_cons_of_mem _ hq))
theorem Kh (L:List (List UInt8)) (hL: ∀x∈L,x.length=32) (hN:L.length≤1000) (p:bB) (hp:Cc L.length p) (n:Nat) (hn:n≤32):uI L p (n:Int)=some (AX L p n):=by
 obtain⟨a,b,c⟩:=hp
 have hlt:p.At.toNat<L.length:=by omega
 have hy:=hL _ (List.getElem_mem hlt)
 unfold uI uH AX
 try simp only[get_ite,aE,aD,aC,aF,aL,aK]
 rw[decide_eq_true (show L.length≤dK by rw[cq];omega),decide_eq_true (show p.At≥0 from a),decide_eq_true b,fO a b,List.getElem?_eq_getElem hlt]
 simp only[cond_true,aw]
 have hm:ew (imax (n:Int) 0) (ew (p.B.length:Int) (L[p.At.toNat].length:Int))=(n:Int):=by
  rw[c,hy];unfold ew imax;split<;>split<;>split<;>omega
 rw[hm,e9 (by omega) (by omega) (by omega),mW]
 simp only[cond_true]
 rw[e9 (by omega) (by omega) (by omega),pz,decide_eq_true (by rw[cq,List.length_take,List.length_drop];omega),List.getD_eq_getElem?_getD,List.getElem?_eq_getElem hlt]
 rfl
theorem FZ (aH:List Int) (W:List bB) (A:Int) (D:Bool): ∀(r:List bB) (i:Nat) (L:List (List UInt8)) (o:aN) (n:Nat),W.drop i=r→i≤W.length→r.length<n→W.length≤1000→(∀x∈L,x.length=32)→L.length≤1000→(∀p∈r,Cc L.length p)→
  ∃o',iter (jv aH) n ((i:Int),⟨L,W,A,D⟩,o)=some (⟨eR L r (aH.drop i),W,A,D⟩,o')
 |_,_,_,_,0,_,_,h,_,_,_,_=>absurd h (Nat.not_lt_zero _)
 |[],i,L,o,n+1,hdr,hi,_,_,_,_,_=>by
  obtain rfl:i=W.length:=Nat.le_antisymm hi (List.drop_eq_nil_iff.1 hdr)
  rw[bw]
  simp only[jv,nr,get_ite,aE,aD,aC,aF,aL,aK,dv,cond_false]
  exact⟨_,rfl⟩
 |p::r,i,L,o,n+1,hdr,hi,hn,hWl,hL,hN,hp=>by
  have hlt:i<W.length:=by
   rcases Nat.lt_or_ge i W.length with h|h
   ·exact h
   ·rw[List.drop_eq_nil_iff.2 h]at hdr;cases hdr
  have hd2:W.drop i=W[i] ::W.drop (i+1):=List.drop_eq_getElem_cons hlt
  rw[hdr]at hd2
  obtain⟨e1,e2⟩:=List.cons.inj hd2
  rw[List.length_cons]at hn
  have hpk:=hp p (List.mem_cons_self ..)
  have hgo: ∀k:Nat,k≤32→k=vV (aH.drop i).head?→ ∃o',iter (jv aH) n (ay ((i:Int)+1),⟨AX L p k,W,A,D⟩,aN.mk [] [] o.gR o.Down)=some (⟨eR L (p::r) (aH.drop i),W,A,D⟩,o'):=by
   intro k hk hk2
   rw[bI (by omega),eR,←hk2]
   have:=FZ aH W A D r (i+1) (AX L p k) (aN.mk [] [] o.gR o.Down) n e2.symm hlt (by omega) hWl (GW hL hpk hk) (by rw[wJ];exact hN) (fun q hq=>by rw[wJ];exact hp q (List.mem_cons_of_mem _ hq))
   rw[←List.tail_drop]at this
   exact this
  rw[bw]
  simp only[jv,nr,get_ite,aE,aD,aC,aF,aL,aK]
  rw[dh hlt,bP hlt,Int.toNat_natCast,List.getElem?_eq_getElem hlt,←e1]
  by_cases hk:i<aH.length
  ·rw[dh hk,bP hk,List.getElem?_eq_getElem hk]
   simp only[cond_true,aw]
   have hm:ew (imax aH[i] 0) 32=((vV (some aH[i]):Nat):Int):=by
    show ew (imax aH[i] 0) 32=(((min (max aH[i] 0) 32).toNat:Nat):Int)
    unfold ew imax;split<;>split<;>omega
   rw[hm,Kh L hL hN p hpk _ (tZ _),aw]
   have hh:(aH.drop i).head?=some aH[i]:=by rw[List.drop_eq_getElem_cons hk];rfl
   obtain⟨o',h⟩:=hgo _ (tZ (some aH[i])) (by rw[hh])
   exact⟨o',h⟩
  ·rw[decide_eq_false (show ¬(i:Int)<(aH.length:Int)by omega)]
   simp only[cond_true,cond_false,aw]
   have h0:=Kh L hL hN p hpk 0 (by omega)
   rw[show((0:Nat):Int)=0 from rfl]at h0
   rw[h0,aw]
   have hh:(aH.drop i).head?=none:=by rw[List.drop_eq_nil_iff.2 (by omega)];rfl
   obtain⟨o',h⟩:=hgo 0 (by omega) (by rw[hh];rfl)
   exact⟨o',h⟩
theorem RA (d:aN) (hd:Cd d) (aH:List Int):zN fuel d aH=some ⟨eR d.aU d.bC aH,[],0,false⟩:=by
 unfold zN uJ ze
 try simp only[get_ite,aE,aD,aC,aF,aL,aK]
 obtain⟨o',e⟩:=FZ aH d.bC d.gR d.Down d.bC 0 d.aU (aN.mk [] [] 0 false) fuel rfl (Nat.zero_le _) (cm (by have:=hd.Ue;omega)) hd.Ue hd.last hd.len hd.wait
 have e':iter (jv aH) fuel (0,d,aN.mk [] [] 0 false)=_:=e
 rw[e',aw]
 rfl
set_option maxRecDepth 100000
open Go
theorem IX:qN fuel=some 9:=by rw[nH];kernel_rfl
theorem RP:zE fuel=some 19:=by rw[nH];kernel_rfl
theorem Sj:jr kr=List.replicate 9 de:=by kernel_rfl
def after (L:List (List UInt8)) (home:Nat) (l:List bB):List (List UInt8):=wr (wr (wr (wr L [⟨(home:Int),de⟩]) (cu (home+1) l)) [⟨(home:Int),cV l⟩]) l
theorem LS (L:List (List UInt8)) (home:Nat) (l:List bB):rounds ⟨L,[],0,false⟩ home l=(⟨after L home l,[],0,false⟩,true):=by
 unfold rounds
 have w1: ∀(L:List (List UInt8)) (p:bB),dw ⟨L,[],0,false⟩ p=⟨L,[p],0,false⟩:=fun L p=>rfl
 have f1: ∀(L:List (List UInt8)) (ws:List bB),bK ⟨L,ws,0,false⟩=⟨wr L ws,[],0,false⟩:=fun L ws=>rfl
 have m1: ∀(L:List (List UInt8)) (ws:List bB),cK ⟨L,[],0,false⟩ ws=(⟨L,ws,0,false⟩,true):=fun L ws=>tC ws ⟨L,[],0,false⟩ rfl (Int.le_refl _) (.inl rfl)
 rw[w1,f1,m1]
 simp only[cond_false,cond_true]
 rw[f1,w1,f1,m1]
 simp only[cond_false,cond_true]
 rw[f1]
 rfl
theorem getD_set_ne {α:Type} (L:List α) (i j:Nat) (x d:α) (h:i≠j):(L.set i x).getD j d=L.getD j d:=by
 rw[List.getD_eq_getElem?_getD,List.getD_eq_getElem?_getD,List.getElem?_set_ne h]
theorem iP {α:Type} (L:List α) (i:Nat) (x d:α) (h:i<L.length):(L.set i x).getD i d=x:=by
 rw[List.getD_eq_getElem?_getD,List.getElem?_set_self h]
 rfl
theorem fk: ∀(ws:List bB) (L:List (List UInt8)) (i:Nat),(∀p∈ws,p.At.toNat≠i)→(wr L ws).getD i []=L.getD i []
 |[],L,i,_=>rfl
 |p::r,L,i,h=>by
  show(wr (L.set p.At.toNat p.B) r).getD i []=_
  rw[fk r _ i (fun q hq=>h q (List.mem_cons_of_mem _ hq)),getD_set_ne _ _ _ _ _ (h p (List.mem_cons_self ..))]
theorem M6: ∀(ws:List bB) (L:List (List UInt8)) (p:bB),p∈ws→(∀q∈ws,0≤q.At)→ws.Pairwise (fun a b=>a.At<b.At)→p.At.toNat<L.length→(wr L ws).getD p.At.toNat []=p.B
 |[],_,_,h,_,_,_=>by cases h
 |q::r,L,p,h,h0,hs,hl=>by
  show(wr (L.set q.At.toNat q.B) r).getD p.At.toNat []=_
  rcases List.mem_cons.1 h with rfl|h
  ·rw[fk r _ _ (fun x hx=>by
    have:=List.rel_of_pairwise_cons hs hx
    have:=h0 p (List.mem_cons_self ..)
    omega),iP _ _ _ _ hl]
  ·exact M6 r _ p h (fun x hx=>h0 x (List.mem_cons_of_mem _ hx)) (List.Pairwise.of_cons hs) (by rw[List.length_set];exact hl)
theorem Dd (L:List (List UInt8)) (home:Nat) (l:List bB):(after L home l).length=L.length:=by
 unfold after;rw[iy,iy,iy,iy]
theorem MX (L:List (List UInt8)) (home:Nat) (l:List bB) (i:Nat) (hi:i<home):(after L home l).getD i []=(wr L l).getD i []:=by
 have hw: ∀(l:List bB) (A B:List (List UInt8)),A.length=B.length→A.getD i []=B.getD i []→(wr A l).getD i []=(wr B l).getD i []:=by
  intro l
  induction l with
  |nil=>intro A B _ h;exact h
  |cons p r ih=>
   intro A B hl h
   refine ih (A.set p.At.toNat p.B) (B.set p.At.toNat p.B) (by rw[List.length_set,List.length_set];exact hl) ?_
   by_cases hp:p.At.toNat=i
   ·by_cases hlt:i<A.length
    ·rw[hp,iP _ _ _ _ hlt,iP _ _ _ _ (by omega)]
    ·rw[List.getD_eq_getElem?_getD,List.getD_eq_getElem?_getD,List.getElem?_eq_none (by rw[List.length_set];omega),List.getElem?_eq_none (by rw[List.length_set];omega)]
   ·rw[getD_set_ne _ _ _ _ _ hp,getD_set_ne _ _ _ _ _ hp,h]
 unfold after
 refine hw l _ _ (by rw[iy,iy,iy]) ?_
 have h1: ∀(A:List (List UInt8)) (b:List UInt8),(wr A [⟨(home:Int),b⟩]).getD i []=A.getD i []:=fun A b=>fk _ _ _ (fun p hp=>by rw[List.mem_singleton.1 hp];show(home:Int).toNat≠i;omega)
 rw[h1,fk _ _ _ (fun p hp=>by obtain⟨_,_,h2,_⟩:=k9 _ _ _ hp;omega),h1]
structure aau (d:aN) (s:aG):Prop where
 ok:Cd d
 len:d.aU.length=19
 wait:d.bC=[]
 up:d.Down=false
 at_: ∀i,i<9→d.aU.getD i []=(jr s).getD i []
theorem MF {s t:aG} (hs:Good 1073741824 s) (ht:Good 1073741824 t):Valid 9 (lA (jr s) (jr t)):=by
 have l2:=sz ht
 refine⟨?_,fun p hp=> ?_,DM _ _⟩
 ·have:=FR (jr s) (jr t) (jr t).length
  unfold lA
  omega
 ·obtain⟨i,y,hi,hy,_,rfl⟩:=Ff hp
  exact⟨by show(0:Int)≤i;omega,by show(i:Int)<_;omega,Kq ht y (List.mem_of_getElem? hy)⟩
theorem RE {s t:aG} (hs:Good 1073741824 s) (ht:Good 1073741824 t) (L:List (List UInt8)) (hL:9≤L.length) (h: ∀i,i<9→L.getD i []=(jr s).getD i []) (i:Nat) (hi:i<9):(wr L (lA (jr s) (jr t))).getD i []=(jr t).getD i []:=by
 have l1:=sz hs
 have l2:=sz ht
 have ht2:(jr t)[i]? =some ((jr t).getD i []):=by rw[List.getD_eq_getElem?_getD,List.getElem?_eq_getElem (by omega)];rfl
 have hs2:(jr s)[i]? =some ((jr s).getD i []):=by rw[List.getD_eq_getElem?_getD,List.getElem?_eq_getElem (by omega)];rfl
 by_cases hn:(jr s)[i]? ≠some ((jr t).getD i [])
 ·have hm:=KS ht2 hn
  exact M6 _ L _ hm (fun q hq=>by obtain⟨j,_,_,_,_,rfl⟩:=Ff hq;show(0:Int)≤j;omega) (DM _ _) (by show i<L.length;omega)
 ·have hn:=Decidable.of_not_not hn
  rw[fk _ _ _ (fun q hq hqi=>by
   obtain⟨j,y,_,hy,hne,rfl⟩:=Ff hq
   have:j=i:=hqi
   subst this
   rw[ht2]at hy
   cases hy
   exact hne hn),h i hi]
  rw[hs2]at hn
  exact Option.some.inj hn
theorem Pp:aau ⟨List.replicate 19 de,[],0,false⟩ kr:=by
 refine⟨⟨fun x hx=>by rw[List.eq_of_mem_replicate hx];rfl,by show(List.replicate 19 de).length≤1000;rw[List.length_replicate];omega,(fun q hq=>nomatch hq),by show(0:Nat)≤1000;omega,Int.le_refl _,by show(0:Int)≤1000;omega⟩,List.length_replicate,rfl,rfl,fun i hi=> ?_⟩
 rw[Sj]
 show(List.replicate 19 de).getD i []=_
 rw[List.getD_eq_getElem?_getD,List.getD_eq_getElem?_getD,List.getElem?_replicate,List.getElem?_replicate,if_pos (by omega),if_pos (by omega)]
open Go
def Cx (s:List UInt8):Prop:=s[0]? ≠some 1∨s[31]? ≠some 1
def eZ (h:Nat) (L:List (List UInt8)) (T:Nat→List UInt8):Prop:=
 (Cx (L.getD h [])∧ ∀i,i<h→L.getD i []=T i)∨
 (∃q,q≠[]∧Valid h q∧h+q.length<L.length∧L.getD h []=cV q∧ ∀i,i<h→(wr L (dY L (h+1) q)).getD i []=T i)
theorem z8 (L:List (List UInt8)): ∀(l:List bB) (n:Nat),(∀(j:Nat) p,l[j]? =some p→L.getD (n+j) []=p.B)→dY L n l=l
 |[],n,_=>rfl
 |p::r,n,h=>by
  rw[dY,z8 L r (n+1) (fun j q hj=>by
   have:=h (j+1) q hj
   rw[show n+1+j=n+(j+1)by omega]
   exact this)]
  have:=h 0 p rfl
  rw[Nat.add_zero]at this
  rw[this]
theorem Ce: ∀(l:List bB) (n:Nat) (L:List (List UInt8)),n+l.length≤L.length→ ∀(j:Nat) p,l[j]? =some p→(wr L (cu n l)).getD (n+j) []=p.B
 |[],_,_,_,j,p,h=>by cases h
 |q::r,n,L,hl,j,p,h=>by
  rw[List.length_cons]at hl
  rw[cu]
  show(wr (L.set (n:Int).toNat q.B) (cu (n+1) r)).getD (n+j) []=_
  cases j with
  |zero=>
   cases h
   rw[fk _ _ _ (fun x hx=>by obtain⟨_,_,h2,_⟩:=k9 _ _ _ hx;omega),Int.toNat_natCast]
   exact iP _ _ _ _ (by omega)
  |succ j=>
   have:=Ce r (n+1) (L.set (n:Int).toNat q.B) (by rw[List.length_set];omega) j p h
   rw[show n+(j+1)=n+1+j by omega]
   exact this
theorem qL (L:List (List UInt8)) (p:bB) (k i:Nat) (h:p.At.toNat≠i):(AX L p k).getD i []=L.getD i []:=getD_set_ne _ _ _ _ _ h
theorem mX: ∀(ws:List bB) (L:List (List UInt8)) (ks:List Int) (i:Nat),(∀p∈ws,p.At.toNat≠i)→(eR L ws ks).getD i []=L.getD i []
 |[],L,ks,i,_=>rfl
 |p::r,L,ks,i,h=>by
  rw[eR,mX r _ _ i (fun q hq=>h q (List.mem_cons_of_mem _ hq)),qL _ _ _ _ (h p (List.mem_cons_self ..))]
theorem H0 (l:List bB) (hs:l.Pairwise (fun a b=>a.At<b.At)) (h0: ∀p∈l,0≤p.At) (A B:List (List UInt8)) (hlen:A.length=B.length) (hl: ∀p∈l,p.At.toNat<A.length) (i:Nat) (h:(∀p∈l,p.At.toNat≠i)→A.getD i []=B.getD i []):(wr A l).getD i []=(wr B l).getD i []:=by
 by_cases hin: ∃p∈l,p.At.toNat=i
 ·obtain⟨p,hp,rfl⟩:=hin
  rw[M6 l A p hp h0 hs (hl p hp),M6 l B p hp h0 hs (by rw[←hlen];exact hl p hp)]
 ·have hn: ∀p∈l,p.At.toNat≠i:=fun p hp he=>hin ⟨p,hp,he⟩
  rw[fk _ _ _ hn,fk _ _ _ hn,h hn]
structure Clean (h:Nat) (L:List (List UInt8)) (T:Nat→List UInt8):Prop where
 at_: ∀i,i<h→L.getD i []=T i
 Ul:eZ h L T
theorem Clean.TU {h:Nat} {L:List (List UInt8)} {T:Nat→List UInt8} (hn:Cx (L.getD h [])) (ha: ∀i,i<h→L.getD i []=T i):Clean h L T:=⟨ha,.inl ⟨hn,ha⟩⟩
theorem Iz (k:Nat) (hk:1≤k) (hk2:k≤32) (s:List UInt8):Cx (de.take k++s):=by
 left
 cases k with
 |zero=>omega
 |succ k=>
  show some (0:UInt8)≠some 1
  decide
theorem J2 (k:Nat) (hk:k<32) (s:List UInt8) (hs:s.length=32):Cx (s.take k++de.drop k):=by
 right
 rw[List.getElem?_append_right (by rw[List.length_take];omega),List.length_take,hs,Nat.min_eq_left (by omega),List.getElem?_drop,show k+(31-k)=31 by omega]
 decide
theorem Dx:Cx de:=by left;decide
def GG (L:List (List UInt8)) (l:List bB) (i:Nat):List UInt8:=(wr L l).getD i []
theorem JE {h:Nat} {L:List (List UInt8)} {T:Nat→List UInt8} (hL: ∀x∈L,x.length=32) (hN:L.length≤1000) (hc:Clean h L T) (l:List bB) (hl:l≠[]) (hv:Valid h l) (hn:h+l.length<L.length) (A:Int) (hA0:0≤A) (hA1:A≤900) (aH:List Int):
  ((rounds ⟨L,[],A,false⟩ h l).2=true∧(rounds ⟨L,[],A,false⟩ h l).1.aU=after L h l∧(rounds ⟨L,[],A,false⟩ h l).1.bC=[]∧(rounds ⟨L,[],A,false⟩ h l).1.Down=false)∨
  ((rounds ⟨L,[],A,false⟩ h l).2=false∧(eZ h (eR (rounds ⟨L,[],A,false⟩ h l).1.aU (rounds ⟨L,[],A,false⟩ h l).1.bC aH) T∨eZ h (eR (rounds ⟨L,[],A,false⟩ h l).1.aU (rounds ⟨L,[],A,false⟩ h l).1.bC aH) (GG L l))):=by
 have hlp:0<l.length:=List.length_pos_iff.2 hl
 have h16:=hv.len
 obtain⟨L1,hL1⟩: ∃L1,wr L [⟨(h:Int),de⟩]=L1:=⟨_,rfl⟩
 obtain⟨L2,hL2⟩: ∃L2,wr L1 (cu (h+1) l)=L2:=⟨_,rfl⟩
 obtain⟨L3,hL3⟩: ∃L3,wr L2 [⟨(h:Int),cV l⟩]=L3:=⟨_,rfl⟩
 have l1:L1.length=L.length:=by rw[←hL1,iy]
 have l2:L2.length=L.length:=by rw[←hL2,iy,l1]
 have l3:L3.length=L.length:=by rw[←hL3,iy,l2]
 have hone: ∀(X:List (List UInt8)) (b:List UInt8) (i:Nat),i≠h→(wr X [⟨(h:Int),b⟩]).getD i []=X.getD i []:=fun X b i hi=>fk _ _ _ (fun p hp=>by rw[List.mem_singleton.1 hp];show(h:Int).toNat≠i;omega)
 have honeh: ∀(X:List (List UInt8)) (b:List UInt8),h<X.length→(wr X [⟨(h:Int),b⟩]).getD h []=b:=fun X b hx=>by
  show(X.set (h:Int).toNat b).getD h []=b
  rw[Int.toNat_natCast,iP _ _ _ _ hx]
 have g1: ∀i,i<h→L1.getD i []=T i:=fun i hi=>by rw[←hL1,hone _ _ _ (by omega),hc.at_ i hi]
 have g2: ∀i,i<h→L2.getD i []=T i:=fun i hi=>by rw[←hL2,fk _ _ _ (fun p hp=>by obtain⟨_,_,h2,_⟩:=k9 _ _ _ hp;omega),g1 i hi]
 have g3: ∀i,i<h→L3.getD i []=T i:=fun i hi=>by rw[←hL3,hone _ _ _ (by omega),g2 i hi]
 have z1:L1.getD h []=de:=by rw[←hL1];exact honeh _ _ (by omega)
 have z2:L2.getD h []=de:=by rw[←hL2,fk _ _ _ (fun p hp=>by obtain⟨_,_,h2,_⟩:=k9 _ _ _ hp;omega),z1]
 have z3:L3.getD h []=cV l:=by rw[←hL3];exact honeh _ _ (by omega)
 have c2: ∀(j:Nat) p,l[j]? =some p→L2.getD (h+1+j) []=p.B:=by rw[←hL2];exact Ce l (h+1) L1 (by omega)
 have c3: ∀(j:Nat) p,l[j]? =some p→L3.getD (h+1+j) []=p.B:=fun j p hj=>by rw[←hL3,hone _ _ _ (by omega),c2 j p hj]
 have key: ∀X:List (List UInt8),X.length=L.length→X.getD h []=cV l→(∀(j:Nat) p,l[j]? =some p→X.getD (h+1+j) []=p.B)→(∀i,i<h→(∀p∈l,p.At.toNat≠i)→X.getD i []=T i)→eZ h X (GG L l):=by
  intro X hX hh hcp ho
  refine .inr ⟨l,hl,hv,by omega,hh,fun i hi=> ?_⟩
  rw[z8 X l (h+1) hcp]
  unfold GG
  exact H0 l hv.sorted (fun p hp=>(hv.each p hp).1) X L hX (fun p hp=>by have:=(hv.each p hp).2.1;have:=(hv.each p hp).1;omega) i (fun hn=>by rw[ho i hi hn,hc.at_ i hi])
 unfold rounds
 by_cases a1:A=1
 ·have w:dw ⟨L,[],A,false⟩ ⟨(h:Int),de⟩=⟨L,[⟨(h:Int),de⟩],0,true⟩:=by rw[a1];rfl
  rw[w]
  right
  refine⟨rfl,.inl ?_⟩
  show eZ h (AX L ⟨(h:Int),de⟩ (vV aH.head?)) T
  have hk:=tZ aH.head?
  generalize vV aH.head?=k at hk
  have hh:(AX L ⟨(h:Int),de⟩ k).getD h []=de.take k++(L.getD h []).drop k:=by
   show(L.set (h:Int).toNat _).getD h []=_
   rw[Int.toNat_natCast,iP _ _ _ _ (by omega)]
  by_cases k0:k=0
  ·have:AX L ⟨(h:Int),de⟩ k=L:=by
    subst k0
    show L.set (h:Int).toNat ((L.getD (h:Int).toNat []).drop 0)=L
    rw[Int.toNat_natCast,List.drop_zero,List.getD_eq_getElem?_getD,List.getElem?_eq_getElem (show h<L.length by omega)]
    exact List.set_getElem_self _
   rw[this]
   exact hc.Ul
  ·exact .inl ⟨by rw[hh];exact Iz k (by omega) hk _,fun i hi=>by rw[qL _ _ _ _ (by show(h:Int).toNat≠i;omega),hc.at_ i hi]⟩
 ·obtain⟨A1,hA1'⟩: ∃A1,(if A=0 then 0 else A-1)=A1:=⟨_,rfl⟩
  have w:dw ⟨L,[],A,false⟩ ⟨(h:Int),de⟩=⟨L,[⟨(h:Int),de⟩],A1,false⟩:=by
   unfold dw
   by_cases a0:A>0
   ·rw[if_pos a0]
    rw[if_neg (by omega)]at hA1'
    show aN.mk L _ (A-1) (A-1==0)=_
    rw[hA1']
    congr 1
    exact dj (by omega)
   ·rw[if_neg a0]
    rw[if_pos (by omega)]at hA1'
    show aN.mk L _ A false=_
    rw[show A=A1 by omega]
    rfl
  have f:bK ⟨L,[⟨(h:Int),de⟩],A1,false⟩=⟨L1,[],A1,false⟩:=by rw[←hL1];rfl
  rw[w,f]
  simp only[cond_false]
  by_cases a2:1≤A1∧A1≤((cu (h+1) l).length:Int)
  ·rw[Cf _ _ rfl a2.1 a2.2]
   right
   refine⟨rfl,.inl (.inl ⟨?_,fun i hi=> ?_⟩)⟩
   ·show Cx ((eR L1 ([]++(cu (h+1) l).take A1.toNat) aH).getD h [])
    rw[mX _ _ _ _ (fun p hp=>by
     rw[List.nil_append]at hp
     obtain⟨_,_,h2,_⟩:=k9 _ _ _ (List.mem_of_mem_take hp)
     omega),z1]
    exact Dx
   ·show(eR L1 ([]++(cu (h+1) l).take A1.toNat) aH).getD i []=T i
    rw[mX _ _ _ _ (fun p hp=>by
     rw[List.nil_append]at hp
     obtain⟨_,_,h2,_⟩:=k9 _ _ _ (List.mem_of_mem_take hp)
     omega),g1 i hi]
  ·obtain⟨A2,hA2'⟩: ∃A2,(if A1=0 then 0 else A1-((cu (h+1) l).length:Int))=A2:=⟨_,rfl⟩
   have m:cK ⟨L1,[],A1,false⟩ (cu (h+1) l)=(⟨L1,cu (h+1) l,A2,false⟩,true):=by
    rw[tC _ _ rfl (by show 0≤A1;omega) (by show A1=0∨_<A1;omega)]
    show(aN.mk L1 ([]++cu (h+1) l) (if A1=0 then 0 else _) false,true)=_
    rw[hA2',List.nil_append]
   have f2:bK ⟨L1,cu (h+1) l,A2,false⟩=⟨L2,[],A2,false⟩:=by rw[←hL2];rfl
   rw[m]
   simp only[cond_true]
   rw[f2]
   by_cases a3:A2=1
   ·have w2:dw ⟨L2,[],A2,false⟩ ⟨(h:Int),cV l⟩=⟨L2,[⟨(h:Int),cV l⟩],0,true⟩:=by rw[a3];rfl
    rw[w2]
    right
    refine⟨rfl,?_⟩
    show eZ h (AX L2 ⟨(h:Int),cV l⟩ (vV aH.head?)) T∨eZ h (AX L2 ⟨(h:Int),cV l⟩ (vV aH.head?)) (GG L l)
    have hk:=tZ aH.head?
    generalize vV aH.head?=k at hk
    have hh:(AX L2 ⟨(h:Int),cV l⟩ k).getD h []=(cV l).take k++de.drop k:=by
     show(L2.set (h:Int).toNat ((cV l).take k++(L2.getD (h:Int).toNat []).drop k)).getD h []=_
     rw[Int.toNat_natCast,iP _ _ _ _ (by omega),z2]
    by_cases k32:k=32
    ·right
     refine key _ (by rw[wJ,l2]) ?_ (fun j p hj=>by rw[qL _ _ _ _ (by show(h:Int).toNat≠_;omega),c2 j p hj]) (fun i hi _=>by rw[qL _ _ _ _ (by show(h:Int).toNat≠_;omega),g2 i hi])
     rw[hh,k32,List.take_of_length_le (by rw[qF l h16];exact Nat.le_refl _),show de.drop 32=[]from rfl,List.append_nil]
    ·left
     exact .inl ⟨by rw[hh];exact J2 k (by omega) _ (qF l h16),fun i hi=>by rw[qL _ _ _ _ (by show(h:Int).toNat≠i;omega),g2 i hi]⟩
   ·obtain⟨A3,hA3'⟩: ∃A3,(if A2=0 then 0 else A2-1)=A3:=⟨_,rfl⟩
    have w2:dw ⟨L2,[],A2,false⟩ ⟨(h:Int),cV l⟩=⟨L2,[⟨(h:Int),cV l⟩],A3,false⟩:=by
     unfold dw
     by_cases a0:A2>0
     ·rw[if_pos a0]
      rw[if_neg (by omega)]at hA3'
      show aN.mk L2 _ (A2-1) (A2-1==0)=_
      rw[hA3']
      congr 1
      exact dj (by omega)
     ·rw[if_neg a0]
      show aN.mk L2 _ A2 false=_
      rw[show A2=A3 by
       split at hA3'
       ·omega
       ·split at hA2'<;>omega]
      rfl
    have f3:bK ⟨L2,[⟨(h:Int),cV l⟩],A3,false⟩=⟨L3,[],A3,false⟩:=by rw[←hL3];rfl
    rw[w2,f3]
    simp only[cond_false]
    by_cases a4:1≤A3∧A3≤(l.length:Int)
    ·rw[Cf _ _ rfl a4.1 a4.2]
     right
     refine⟨rfl,.inr ?_⟩
     show eZ h (eR L3 ([]++l.take A3.toNat) aH) (GG L l)
     rw[List.nil_append]
     refine key _ (by rw[C5,l3]) ?_ (fun j p hj=> ?_) (fun i hi hn=> ?_)
     ·rw[mX _ _ _ _ (fun p hp=>by have:=(hv.each p (List.mem_of_mem_take hp)).2.1;have:=(hv.each p (List.mem_of_mem_take hp)).1;omega),z3]
     ·rw[mX _ _ _ _ (fun q hq=>by have:=(hv.each q (List.mem_of_mem_take hq)).2.1;have:=(hv.each q (List.mem_of_mem_take hq)).1;omega),c3 j p hj]
     ·rw[mX _ _ _ _ (fun q hq=>hn q (List.mem_of_mem_take hq)),g3 i hi]
    ·left
     have hA2nn:0≤A2:=by
      rw[vS]at a2 hA2'
      split at hA2'<;>omega
     have hA3nn:0≤A3:=by split at hA3'<;>omega
     rw[tC _ _ rfl (by show 0≤A3;exact hA3nn) (by show A3=0∨_<A3;omega)]
     refine⟨rfl,?_,rfl,rfl⟩
     show wr L3 ([]++l)=after L h l
     rw[List.nil_append]
     unfold after
     rw[hL1,hL2,hL3]
open Go
theorem QR {A B:List (List UInt8)} (hl:A.length=B.length) (h: ∀i,A.getD i []=B.getD i []):A=B:=by
 apply List.ext_getElem hl
 intro i h1 h2
 have:=h i
 rw[List.getD_eq_getElem?_getD,List.getD_eq_getElem?_getD,List.getElem?_eq_getElem h1,List.getElem?_eq_getElem h2]at this
 exact this
theorem Bv (L:List (List UInt8)): ∀(n:Nat) (q:List bB) (x:bB),x∈dY L n q→ ∃p∈q,x.At=p.At
 |_,[],_,h=>by cases h
 |n,p::r,x,h=>by
  rw[dY]at h
  rcases List.mem_cons.1 h with rfl|h
  ·exact⟨p,List.mem_cons_self ..,rfl⟩
  ·obtain⟨p',h1,h2⟩:=Bv L (n+1) r x h
   exact⟨p',List.mem_cons_of_mem _ h1,h2⟩
theorem Bu (L:List (List UInt8)): ∀(n:Nat) (q:List bB),q.Pairwise (fun a b=>a.At<b.At)→(dY L n q).Pairwise (fun a b=>a.At<b.At)
 |_,[],_=> .nil
 |n,p::r,h=>by
  rw[dY]
  refine .cons (fun x hx=> ?_) (Bu L (n+1) r (List.Pairwise.of_cons h))
  obtain⟨p',h1,h2⟩:=Bv L (n+1) r x hx
  rw[h2]
  exact List.rel_of_pairwise_cons h h1
theorem Dz {X Y:List (List UInt8)}: ∀(n:Nat) (q:List bB),(∀i,n≤i→Y.getD i []=X.getD i [])→dY Y n q=dY X n q
 |_,[],_=>rfl
 |n,p::r,h=>by
  rw[dY,dY,h n (Nat.le_refl _),Dz (n+1) r fun i hi=>h i (by omega)]
theorem Up {h:Nat} {X:List (List UInt8)} {q:List bB} (hv:Valid h q) (hn:h+q.length<X.length):
  dY (wr X (dY X (h+1) q)) (h+1) q=dY X (h+1) q∧wr (wr X (dY X (h+1) q)) (dY X (h+1) q)=wr X (dY X (h+1) q):=by
 have hat: ∀p∈dY X (h+1) q,0≤p.At∧p.At<h:=by
  intro p hp
  obtain⟨p',h1,h2⟩:=Bv _ _ _ _ hp
  rw[h2]
  exact⟨(hv.each p' h1).1,(hv.each p' h1).2.1⟩
 refine⟨Dz _ _ fun i hi=>fk _ _ _ fun p hp=>by have:=hat p hp;omega,?_⟩
 apply QR (by rw[iy])
 intro i
 exact H0 _ (Bu X (h+1) q hv.sorted) (fun p hp=>(hat p hp).1) _ _ (iy _ _) (fun p hp=>by rw[iy];have:=hat p hp;omega) i (fun hno=>fk _ _ _ hno)
structure ud (d:aN):Prop where
 ok:Cd d
 len:d.aU.length=19
 wait:d.bC=[]
 up:d.Down=false
 arm:d.gR=0
theorem Jp {d:aN} (hd:ud d) {T:Nat→List UInt8} (hs:eZ 9 d.aU T): ∃d' b,kY fuel d 9=some (d',b)∧ud d'∧Clean 9 d'.aU T∧ ∃b',kY fuel d' 9=some (d',b'):=by
 rcases hs with⟨hn,ha⟩|⟨q,hq,hv,hl,hh,ha⟩
 ·have hm:=Tc d hd.ok hd.up hd.wait 9 (by rw[hd.len];omega) hn
  rw[show((9:Nat):Int)=9 from rfl]at hm
  exact⟨d,false,hm,hd,Clean.TU hn ha,false,hm⟩
 ·have hmy: ∀(e:aN),ud e→9+q.length<e.aU.length→e.aU.getD 9 []=cV q→kY fuel e 9=some (⟨wr e.aU (dY e.aU 10 q),[],0,false⟩,true):=by
   intro e he hl hh
   have hm:=Rv e he.ok he.up he.wait 9 (by omega) q hq hv hl hh
   rw[show((9:Nat):Int)=9 from rfl]at hm
   obtain⟨L,W,A,D⟩:=e
   have h1:=he.wait
   have h2:=he.up
   have h3:=he.arm
   simp only at h1 h2 h3
   subst h1 h2 h3
   have hw:cK ⟨L,[],0,false⟩ (dY L (9+1) q)=(⟨L,dY L 10 q,0,false⟩,true):=tC (dY L (9+1) q) ⟨L,[],0,false⟩ rfl (Int.le_refl _) (.inl rfl)
   rw[hm,hw]
   rfl
  have hat: ∀p∈dY d.aU 10 q,0≤p.At∧p.At<9:=by
   intro p hp
   obtain⟨p',h1,h2⟩:=Bv _ _ _ _ hp
   rw[h2]
   exact⟨(hv.each p' h1).1,(hv.each p' h1).2.1⟩
  have hmok:=Fc d.aU 9 hd.ok.last 10 q hv.each (by rw[hd.len];omega) (by omega)
  have hm:=hmy d hd hl hh
  obtain⟨Y,hY⟩: ∃Y,wr d.aU (dY d.aU 10 q)=Y:=⟨_,rfl⟩
  have ly:Y.length=19:=by rw[←hY,iy,hd.len]
  have hg:ud ⟨Y,[],0,false⟩:=⟨⟨by rw[←hY];exact H2 _ _ hd.ok.last (fun p hp=>(hmok p hp).2.2),by show Y.length≤1000;omega,(fun q hq=>nomatch hq),by show(0:Nat)≤1000;omega,Int.le_refl _,by show(0:Int)≤1000;omega⟩,ly,rfl,rfl,rfl⟩
  obtain⟨r1,r2⟩:=Up hv hl
  have r1':dY Y 10 q=dY d.aU 10 q:=by rw[←hY];exact r1
  have r2':wr Y (dY d.aU 10 q)=Y:=by rw[←hY];exact r2
  have hyh:Y.getD 9 []=cV q:=by rw[←hY,fk _ _ _ (fun p hp=>by have:=hat p hp;omega),hh]
  have hya: ∀i,i<9→Y.getD i []=T i:=fun i hi=>by rw[←hY];exact ha i hi
  have hm2:=hmy ⟨Y,[],0,false⟩ hg (by show 9+q.length<Y.length;rw[ly,←hd.len];exact hl) hyh
  rw[hY]at hm
  refine⟨⟨Y,[],0,false⟩,true,hm,hg,⟨hya,.inr ⟨q,hq,hv,by show 9+q.length<Y.length;rw[ly,←hd.len];exact hl,hyh,fun i hi=> ?_⟩⟩,true,?_⟩
  ·rw[r1',r2'];exact hya i hi
  ·rw[hm2]
   show some (aN.mk (wr Y (dY Y 10 q)) [] 0 false,true)=_
   rw[r1',r2']
theorem LN {d:aN} (hd:ud d) {s:aG} (hs:Good 1073741824 s) (ha: ∀i,i<9→d.aU.getD i []=(jr s).getD i []):sK fuel d=some (.inl (jr s)):=by
 have l1:=sz hs
 unfold sK pC
 try simp only[get_ite,aE,aD,aC,aF,aL,aK]
 rw[IX,aw]
 unfold tH
 obtain⟨x,e,hx⟩:=dI (step:=oi 9 d) (fun k v=> ∃i:Nat,v.1=(i:Int)∧i+k=9∧v.2=(jr s).take i) (fun r=>r= .inr (jr s)) (fun k v hI=>by
  obtain⟨v1,v2⟩:=v
  obtain⟨i,h1,hk,h2⟩:=hI
  simp only at h1 h2
  subst h1 h2
  simp only[oi,m7,get_ite,aE,aD,aC,aF,aL,aK]
  by_cases hlt:i<9
  ·rw[decide_eq_true (show(i:Int)<9 by omega),AN d hd.up i (by rw[hd.len];omega) (fun q hq=>by rw[hd.wait]at hq;cases hq),decide_eq_true (show((jr s).take i).length+1≤dK by rw[cq,List.length_take];omega),bI (by omega),ha i hlt]
   refine⟨_,rfl,k-1,by omega,i+1,rfl,by omega,?_⟩
   rw[List.take_add_one,List.getD_eq_getElem?_getD,List.getElem?_eq_getElem (show i<(jr s).length by omega)]
   rfl
  ·obtain rfl:i=9:=by omega
   exact⟨_,rfl,by rw[List.take_of_length_le (by omega)];rfl⟩) 9 (0,[]) fuel ⟨0,rfl,rfl,rfl⟩ (cm (by omega))
 rw[e,hx,aw]
 rfl
theorem Jn {d:aN} (hd:ud d) {s:aG} (hs:Good 1073741824 s) (hset:eZ 9 d.aU (fun i=>(jr s).getD i [])):
  ∃d',qO fuel d=some (⟨d',s⟩,true)∧ud d'∧Clean 9 d'.aU (fun i=>(jr s).getD i [])∧qO fuel d'=some (⟨d',s⟩,true):=by
 obtain⟨d',b,hm,hg,hc,b',hm'⟩:=Jp hd hset
 have l1:=sz hs
 obtain⟨t,et,ht⟩:=SW (jr s) (by omega) (by have:=Sq (jr s) (fun x hx=>by rw[Kq hs x hx];omega);rw[cq];omega)
 have ht2:t=(s,true):=N5 ht (.inl ⟨s,hs,rfl,rfl⟩)
 subst ht2
 have go: ∀(e:aN) (c:Bool),ud e→kY fuel e 9=some (d',c)→qO fuel e=some (⟨d',s⟩,true):=by
  intro e c he hme
  unfold qO uq
  try simp only[get_ite,aE,aD,aC,aF,aL,aK]
  rw[RP,aw,eq_int (show(e.aU.length:Int)=19 by have:=he.len;omega),he.up,IX]
  simp only[cond_false,aw]
  rw[hme,aw,LN hg hs hc.at_,aw]
  simp only[bu]
  rw[et]
  rfl
 exact⟨d',go d b hd hm,hg,hc,go d' b' hg hm'⟩
open Go
theorem eZ.congr {h:Nat} {L:List (List UInt8)} {T T':Nat→List UInt8} (hs:eZ h L T) (he: ∀i,i<h→T i=T' i):eZ h L T':=by
 rcases hs with⟨a,b⟩|⟨q,a,b,c,d,e⟩
 ·exact .inl ⟨a,fun i hi=>(b i hi).trans (he i hi)⟩
 ·exact .inr ⟨q,a,b,c,d,fun i hi=>(e i hi).trans (he i hi)⟩
theorem Clean.congr {h:Nat} {L:List (List UInt8)} {T T':Nat→List UInt8} (hs:Clean h L T) (he: ∀i,i<h→T i=T' i):Clean h L T':=⟨fun i hi=>(hs.at_ i hi).trans (he i hi),hs.Ul.congr he⟩
theorem K8 {h:Nat} {L:List (List UInt8)} {l:List bB} (hl:l≠[]) (hv:Valid h l) (hn:h+l.length<L.length):Clean h (after L h l) (GG L l):=by
 have hat: ∀i,i<h→(after L h l).getD i []=GG L l i:=fun i hi=>MX L h l i hi
 have hbig: ∀i,h≤i→(after L h l).getD i []=(wr (wr (wr L [⟨(h:Int),de⟩]) (cu (h+1) l)) [⟨(h:Int),cV l⟩]).getD i []:=fun i hi=>by
  unfold after
  rw[fk l _ i (fun p hp=>by have:=(hv.each p hp).2.1;have:=(hv.each p hp).1;omega)]
 have hh:(after L h l).getD h []=cV l:=by
  rw[hbig h (Nat.le_refl _)]
  show(List.set _ (h:Int).toNat (cV l)).getD h []=_
  rw[Int.toNat_natCast,iP _ _ _ _ (by rw[iy,iy];omega)]
 have hc: ∀(j:Nat) p,l[j]? =some p→(after L h l).getD (h+1+j) []=p.B:=fun j p hj=>by
  rw[hbig _ (by omega),fk _ _ _ (fun x hx=>by rw[List.mem_singleton.1 hx];show(h:Int).toNat≠_;omega)]
  exact Ce l (h+1) _ (by rw[iy];omega) j p hj
 refine⟨hat,.inr ⟨l,hl,hv,by rw[Dd];exact hn,hh,fun i hi=> ?_⟩⟩
 rw[z8 _ l (h+1) hc]
 unfold GG
 exact H0 l hv.sorted (fun p hp=>(hv.each p hp).1) _ L (Dd L h l) (fun p hp=>by rw[Dd];have:=(hv.each p hp).2.1;have:=(hv.each p hp).1;omega) i (fun hno=>by rw[hat i hi];unfold GG;exact fk _ _ _ hno)
theorem Oh (d:aN) (hd:Cd d) (hW:d.bC=[]) (home:Nat) (l:List bB) (hv:Valid home l) (hn:home+l.length<d.aU.length):Cd (rounds d home l).1∧(rounds d home l).1.aU.length=d.aU.length:=by
 unfold rounds
 have h16:=hv.len
 have hz:Cc d.aU.length ⟨(home:Int),de⟩:=⟨by show(0:Int)≤home;omega,by show(home:Int)<_;omega,rfl⟩
 have d1:=rX hd (by rw[hW];simp) hz
 have L1:=fq d ⟨(home:Int),de⟩
 generalize dw d ⟨(home:Int),de⟩=a at d1 L1
 cases a.Down with
 |true=>exact⟨d1,by rw[cond_true,L1]⟩
 |false=>
  simp only[cond_false]
  have d2:=mE d1
  have N2:(bK a).aU.length=d.aU.length:=by rw[kG,L1]
  have W2:(bK a).bC=[]:=rfl
  generalize bK a=b at d2 N2 W2
  have hcp: ∀p∈cu (home+1) l,Cc b.aU.length p:=by
   intro p hp
   obtain⟨q,hq,h1,h2,h3⟩:=k9 _ _ _ hp
   exact⟨by omega,by rw[N2];omega,by rw[h3];exact(hv.each q hq).2.2⟩
  have d3:=tz (cu (home+1) l) b d2 (by rw[W2,vS];simp;omega) hcp
  have L3:=ug (cu (home+1) l) b
  cases (cK b (cu (home+1) l)).2 with
  |false=>exact⟨d3,by rw[cond_false,L3,N2]⟩
  |true=>
   simp only[cond_true]
   generalize (cK b (cu (home+1) l)).1=c at d3 L3
   have d4:=mE d3
   have N4:(bK c).aU.length=d.aU.length:=by rw[kG,L3,N2]
   have W4:(bK c).bC=[]:=rfl
   generalize bK c=q at d4 N4 W4
   have hq:Cc q.aU.length ⟨(home:Int),cV l⟩:=⟨by show(0:Int)≤home;omega,by show(home:Int)<_;omega,qF l h16⟩
   have d5:=rX d4 (by rw[W4];simp) hq
   have L5:=fq q ⟨(home:Int),cV l⟩
   generalize dw q ⟨(home:Int),cV l⟩=u at d5 L5
   cases u.Down with
   |true=>exact⟨d5,by rw[cond_true,L5,N4]⟩
   |false=>
    simp only[cond_false]
    have d6:=mE d5
    have N6:(bK u).aU.length=d.aU.length:=by rw[kG,L5,N4]
    have W6:(bK u).bC=[]:=rfl
    generalize bK u=v at d6 N6 W6
    have hlv: ∀p∈l,Cc v.aU.length p:=by
     intro p hp
     obtain⟨h1,h2,h3⟩:=hv.each p hp
     exact⟨h1,by rw[N6];omega,h3⟩
    have d7:=tz l v d6 (by rw[W6];simp;omega) hlv
    have L7:=ug l v
    cases (cK v l).2 with
    |true=>exact⟨mE d7,by rw[cond_true,kG,L7,N6]⟩
    |false=>exact⟨d7,by rw[cond_false,L7,N6]⟩
theorem AT (d:aN) (p:bB):(dw d p).gR≤d.gR:=by
 unfold dw
 split
 ·show d.gR-1≤d.gR;omega
 ·exact Int.le_refl _
theorem Cg: ∀(ws:List bB) (d:aN),(cK d ws).1.gR≤d.gR
 |[],d=>Int.le_refl _
 |p::r,d=>by
  rw[cK]
  cases (dw d p).Down with
  |true=>exact AT d p
  |false=>exact Int.le_trans (Cg r _) (AT d p)
theorem LR (d:aN) (home:Nat) (l:List bB):(rounds d home l).1.gR≤d.gR:=by
 have hf: ∀e:aN,(bK e).gR=e.gR:=fun _=>rfl
 have h1:=AT d ⟨(home:Int),de⟩
 have h2:=Cg (cu (home+1) l) (bK (dw d ⟨(home:Int),de⟩))
 have h3:=AT (bK (cK (bK (dw d ⟨(home:Int),de⟩)) (cu (home+1) l)).1) ⟨(home:Int),cV l⟩
 have h4:=Cg l (bK (dw (bK (cK (bK (dw d ⟨(home:Int),de⟩)) (cu (home+1) l)).1) ⟨(home:Int),cV l⟩))
 rw[hf]at h2 h3 h4
 unfold rounds
 cases (dw d ⟨(home:Int),de⟩).Down with
 |true=>exact h1
 |false=>
  cases (cK (bK (dw d ⟨(home:Int),de⟩)) (cu (home+1) l)).2 with
  |false=>exact Int.le_trans h2 h1
  |true=>
   cases (dw (bK (cK (bK (dw d ⟨(home:Int),de⟩)) (cu (home+1) l)).1) ⟨(home:Int),cV l⟩).Down with
   |true=>exact Int.le_trans h3 (Int.le_trans h2 h1)
   |false=>
    cases (cK (bK (dw (bK (cK (bK (dw d ⟨(home:Int),de⟩)) (cu (home+1) l)).1) ⟨(home:Int),cV l⟩)) l).2 with
    |true=>exact Int.le_trans h4 (Int.le_trans h3 (Int.le_trans h2 h1))
    |false=>exact Int.le_trans h4 (Int.le_trans h3 (Int.le_trans h2 h1))
theorem M4 {L:List (List UInt8)} {A:Int} {s t:aG} (hL: ∀x∈L,x.length=32) (hN:L.length=19) (hA0:0≤A) (hA1:A≤900) (hs:Good 1073741824 s) (ht:Good 1073741824 t) (hc:Clean 9 L (fun i=>(jr s).getD i [])):
  ∃d' b,iV fuel ⟨⟨L,[],A,false⟩,s⟩ t=some (⟨d',bif b then t else s⟩,b)∧Cd d'∧d'.aU.length=19∧
   (b=true→d'.bC=[]∧d'.Down=false∧Clean 9 d'.aU (fun i=>(jr t).getD i []))∧
   (b=false→ ∀aH,eZ 9 (eR d'.aU d'.bC aH) (fun i=>(jr s).getD i [])∨eZ 9 (eR d'.aU d'.bC aH) (fun i=>(jr t).getD i []))∧
   (A=0→b=true∧d'.gR=0)∧d'.gR≤A:=by
 have l1:=sz hs
 have l2:=sz ht
 have d0:Cd ⟨L,[],A,false⟩:=⟨hL,by show L.length≤1000;omega,(fun q hq=>nomatch hq),by show(0:Nat)≤1000;omega,hA0,by show A≤1000;omega⟩
 unfold iV qP
 try simp only[get_ite,aE,aD,aC,aF,aL,aK]
 rw[MZ _ (Fz ht),aw,Ct ht,show(((jr t).length:Int)==0)=false from dj (by omega),IX]
 simp only[cond_false,aw]
 rw[MZ _ (Fz hs),aw,Ct hs,Tg _ _ (by omega),aw]
 by_cases he:lA (jr s) (jr t)=[]
 ·have hst:jr s=jr t:=(Q0 (by omega)).1 he
  rw[he]
  refine⟨⟨L,[],A,false⟩,true,rfl,d0,hN,fun _=>⟨rfl,rfl,?_⟩,fun h=>(by cases h),fun h=>⟨rfl,h⟩,Int.le_refl _⟩
  rw[←hst]
  exact hc
 ·have hv:=MF hs ht
  have hlen9:(lA (jr s) (jr t)).length≤9:=by
   have:=FR (jr s) (jr t) (jr t).length
   unfold lA
   omega
  have hnew: ∀i,i<9→GG L (lA (jr s) (jr t)) i=(jr t).getD i []:=fun i hi=>RE hs ht L (by omega) hc.at_ i hi
  have hcm:=Ps ⟨L,[],A,false⟩ d0 rfl (by show(0:Nat)<1000;omega) 9 _ he hv (by show 9+_<L.length;omega) (by omega)
  rw[show((9:Nat):Int)=9 from rfl]at hcm
  rw[hcm]
  obtain⟨k1,k2⟩:=Oh ⟨L,[],A,false⟩ d0 rfl 9 _ hv (by show 9+_<L.length;omega)
  have hcut:=JE hL (by omega) hc _ he hv (by omega) A hA0 hA1
  have hall:A=0→(rounds ⟨L,[],A,false⟩ 9 (lA (jr s) (jr t))).2=true∧(rounds ⟨L,[],A,false⟩ 9 (lA (jr s) (jr t))).1.gR=0:=by
   rintro rfl
   rw[LS]
   exact⟨rfl,rfl⟩
  have harm:(rounds ⟨L,[],A,false⟩ 9 (lA (jr s) (jr t))).1.gR≤A:=LR ⟨L,[],A,false⟩ 9 _
  generalize hR:rounds ⟨L,[],A,false⟩ 9 (lA (jr s) (jr t))=R at k1 k2 hcut hall harm
  obtain⟨d',b⟩:=R
  simp only at k1 k2 hcut hall harm
  refine⟨d',b,by cases b<;>rfl,k1,by rw[k2];exact hN,fun hb=> ?_,fun hb aH=> ?_,hall,harm⟩
  ·rcases hcut []with⟨_,c2,c3,c4⟩|⟨c1,_⟩
   ·refine⟨c3,c4,?_⟩
    rw[c2]
    exact(K8 he hv (by omega)).congr hnew
   ·rw[hb]at c1;cases c1
  ·rcases hcut aH with⟨c1,_⟩|⟨_,c2⟩
   ·rw[hb]at c1;cases c1
   ·rcases c2 with c2|c2
    ·exact .inl c2
    ·exact .inr (c2.congr hnew)
theorem Pf:Clean 9 (List.replicate 19 de) (fun i=>(jr kr).getD i []):=by
 refine Clean.TU ?_ Pp.at_
 have:(List.replicate 19 de).getD 9 []=de:=by rw[List.getD_eq_getElem?_getD,List.getElem?_replicate,if_pos (by omega)];rfl
 rw[this]
 exact Dx
open Go
def Lq {α:Type} (t:D.Tree α) (Q:α→Prop):Prop:= ∃r,t.get=some r∧Q r
theorem R6 {α:Type} {Q:α→Prop} {a:α} (h:Q a):Lq (.ret a) Q:=⟨a,rfl,h⟩
theorem Iy {α:Type} {Q:α→Prop} {c:Bool} {t e:D.Tree α} (h1:c=true→Lq t Q) (h2:c=false→Lq e Q):Lq (.ite c t e) Q:=by
 cases c
 ·obtain⟨r,a,b⟩:=h2 rfl;exact⟨r,a,b⟩
 ·obtain⟨r,a,b⟩:=h1 rfl;exact⟨r,a,b⟩
theorem Dv {α:Type} {Q:α→Prop} {c:Bool} {t e:D.Tree α} (hc:c=true) (h:Lq t Q):Lq (.ite c t e) Q:=by subst hc;obtain⟨r,a,b⟩:=h;exact⟨r,a,b⟩
theorem xm {α:Type} {Q:α→Prop} {c:Bool} {t e:D.Tree α} (hc:c=false) (h:Lq e Q):Lq (.ite c t e) Q:=by subst hc;obtain⟨r,a,b⟩:=h;exact⟨r,a,b⟩
theorem jU {α β:Type} {Q:α→Prop} {o:Option β} {g:β→D.Tree α} {x:β} (h:o=some x) (h2:Lq (g x) Q):Lq (.opt o g) Q:=by
 subst h;obtain⟨r,a,b⟩:=h2;exact⟨r,a,b⟩
theorem Qh {α β:Type} {P:β→Prop} {Q:α→Prop} {o:Option β} {g:β→D.Tree α} (h: ∃x,o=some x∧P x) (h2: ∀x,P x→Lq (g x) Q):Lq (.opt o g) Q:=by
 obtain⟨x,h,p⟩:=h;exact jU h (h2 x p)
theorem Lr {w:aY}:bQ w=true→0≤w.nS∧1≤w.B.length∧w.nS+w.B.length≤24:=by
 intro h;have:=jg.1 h;omega
def Ol (b:List UInt8) (w:aY):List UInt8:=
 if bQ w=true then((b++List.replicate (w.nS.toNat-b.length) 0).take w.nS.toNat++w.B)++b.drop (w.nS.toNat+w.B.length)else b
def Pl (b:List UInt8) (l:List aY):List UInt8:=l.foldl Ol b
theorem JQ (b:List UInt8) (w:aY) (hb:b.length≤24):(Ol b w).length≤24:=by
 unfold Ol
 split
 ·rename_i h
  obtain⟨h0,h1,h2⟩:=Lr h
  simp only[List.length_append,List.length_take,List.length_replicate,List.length_drop]
  omega
 ·exact hb
theorem Ll: ∀(l:List aY) (b:List UInt8),b.length≤24→(Pl b l).length≤24
 |[],b,hb=>hb
 |w::l,b,hb=>Ll l (Ol b w) (JQ b w hb)
theorem KI (b:List UInt8) (w:aY) (hb:b.length≤24):FD b w=some (Ol b w):=by
 unfold FD Ar Ol
 cases h:bQ w with
 |false=>rfl
 |true=>
  obtain⟨h0,h1,h2⟩:=Lr h
  simp only[get_ite,aD,aC,Bool.not_true,cond_false,if_true]
  obtain⟨n,hn⟩: ∃n:Nat,w.nS=(n:Int):=⟨w.nS.toNat,by omega⟩
  rw[hn,bh (show-9223372036854775808≤(n:Int)-(b.length:Int)by omega) (by omega),bh (show-9223372036854775808≤(n:Int)+(w.B.length:Int)by omega) (by omega),Int.toNat_natCast]
  have rep: ∀m:Int,m.toNat=n-b.length→pI ([0]:List UInt8) m=List.replicate (n-b.length) 0:=fun m hm=>by
   unfold pI;rw[hm];simp
  by_cases hc:(n:Int)-(b.length:Int)>0
  ·have e:=rep ((n:Int)-(b.length:Int)) (by omega)
   rw[decide_eq_true hc,cond_true,e]
   have hl:(b++List.replicate (n-b.length) (0:UInt8)).length=n:=by simp;omega
   rw[show EW ([0]:List UInt8) ((n:Int)-(b.length:Int))=true by unfold EW;simp[cq];omega,cond_true]
   have hmin:ew ((n:Int)+(w.B.length:Int)) ((b++List.replicate (n-b.length) (0:UInt8)).length:Int)=(n:Int):=by
    rw[hl];unfold ew;rw[if_pos (by omega)]
   rw[hmin,hl,e9 (by omega) (by omega) (by omega),cond_true,e9 (by omega) (by omega) (Int.le_refl _)]
   rw[mW]
   have hz:eo (b++List.replicate (n-b.length) (0:UInt8)) (n:Int) (n:Int)=[]:=by
    unfold eo;apply List.drop_eq_nil_of_le;simp;omega
   rw[hz]
   have hd:b.drop (n+w.B.length)=[]:=List.drop_eq_nil_of_le (by omega)
   rw[hd]
   simp only[List.length_append,List.length_replicate,List.length_take,List.length_nil]
   rw[decide_eq_true (show b.length+(n-b.length)≤dK by rw[cq];omega),cond_true]
   rw[decide_eq_true (show min n (b.length+(n-b.length))+w.B.length≤dK by rw[cq];omega),cond_true,cond_true]
   rw[decide_eq_true (show min n (b.length+(n-b.length))+w.B.length+0≤dK by rw[cq];omega),cond_true]
  ·rw[decide_eq_false hc,cond_false]
   have e:n-b.length=0:=by omega
   rw[e,List.replicate_zero,List.append_nil]
   rw[e9 (by omega) (by omega) (by omega),cond_true,mW]
   have hcut:eo b (ew ((n:Int)+(w.B.length:Int)) (b.length:Int)) (b.length:Int)=b.drop (n+w.B.length):=by
    unfold ew
    split
    ·rw[pz];rw[List.drop_eq_nil_of_le (Nat.le_refl _),List.drop_eq_nil_of_le (by omega)]
    ·have:(n:Int)+(w.B.length:Int)=((n+w.B.length:Nat):Int):=by omega
     rw[this,pz]
   have h3:0≤ew ((n:Int)+(w.B.length:Int)) (b.length:Int)∧ew ((n:Int)+(w.B.length:Int)) (b.length:Int)≤(b.length:Int):=by
    unfold ew;split<;>omega
   rw[e9 h3.1 h3.2 (by omega),cond_true,hcut]
   simp only[List.length_append,List.length_take,List.length_drop]
   rw[decide_eq_true (show min n b.length+w.B.length≤dK by rw[cq];omega),cond_true]
   rw[decide_eq_true (show min n b.length+w.B.length+(b.length-(n+w.B.length))≤dK by rw[cq];omega),cond_true]
theorem KJ (l:List aY) (b:List UInt8) (hl:l.length≤1000) (hb:b.length≤24):FE fuel b l=some (Pl b l):=by
 unfold FE As DI
 simp only[aE,aD]
 obtain⟨x,e,hx⟩:=dI (step:=xV l (l.length:Int)) (fun k v=> ∃i:Nat,v.2=(i:Int)∧i+k=l.length∧v.1.length≤24∧Pl v.1 (l.drop i)=Pl b l) (fun r=>r=Pl b l) (fun k v hI=>by
  obtain⟨v1,v2⟩:=v
  obtain⟨i,hi,hk,hlen,he⟩:=hI
  simp only at hi hlen he
  subst hi
  simp only[xV,vE,get_ite,aE,aD,aC]
  by_cases hlt:i<l.length
  ·rw[dh hlt,bP hlt,Int.toNat_natCast,List.getElem?_eq_getElem hlt,aw,KI v1 _ hlen,aw,bI (by omega)]
   refine⟨_,rfl,k-1,by omega,i+1,rfl,by omega,JQ _ _ hlen,?_⟩
   rw[←he,List.drop_eq_getElem_cons hlt];rfl
  ·obtain rfl:i=l.length:=by omega
   rw[dv]
   refine⟨_,rfl,?_⟩
   rw[←he,List.drop_length];rfl) l.length (b,0) fuel ⟨0,rfl,by omega,hb,rfl⟩ (cm (by omega))
 rw[e,aw,hx]
open Go
theorem oG {A:Type} (s:List A) (p:A→Bool) (step:Int→Option (Int ⊕ (Int ⊕ Unit)))
  (hs: ∀i:Nat,step (i:Int)=D.Tree.get (.ite (decide ((i:Int)<(s.length:Int))) (.ite (cN (i:Int) s.length) (.opt (s[(i:Int).toNat]?) fun y=> .ite (p y) (.ret (.inr (.inl (i:Int)))) (.ret (.inl (ay ((i:Int)+1))))) .fail) (.ret (.inr (.inr ()))))) (h:s.length<1000000):
  iter step fuel 0=some (match s.findIdx? p with|some i=> .inl (i:Int)|none=> .inr ()):=by
 obtain⟨x,e,hx⟩:=dI (step:=step) (fun k v=> ∃i:Nat,v=(i:Int)∧i+k=s.length∧s.findIdx? p=((s.drop i).findIdx? p).map (· +i)) (fun r=>r=match s.findIdx? p with|some i=> .inl (i:Int)|none=> .inr ()) (fun k v hI=>by
  obtain⟨i,hi,hk,he⟩:=hI
  subst hi
  rw[hs]
  simp only[get_ite,aE,aD,aC]
  by_cases hlt:i<s.length
  ·have ha:=List.getElem?_eq_getElem hlt
   rw[dh hlt,bP hlt,Int.toNat_natCast,ha,aw]
   rw[List.drop_eq_getElem_cons hlt,List.findIdx?_cons]at he
   cases hc:p s[i]with
   |true=>
    rw[hc]at he
    refine⟨_,rfl,?_⟩
    rw[he];simp
   |false=>
    rw[hc]at he
    rw[bI (by omega)]
    refine⟨_,rfl,k-1,by omega,i+1,rfl,by omega,?_⟩
    rw[he]
    simp only[Bool.false_eq_true,if_false,Option.map_map]
    congr 1
    funext j
    simp;omega
  ·obtain rfl:i=s.length:=by omega
   rw[dv]
   refine⟨_,rfl,?_⟩
   rw[List.drop_length]at he
   rw[he];rfl) s.length 0 fuel ⟨0,rfl,by omega,by simp⟩ (cm (by omega))
 rw[e,hx]
theorem fh {A:Type} {p:A→Bool}: ∀{l:List A} {i:Nat},l.findIdx? p=some i→ ∃h:i<l.length,p l[i]=true∧ ∀j (hj:j<i),p (l[j]'(Nat.lt_trans hj h))=false:=by
 intro l i h
 obtain⟨h1,h2,h3⟩:=List.findIdx?_eq_some_iff_getElem.1 h
 exact⟨h1,h2,fun j hj=>by simpa using h3 j hj⟩
theorem k6 {A:Type} {p:A→Bool} {l:List A} (h:l.findIdx? p=none): ∀x∈l,p x=false:=List.findIdx?_eq_none_iff.1 h
def jJ {A:Type} (p:A→Bool) (l:List A):List A:=l.filter fun x=> !p x
theorem uk {A:Type} {p:A→Bool} {l:List A} (h: ∀x∈l,p x=false):jJ p l=l:=by
 unfold jJ
 rw[List.filter_eq_self]
 intro x hx;rw[h x hx];rfl
theorem AG {A:Type} (r:List A) (p:A→Bool) (step:Int×Int×List A→Option ((Int×Int×List A) ⊕ (Int×List A)))
  (hs: ∀v,step v=D.Tree.get (.ite (decide (v.2.1<(v.2.2.length:Int))) (.ite (cN v.2.1 v.2.2.length) (.opt (v.2.2[v.2.1.toNat]?) fun y=> .ite (!(p y)) (.ite (cN v.1 v.2.2.length) (.opt (v.2.2[v.1.toNat]?) fun y_2=> .ret (.inl ((ay (v.1+1)),(ay (v.2.1+1)),(v.2.2.set v.1.toNat y)))) .fail) (.ret (.inl (v.1,(ay (v.2.1+1)),v.2.2)))) .fail) (.ret (.inr (v.1,v.2.2)))))
  (h:r.length<1000000) {i0:Nat} (hi:r.findIdx? p=some i0):
  ∃w,iter step fuel ((i0:Int),ay ((i0:Int)+1),r)=some w∧cN w.1 w.2.length=true∧eo w.2 0 w.1=jJ p r:=by
 obtain⟨hlt,hp,hb⟩:=fh hi
 have start:(r.take i0)=jJ p (r.take (i0+1)):=by
  rw[List.take_succ_eq_append_getElem hlt]
  unfold jJ
  rw[List.filter_append]
  have h1:(r.take i0).filter (fun x=> !p x)=r.take i0:=by
   rw[List.filter_eq_self]
   intro x hx
   obtain⟨j,hj,e⟩:=List.getElem_of_mem hx
   simp only[List.length_take]at hj
   have:=hb j (by omega)
   rw[←e,List.getElem_take,this];rfl
  rw[h1]
  simp[hp]
 rw[bI (by omega)]
 refine dI (step:=step) (fun k v=> ∃i j:Nat,v.1=(i:Int)∧v.2.1=(j:Int)∧i<j∧j+k=r.length∧v.2.2.length=r.length∧v.2.2.take i=jJ p (r.take j)∧v.2.2.drop j=r.drop j) (fun w=>cN w.1 w.2.length=true∧eo w.2 0 w.1=jJ p r) (fun k v hI=> ?_) (r.length-(i0+1)) _ fuel ⟨i0,i0+1,rfl,rfl,by omega,by omega,rfl,start,rfl⟩ (cm (by omega))
 obtain⟨v1,v2,v3⟩:=v
 obtain⟨i,j,e1,e2,hij,hk,hl,ht,hd⟩:=hI
 simp only at e1 e2 hl ht hd
 subst e1 e2
 rw[hs]
 simp only[get_ite,aE,aD,aC,hl]
 by_cases hjl:j<r.length
 ·have ha:v3[j]? =some r[j]:=by
   have:=congrArg (fun l=>l[0]?) hd
   simp only[List.getElem?_drop,Nat.add_zero]at this
   rw[this,List.getElem?_eq_getElem hjl]
  rw[dh hjl,bP hjl,Int.toNat_natCast,ha,aw,bI (i:=j) (by omega),bP (show i<r.length by omega)]
  have hnext:jJ p (r.take (j+1))=jJ p (r.take j)++(if p r[j]then[]else[r[j]]):=by
   rw[List.take_succ_eq_append_getElem hjl]
   unfold jJ
   rw[List.filter_append]
   cases hp:p r[j]<;>simp[hp]
  have hdrop: ∀L:List A,L.drop j=r.drop j→L.drop (j+1)=r.drop (j+1):=fun L hL=>by
   have:=congrArg (List.drop 1) hL
   rw[List.drop_drop,List.drop_drop]at this
   exact this
  cases hc:p r[j]with
  |true=>
   refine⟨_,rfl,k-1,by omega,i,j+1,rfl,rfl,by omega,by omega,hl,?_,hdrop v3 hd⟩
   rw[hnext,hc,←ht];simp
  |false=>
   simp only[Bool.not_false,cond_true,Int.toNat_natCast]
   rw[List.getElem?_eq_getElem (show i<v3.length by omega),aw,bI (i:=i) (by omega)]
   refine⟨_,rfl,k-1,by omega,i+1,j+1,rfl,rfl,by omega,by omega,by simp[hl],?_,?_⟩
   ·rw[hnext,hc,←ht]
    show(v3.set i r[j]).take (i+1)=_
    rw[List.take_succ_eq_append_getElem (by simp;omega),List.take_set_of_le (by omega)]
    simp
   ·show(v3.set i r[j]).drop (j+1)=_
    rw[List.drop_set_of_lt (by omega)]
    exact hdrop _ hd
 ·have hj:j=r.length:=by omega
  rw[hj,dv]
  refine⟨_,rfl,?_,?_⟩
  ·show cN (i:Int) v3.length=true
   rw[hl];exact bP (by omega)
  ·show eo v3 0 (i:Int)=_
   rw[mW,ht,hj,List.take_length]
def rv (a b:aT):Prop:=a.aX<b.aX∨a.aX=b.aX∧a.Client<b.Client
def pW (a b:aT):Int:=if a.aX<b.aX then-1 else if b.aX<a.aX then 1 else if a.Client<b.Client then-1 else if b.Client<a.Client then 1 else 0
theorem MR (x y:Int):mh x y=if x<y then-1 else if y<x then 1 else 0:=by
 unfold mh nM l5
 simp only[aL,aK,bne_self_eq_false,cond_false]
 by_cases h:x<y
 ·rw[decide_eq_true h,if_pos h];rfl
 ·rw[decide_eq_false h,if_neg h]
  by_cases g:y<x
  ·rw[decide_eq_true (show x>y from g),if_pos g];rfl
  ·rw[decide_eq_false (show ¬x>y from g),if_neg g];rfl
theorem UE (x y:Int):AK fuel [x,y]=some (if x≠0 then x else y):=by
 unfold AK vT zt
 rw[nH]
 simp only[aE,aD,aF]
 rw[show(4294967296:Nat)=4294967293+1+1+1 from rfl,bw]
 have e0:oW 0 [x,y] (([x,y].length:Nat):Int) 0=if x≠0 then some (.inr (.inl x))else some (.inl 1):=by
  show(bif x != 0 then some (Sum.inr (Sum.inl x))else some (Sum.inl (ay (0+1))))=_
  by_cases h:x=0
  ·rw[if_neg (by simp[h]),show(x != 0)=false by simp[h]];rfl
  ·rw[if_pos h,show(x != 0)=true by simp[h]];rfl
 have e1:oW 0 [x,y] (([x,y].length:Nat):Int) 1=if y≠0 then some (.inr (.inl y))else some (.inl 2):=by
  show(bif y != 0 then some (Sum.inr (Sum.inl y))else some (Sum.inl (ay (1+1))))=_
  by_cases h:y=0
  ·rw[if_neg (by simp[h]),show(y != 0)=false by simp[h]];rfl
  ·rw[if_pos h,show(y != 0)=true by simp[h]];rfl
 have e2:oW 0 [x,y] (([x,y].length:Nat):Int) 2=some (.inr (.inr ())):=rfl
 rw[e0]
 by_cases hx:x=0
 ·rw[if_neg (by simp[hx]),if_neg (by simp[hx]),aw,bu,bw,e1]
  by_cases hy:y=0
  ·rw[if_neg (by simp[hy]),aw,bu,bw,e2,hy];rfl
  ·rw[if_pos hy];rfl
 ·rw[if_pos hx,if_pos hx];rfl
theorem JW (a b:aT):sq fuel a b=some (pW a b):=by
 unfold sq sW
 simp only[aE,aD,UE,aw,MR]
 unfold pW
 by_cases h1:a.aX<b.aX
 ·simp[h1]
 ·by_cases h2:b.aX<a.aX
  ·simp[h1,h2]
  ·simp[h1,h2]
theorem B0 {a b:aT}:pW a b<0↔rv a b:=by
 unfold pW rv
 repeat' split
 all_goals simp
 all_goals omega
theorem Jc {a b:aT}:pW a b=0↔a.aX=b.aX∧a.Client=b.Client:=by
 unfold pW
 repeat' split
 all_goals simp
 all_goals omega
theorem DD {a b c:aT} (h:rv a b) (g:rv b c):rv a c:=by unfold rv at*;omega
def rO (l:List aT):Prop:=l.Pairwise rv
def low (l:List aT) (t:aT):Nat:=(l.takeWhile fun x=>decide (pW x t<0)).length
theorem Qv (l:List aT) (t:aT):low l t≤l.length:=(List.takeWhile_prefix _).length_le
theorem Bz (x:aT) (l:List aT) (t:aT):low (x::l) t=if pW x t<0 then low l t+1 else 0:=by
 unfold low
 rw[List.takeWhile_cons]
 by_cases h:pW x t<0
 ·rw[if_pos h,decide_eq_true h];rfl
 ·rw[if_neg h,decide_eq_false h];rfl
theorem Hl: ∀(l:List aT) (t:aT) (i:Nat) (x:aT),l[i]? =some x→i<low l t→pW x t<0
 |[],t,i,x,h,_=>by simp at h
 |y::l,t,i,x,h,hi=>by
  rw[Bz]at hi
  split at hi
  ·rename_i hy
   cases i with
   |zero=>simp at h;rw[←h];exact hy
   |succ i=>exact Hl l t i x (by simpa using h) (by omega)
  ·omega
theorem Hm: ∀(l:List aT) (t:aT) (i:Nat) (x:aT),rO l→l[i]? =some x→low l t≤i→ ¬pW x t<0
 |[],t,i,x,_,h,_=>by simp at h
 |y::l,t,i,x,hs,h,hi=>by
  rw[Bz]at hi
  cases i with
  |zero=>
   simp at h;subst h
   split at hi
   ·omega
   ·assumption
  |succ i=>
   have hx:l[i]? =some x:=by simpa using h
   split at hi
   ·exact Hm l t i x (List.Pairwise.of_cons hs) hx (by omega)
   ·rename_i hy
    intro hc
    have hm:=List.mem_of_getElem? hx
    have hlt:rv y x:=List.rel_of_pairwise_cons hs hm
    exact hy (B0.2 (DD hlt (B0.1 hc)))
theorem half {i j:Nat} (h:i+j<1000000000):ay (qX .u64 (uf (ay ((i:Int)+(j:Int)))) 1)=(((i+j)/2:Nat):Int):=by
 rw[bh (show-9223372036854775808≤(i:Int)+(j:Int)by omega) (by omega)]
 have e:uf ((i:Int)+(j:Int))=(i:Int)+(j:Int):=by
  unfold uf;simp only[IntKind.wrap,IntKind.bits,IntKind.signed];simp;omega
 rw[e]
 have s:qX .u64 ((i:Int)+(j:Int)) 1=(((i+j)/2:Nat):Int):=by
  unfold qX
  rw[show(2:Int)^min (1:Int).toNat IntKind.u64.bits=2 from rfl]
  rw[Int.fdiv_eq_ediv_of_nonneg _ (by decide)]
  omega
 rw[s,bh (by omega) (by omega)]
theorem G3 (l:List aT) (t:aT) (hs:rO l) (h:l.length<1000000):dR fuel l t=some ((low l t:Int),match l[low l t]? with|some y=>decide (pW y t=0)|none=>false):=by
 unfold dR eW gE
 simp only[aE,get_ite,aD,aC]
 have hle:=Qv l t
 obtain⟨x,e,hx⟩:=dI (step:=eG fuel l (l.length:Int) t) (fun k v=> ∃i j:Nat,v=((i:Int),(j:Int))∧i+k=j∧i≤low l t∧low l t≤j∧j≤l.length) (fun r=>r=(low l t:Int)) (fun k v hI=>by
  obtain⟨i,j,hv,hk,h1,h2,h3⟩:=hI
  subst hv
  simp only[eG,ep,get_ite,aE,aD,aC]
  by_cases hij:i<j
  ·have hm:(i+j)/2<l.length:=by omega
   rw[decide_eq_true (show(i:Int)<(j:Int)by omega),half (by omega),bP hm,Int.toNat_natCast,List.getElem?_eq_getElem hm,aw,JW,aw]
   by_cases hc:pW l[(i+j)/2] t<0
   ·rw[decide_eq_true hc,bI (by omega)]
    refine⟨_,rfl,j-((i+j)/2+1),by omega,(i+j)/2+1,j,rfl,by omega,?_,h2,h3⟩
    rcases Nat.lt_or_ge ((i+j)/2) (low l t)with g|g
    ·exact g
    ·exact absurd hc (Hm l t _ _ hs (List.getElem?_eq_getElem hm) g)
   ·rw[decide_eq_false hc]
    refine⟨_,rfl,(i+j)/2-i,by omega,i,(i+j)/2,rfl,by omega,h1,?_,by omega⟩
    rcases Nat.lt_or_ge ((i+j)/2) (low l t)with g|g
    ·exact absurd (Hl l t _ _ (List.getElem?_eq_getElem hm) g) hc
    ·exact g
  ·rw[decide_eq_false (show ¬(i:Int)<(j:Int)by omega)]
   refine⟨_,rfl,?_⟩
   show(i:Int)=_
   omega) l.length (0,(l.length:Int)) fuel ⟨0,l.length,rfl,by omega,Nat.zero_le _,hle,Nat.le_refl _⟩ (cm (by omega))
 rw[e,aw,hx]
 by_cases hlt:low l t<l.length
 ·rw[dh hlt,bP hlt,Int.toNat_natCast,List.getElem?_eq_getElem hlt,aw,JW,aw]
  simp only[cond_true]
  by_cases hc:pW l[low l t] t=0
  ·rw[decide_eq_true hc,eu hc]
  ·rw[decide_eq_false hc,dj hc]
 ·rw[show low l t=l.length by omega,dv,List.getElem?_eq_none (Nat.le_refl _)];rfl
def isKey (c f:Int) (x:aT):Bool:=x.aX==f&&x.Client==c
def Er (l:List aT) (c f:Int):Option aT:=l.find? (isKey c f)
def lL (l:List aT) (now c f:Int):Int:=match Er l c f with
 |some y=>if y.ig≤now then 0 else y.Mode
 |none=>0
theorem CJ {c f:Int} {x:aT}:isKey c f x=true↔pW x ⟨c,f,0,0⟩=0:=by
 rw[Jc];simp[isKey]
theorem KE: ∀(l:List aT) (c f:Int),rO l→Er l c f=match l[low l ⟨c,f,0,0⟩]? with|some y=>if pW y ⟨c,f,0,0⟩=0 then some y else none|none=>none
 |[],c,f,_=>rfl
 |y::l,c,f,hs=>by
  unfold Er
  rw[List.find?_cons,Bz]
  by_cases hk:pW y ⟨c,f,0,0⟩=0
  ·rw[CJ.2 hk,if_neg (by omega)]
   simp[hk]
  ·have:isKey c f y=false:=by
    cases hx:isKey c f y with
    |false=>rfl
    |true=>exact absurd (CJ.1 hx) hk
   rw[this]
   by_cases hl:pW y ⟨c,f,0,0⟩<0
   ·rw[if_pos hl]
    have:=KE l c f (List.Pairwise.of_cons hs)
    unfold Er at this
    simp only[this,List.getElem?_cons_succ]
   ·rw[if_neg hl]
    simp only[List.getElem?_cons_zero,if_neg hk]
    rw[List.find?_eq_none]
    intro x hx hxk
    have hxk:=CJ.1 hxk
    have hlt:rv y x:=List.rel_of_pairwise_cons hs hx
    rw[Jc]at hxk
    simp only at hxk
    apply hl
    rw[B0]
    unfold rv at hlt⊢
    simp only
    omega
theorem Gu (l:List aT) (now c f:Int) (hs:rO l) (h:l.length<1000000):pk fuel l now c f=some (lL l now c f):=by
 unfold pk sY lL
 simp only[aE,get_ite,aD,aC,G3 l _ hs h,aw,KE l c f hs]
 cases hg:l[low l ⟨c,f,0,0⟩]? with
 |none=>rfl
 |some y=>
  have hlt:=og hg
  simp only
  by_cases hk:pW y ⟨c,f,0,0⟩=0
  ·rw[decide_eq_true hk,if_pos hk,bP hlt,Int.toNat_natCast,hg]
   simp only[Bool.not_true,cond_false,cond_true,aw]
   by_cases hu:y.ig≤now
   ·rw[decide_eq_true (show now≥y.ig from hu),if_pos hu];rfl
   ·rw[decide_eq_false (show ¬now≥y.ig from hu),if_neg hu];rfl
  ·rw[decide_eq_false hk,if_neg hk];rfl
open Go
structure NO (x:aT):Prop where
 aV:1≤x.Client∧x.Client≤3
 file:1≤x.aX∧x.aX≤6
 mode:1≤x.Mode∧x.Mode≤2
 Uh:0≤x.ig∧x.ig≤9223372036854775807
structure pA (l:List aT):Prop where
 each: ∀x∈l,NO x
 sorted:rO l
theorem EU: ∀(l:List aT) (a:Int),(∀x∈l,a≤3*x.aX+x.Client∧3*x.aX+x.Client≤21)→rO l→(∀x∈l,1≤x.Client∧x.Client≤3)→(l.length:Int)≤22-a∨l=[]
 |[],a,_,_,_=>Or.inr rfl
 |x::l,a,h,hs,hc=>by
  left
  have hx:=h x (List.mem_cons_self ..)
  have hcx:=hc x (List.mem_cons_self ..)
  have:=EU l (3*x.aX+x.Client+1) (fun y hy=>by
   have hlt:rv x y:=List.rel_of_pairwise_cons hs hy
   have hcy:=hc y (List.mem_cons_of_mem _ hy)
   have:=h y (List.mem_cons_of_mem _ hy)
   unfold rv at hlt
   omega) (List.Pairwise.of_cons hs) (fun y hy=>hc y (List.mem_cons_of_mem _ hy))
  rcases this with h'|h'
  ·simp only[List.length_cons];omega
  ·subst h';simp;omega
theorem pA.short {l:List aT} (h:pA l):l.length≤18:=by
 have:=EU l 4 (fun x hx=>by have:=h.each x hx;have:=this.aV;have:=(h.each x hx).file;omega) h.sorted (fun x hx=>(h.each x hx).aV)
 rcases this with h'|h'
 ·omega
 ·subst h';simp
theorem uj {l:List aT} (h:pA l) (p:aT→Bool):pA (jJ p l):=
 ⟨fun x hx=>h.each x (List.mem_filter.1 hx).1,List.Pairwise.filter _ h.sorted⟩
def uN (l:List aT) (now:Int):List aT:=jJ (fun x=>decide (x.ig≤now)) l
def NA (l:List aT) (c f:Int):List aT:=jJ (fun x=>isKey c f x) l
theorem P9 (l:List aT) (now:Int) (h:l.length<1000000):xC fuel l now=some (uN l now):=by
 have hi:iY fuel l now=some (match l.findIdx? (fun x=>eM x now)with|some i=>(i:Int)|none=> -1):=by
  unfold iY gV lr
  simp only[aE,aD,aF]
  rw[oG l (fun x=>eM x now) (lq l (l.length:Int) now) (fun i=>rfl) h,aw]
  cases l.findIdx? (fun x=>eM x now)<;>rfl
 unfold xC sX mP gw uN
 simp only[aE,get_ite,aD,aC,hi,aw]
 have hp:(fun x:aT=>decide (x.ig≤now))=fun x=>eM x now:=rfl
 rw[hp]
 cases hf:l.findIdx? (fun x=>eM x now)with
 |none=>rw[uk (k6 hf)];rfl
 |some i=>
  obtain⟨w,e,h1,h2⟩:=AG l (fun x=>eM x now) (kh now) (fun v=>rfl) h hf
  unfold kj
  rw[dj (show ¬(i:Int)= -1 by omega),e]
  simp only[cond_false,aw,h1,cond_true,h2]
theorem Sx (x:aT) (c f:Int):eA x c f=isKey c f x:=by
 unfold eA pR isKey
 simp only[aL,aK]
 cases x.Client==c<;>cases x.aX==f<;>rfl
theorem Sw (l:List aT) (c f:Int) (h:l.length<1000000):Ag fuel l c f=some (NA l c f):=by
 have hi:gW fuel l c f=some (match l.findIdx? (fun x=>eA x c f)with|some i=>(i:Int)|none=> -1):=by
  unfold gW fV jR
  simp only[aE,aD,aF]
  rw[oG l (fun x=>eA x c f) (jQ l (l.length:Int) c f) (fun i=>rfl) h,aw]
  cases l.findIdx? (fun x=>eA x c f)<;>rfl
 unfold Ag vd lz fJ NA
 simp only[aE,get_ite,aD,aC,hi,aw]
 have hp:(fun x:aT=>isKey c f x)=fun x=>eA x c f:=funext fun x=>(Sx x c f).symm
 rw[hp]
 cases hf:l.findIdx? (fun x=>eA x c f)with
 |none=>rw[uk (k6 hf)];rfl
 |some i=>
  obtain⟨w,e,h1,h2⟩:=AG l (fun x=>eA x c f) (jn c f) (fun v=>rfl) h hf
  unfold jo
  rw[dj (show ¬(i:Int)= -1 by omega),e]
  simp only[cond_false,aw,h1,cond_true,h2]
def yj (l:List aT) (now c f m:Int) (x:aT):Bool:=(x.aX==f)&&((x.Client != c)&&((lL l now x.Client f != 0)&&((m==2)||(lL l now x.Client f==2))))
def tq (l:List aT) (now c f m:Int):List Int:=(l.filter (yj l now c f m)).map (·.Client)
theorem F9 (l:List aT) (now c f m:Int) (hs:rO l) (h:l.length<1000000):pn fuel l now c f m=some (tq l now c f m):=by
 unfold pn s4 xE
 simp only[aE,aD]
 obtain⟨x,e,hx⟩:=dI (step:=ru fuel l now c f m l (l.length:Int)) (fun k v=> ∃i:Nat,v.1=(i:Int)∧i+k=l.length∧v.2=((l.take i).filter (yj l now c f m)).map (·.Client)) (fun r=>r=tq l now c f m) (fun k v hI=>by
  obtain⟨v1,v2⟩:=v
  obtain⟨i,hi,hk,hv⟩:=hI
  simp only at hi hv
  subst hi
  simp only[ru,pS,get_ite,aE,aD,aC]
  by_cases hlt:i<l.length
  ·have hlen:v2.length≤i:=by
    rw[hv,List.length_map]
    exact Nat.le_trans (List.length_filter_le _ _) (by simp;omega)
   have hnext:((l.take (i+1)).filter (yj l now c f m)).map (·.Client)=v2++(if yj l now c f m l[i]=true then[l[i].Client]else[]):=by
    rw[hv,List.take_succ_eq_append_getElem hlt,List.filter_append,List.map_append]
    cases hb:yj l now c f m l[i]<;>simp[hb]
   rw[dh hlt,bP hlt,Int.toNat_natCast,List.getElem?_eq_getElem hlt,aw,Gu l now _ f hs h,aw,bI (by omega),decide_eq_true (show v2.length+1≤dK by rw[cq];omega)]
   have go: ∀b,yj l now c f m l[i]=b→ ∃o,some (Sum.inl (((i+1:Nat):Int),v2++(if b=true then[l[i].Client]else[])))=some o∧Sum.elim (fun v':Int×List Int=> ∃k',k'<k∧ ∃i:Nat,v'.1=(i:Int)∧i+k'=l.length∧v'.2=((l.take i).filter (yj l now c f m)).map (·.Client)) (fun r=>r=tq l now c f m) o:=fun b hb=>
    ⟨_,rfl,k-1,by omega,i+1,rfl,by omega,by show _=_;rw[hnext,hb]⟩
   have hB:yj l now c f m l[i]=((l[i].aX==f)&&((l[i].Client != c)&&((lL l now l[i].Client f != 0)&&((m==2)||(lL l now l[i].Client f==2))))):=rfl
   by_cases h1:l[i].aX=f
   ·rw[show(l[i].aX != f)=false by simp[h1]]
    by_cases h2:l[i].Client=c
    ·rw[eu h2]
     have:=go false (by rw[hB];simp[h2])
     simpa using this
    ·rw[dj h2]
     by_cases h3:lL l now l[i].Client f=0
     ·rw[show(lL l now l[i].Client f != 0)=false by simp[h3]]
      have:=go false (by rw[hB];simp[h3])
      simpa using this
     ·rw[show(lL l now l[i].Client f != 0)=true by simp[h3]]
      by_cases h4:m=2
      ·rw[eu h4]
       exact go true (by rw[hB,eu h1,eu h4];simp[h2,h3])
      ·rw[dj h4]
       by_cases h5:lL l now l[i].Client f=2
       ·rw[eu h5]
        exact go true (by rw[hB,eu h1,eu h5];simp[h2,h3])
       ·rw[dj h5]
        have:=go false (by rw[hB,dj h4,dj h5];simp)
        simpa using this
   ·rw[show(l[i].aX != f)=true by simp[h1]]
    have:=go false (by rw[hB,dj h1];rfl)
    simpa using this
  ·obtain rfl:i=l.length:=by omega
   rw[dv]
   refine⟨_,rfl,?_⟩
   show v2=_
   rw[hv,List.take_length];rfl) l.length (0,[]) fuel ⟨0,rfl,by omega,rfl⟩ (cm (by omega))
 rw[e,aw,hx]
def rD:List aT→aT→List aT
 |[],x=>[x]
 |y::r,x=>if pW y x<0 then y::rD r x else if pW y x=0 then{y with Mode:=imax y.Mode x.Mode,ig:=imax y.ig x.ig} ::r else x::y::r
theorem Hy: ∀(l:List aT) (x:aT),rD l x=match l[low l x]? with
  |some y=>if pW y x=0 then l.set (low l x) {y with Mode:=imax y.Mode x.Mode,ig:=imax y.ig x.ig}else l.take (low l x)++[x]++l.drop (low l x)
  |none=>l++[x]
 |[],x=>rfl
 |y::r,x=>by
  unfold rD
  rw[Bz]
  by_cases h:pW y x<0
  ·rw[if_pos h,if_pos h,Hy r x]
   simp only[List.getElem?_cons_succ]
   cases r[low r x]? with
   |none=>rfl
   |some z=>
    simp only
    split<;>rfl
  ·rw[if_neg h,if_neg h]
   simp only[List.getElem?_cons_zero]
   split<;>rfl
theorem Ry (l:List aT) (x:aT) (hs:rO l) (h:l.length<1000000):xD fuel l x=some (rD l x):=by
 unfold xD sZ
 simp only[aE,get_ite,aD,aC,G3 l x hs h,aw,Hy l x]
 have hle:=Qv l x
 have hins:BI l (low l x:Int) [x]=true:=by unfold BI;simp[cq];omega
 cases hg:l[low l x]? with
 |none=>
  have hlen:l.length≤low l x:=List.getElem?_eq_none_iff.1 hg
  simp only[Bool.not_false,cond_true,hins]
  unfold yZ
  rw[Int.toNat_natCast,List.take_of_length_le hlen,List.drop_eq_nil_of_le hlen,List.append_nil]
 |some y=>
  have hlt:=og hg
  simp only
  by_cases hc:pW y x=0
  ·rw[decide_eq_true hc,if_pos hc,bP hlt,Int.toNat_natCast,hg]
   simp only[Bool.not_true,cond_false,cond_true,aw,List.length_set,bP hlt]
   rw[List.getElem?_set,if_pos rfl,if_pos hlt,aw,List.set_set]
  ·rw[decide_eq_false hc,if_neg hc,hins]
   rfl
theorem CA: ∀(l:List aT) (x z:aT),z∈rD l x→z=x∨z∈l∨ ∃y∈l,pW y x=0∧z={y with Mode:=imax y.Mode x.Mode,ig:=imax y.ig x.ig}
 |[],x,z,h=>by simp[rD]at h;exact Or.inl h
 |y::r,x,z,h=>by
  unfold rD at h
  split at h
  ·rcases List.mem_cons.1 h with h|h
   ·exact Or.inr (Or.inl (h▸List.mem_cons_self ..))
   ·rcases CA r x z h with h|h|⟨w,hw,e⟩
    ·exact Or.inl h
    ·exact Or.inr (Or.inl (List.mem_cons_of_mem _ h))
    ·exact Or.inr (Or.inr ⟨w,List.mem_cons_of_mem _ hw,e⟩)
  ·split at h
   ·rename_i hc
    rcases List.mem_cons.1 h with h|h
    ·exact Or.inr (Or.inr ⟨y,List.mem_cons_self ..,hc,h⟩)
    ·exact Or.inr (Or.inl (List.mem_cons_of_mem _ h))
   ·rcases List.mem_cons.1 h with h|h
    ·exact Or.inl h
    ·exact Or.inr (Or.inl h)
theorem BN: ∀(l:List aT) (x:aT),rO l→rO (rD l x)
 |[],x,_=>List.pairwise_singleton _ _
 |y::r,x,hs=>by
  have hr:rO r:=List.Pairwise.of_cons hs
  have hy: ∀z∈r,rv y z:=fun z hz=>List.rel_of_pairwise_cons hs hz
  unfold rD
  split
  ·rename_i hc
   refine List.pairwise_cons.2 ⟨fun z hz=> ?_,BN r x hr⟩
   rcases CA r x z hz with h|h|⟨w,hw,_,h⟩
   ·rw[h];exact B0.1 hc
   ·exact hy z h
   ·rw[h];exact hy w hw
  ·split
   ·exact List.pairwise_cons.2 ⟨fun z hz=>hy z hz,hr⟩
   ·rename_i h1 h2
    have hxy:rv x y:=by
     rw[B0]at h1
     rw[Jc]at h2
     unfold rv at h1⊢
     omega
    refine List.pairwise_cons.2 ⟨fun z hz=> ?_,hs⟩
    rcases List.mem_cons.1 hz with h|h
    ·rw[h];exact hxy
    ·exact DD hxy (hy z h)
theorem Nv {a b c:Int} (h:a≤c) (g:b≤c):imax a b≤c:=by unfold imax;split<;>assumption
theorem Ns {a b c:Int} (h:c≤a):c≤imax a b:=by unfold imax;split<;>omega
theorem IY {l:List aT} {x:aT} (h:pA l) (hx:NO x):pA (rD l x):=
 ⟨fun z hz=>by
  rcases CA l x z hz with e|e|⟨y,hy,_,e⟩
  ·rw[e];exact hx
  ·exact h.each z e
  ·have g:=h.each y hy
   rw[e]
   exact⟨g.aV,g.file,⟨Ns g.mode.1,Nv g.mode.2 hx.mode.2⟩,⟨Ns g.Uh.1,Nv g.Uh.2 hx.Uh.2⟩⟩,BN l x h.sorted⟩
open Go
def fE (l:List bG) (c:Int):List bG:=jJ (fun w=>w.Client==c) l
theorem xA (l:List bG) (c:Int) (h:l.length<1000000):qC fuel l c=some (fE l c):=by
 have hi:jx fuel l c=some (match l.findIdx? (fun x=>fM x c)with|some i=>(i:Int)|none=> -1):=by
  unfold jx iA lT
  simp only[aE,aD,aF]
  rw[oG l (fun x=>fM x c) (lS l (l.length:Int) c) (fun i=>rfl) h,aw]
  cases l.findIdx? (fun x=>fM x c)<;>rfl
 unfold qC sn ng gY fE
 simp only[aE,get_ite,aD,aC,hi,aw]
 have hp:(fun x:bG=>x.Client==c)=fun x=>fM x c:=rfl
 rw[hp]
 cases hf:l.findIdx? (fun x=>fM x c)with
 |none=>rw[uk (k6 hf)];rfl
 |some i=>
  obtain⟨w,e,h1,h2⟩:=AG l (fun x=>fM x c) (lu c) (fun v=>rfl) h hf
  unfold lx
  rw[dj (show ¬(i:Int)= -1 by omega),e]
  simp only[cond_false,aw,h1,cond_true,h2]
def Iq (l:List bG) (c:Int):Option Nat:=l.findIdx? fun w=>w.Client==c
theorem Qb (l:List bG) (c:Int) (h:l.length<1000000):Ad fuel l c=some (match Iq l c with|some i=>(i:Int)|none=> -1):=by
 unfold Ad uX mN gq j9 Iq
 simp only[aE,aD,aF]
 rw[oG l (fun x=>lY x c) (j8 l (l.length:Int) c) (fun i=>rfl) h,aw]
 have:(fun x:bG=>x.Client==c)=fun x=>lY x c:=rfl
 rw[this]
 cases l.findIdx? (fun x=>lY x c)<;>rfl
def Lo (l:List bG) (w:bG):List bG×Bool:=
 if 4≤(fE l w.Client).length then(l,false)else(fE l w.Client++[w],true)
def oU (l:List bG) (w:bG):List bG×Bool:=
 match Iq l w.Client with
 |some i=>if((l[i]?).map (·.aX))=some w.aX then(l.set i w,true)else Lo l w
 |none=>Lo l w
theorem Me (l:List bG) (w:bG) (h:l.length<1000000):Fo fuel l w=some (oU l w):=by
 have hd:(fE l w.Client).length≤l.length:=List.length_filter_le _ _
 unfold Fo Ae oU
 simp only[aE,get_ite,aD,aC,Qb l w.Client h,xA l w.Client h,aw]
 have tail:(bif decide (((fE l w.Client).length:Int)≥4)then some (l,false)else bif decide ((fE l w.Client).length+1≤dK)then some (fE l w.Client++[w],true)else none)=some (Lo l w):=by
  unfold Lo
  by_cases h4:4≤(fE l w.Client).length
  ·rw[if_pos h4,decide_eq_true (show((fE l w.Client).length:Int)≥4 by omega)];rfl
  ·rw[if_neg h4,decide_eq_false (show ¬((fE l w.Client).length:Int)≥4 by omega),decide_eq_true (show(fE l w.Client).length+1≤dK by rw[cq];omega)];rfl
 cases hf:Iq l w.Client with
 |none=>exact tail
 |some i=>
  obtain⟨hlt,_,_⟩:=fh hf
  simp only
  rw[decide_eq_true (show(i:Int)≥0 by omega),bP hlt,Int.toNat_natCast,List.getElem?_eq_getElem hlt]
  simp only[cond_true,aw,Option.map_some]
  by_cases hk:l[i].aX=w.aX
  ·rw[eu hk,if_pos (by rw[hk])];rfl
  ·rw[dj hk,if_neg (fun e=>hk (Option.some.inj e))];exact tail
def MW (l:List bG) (c f:Int):Bool:=match l.find? (fun w=>w.aX==f)with
 |some w=>w.Client != c
 |none=>false
theorem Rn (l:List bG) (c f:Int) (h:l.length<1000000):Af fuel l c f=some (MW l c f):=by
 unfold Af uY zj
 simp only[aE,aD,aF]
 obtain⟨x,e,hx⟩:=dI (step:=sV c f l (l.length:Int)) (fun k v=> ∃i:Nat,v=(i:Int)∧i+k=l.length∧l.find? (fun w=>w.aX==f)=(l.drop i).find? (fun w=>w.aX==f)) (fun r=>match l.find? (fun w=>w.aX==f)with|some w=>r= .inl (w.Client != c,w)|none=>r= .inr ()) (fun k v hI=>by
  obtain⟨i,hi,hk,he⟩:=hI
  subst hi
  simp only[sV,rr,get_ite,aE,aD,aC]
  by_cases hlt:i<l.length
  ·rw[dh hlt,bP hlt,Int.toNat_natCast,List.getElem?_eq_getElem hlt,aw,bI (by omega)]
   rw[List.drop_eq_getElem_cons hlt,List.find?_cons]at he
   by_cases hc:l[i].aX=f
   ·rw[show(l[i].aX != f)=false by simp[hc]]
    rw[eu hc]at he
    refine⟨_,rfl,?_⟩
    rw[he];rfl
   ·rw[show(l[i].aX != f)=true by simp[hc]]
    rw[dj hc]at he
    exact⟨_,rfl,k-1,by omega,i+1,rfl,by omega,he⟩
  ·obtain rfl:i=l.length:=by omega
   rw[dv]
   refine⟨_,rfl,?_⟩
   rw[List.drop_length]at he
   rw[he];rfl) l.length 0 fuel ⟨0,rfl,by omega,rfl⟩ (cm (by omega))
 rw[e,aw]
 unfold MW
 cases hf:l.find? (fun w=>w.aX==f)with
 |none=>rw[hf]at hx;rw[hx];rfl
 |some w=>rw[hf]at hx;rw[hx];rfl
structure AM (w:bG):Prop where
 aV:1≤w.Client∧w.Client≤3
 file:1≤w.aX∧w.aX≤6
 mode:1≤w.Mode∧w.Mode≤2
structure fQ (d:b9):Prop where
 iJ:pA d.bF
 line: ∀w∈d.cZ,AM w
 Pu:d.cZ.length≤4
def si (d:b9) (now:Int):b9:=⟨uN d.bF now,d.cZ⟩
def C8 (d:b9) (now:Int) (w:bG):List Int:=tq d.bF now w.Client w.aX w.Mode
def Sb (d:b9) (now:Int) (w:bG):Bool:=decide (C8 d now w=[])&& !MW d.cZ w.Client w.aX
def Qz (d:b9) (now:Int) (w:bG):b9:=⟨rD d.bF ⟨w.Client,w.aX,w.Mode,fT now 60⟩,fE d.cZ w.Client⟩
def ju (d:b9) (now:Int) (w:bG):b9×Bool×List Int×Int:=
 if Sb (si d now) now w=true then(Qz (si d now) now w,true,[],0)
 else if(oU d.cZ w).2=false then(si d now,false,[],3)
 else(⟨uN d.bF now,(oU d.cZ w).1⟩,false,tq (uN d.bF now) now w.Client w.aX w.Mode,0)
def BO (d:b9) (c f:Int):b9:=⟨NA d.bF c f,d.cZ⟩
theorem fQ.Io {d:b9} (h:fQ d) (now:Int):fQ (si d now):=⟨uj h.iJ _,h.line,h.Pu⟩
theorem fQ.UL {d:b9} (h:fQ d) (c f:Int):fQ (BO d c f):=⟨uj h.iJ _,h.line,h.Pu⟩
theorem UY {a:Int} (h0:0≤a) (h1:a≤9223372036854775807):(0≤fT a 60∧fT a 60≤9223372036854775807)∧fT a 60≤a+60∧(a≤9000000000000000000→fT a 60=a+60):=by
 unfold fT yi
 simp only[aL,aK]
 by_cases ha:a>0
 ·rw[decide_eq_true ha,bh (show-9223372036854775808≤9223372036854775807-a by omega) (by omega)]
  by_cases hb:(60:Int)>9223372036854775807-a
  ·rw[decide_eq_true hb];simp only[cond_true];refine⟨by omega,by omega,fun g=>by omega⟩
  ·rw[decide_eq_false hb,bh (show-9223372036854775808≤a+60 by omega) (by omega)];simp only[cond_true,cond_false];refine⟨by omega,by omega,fun _=>trivial⟩
 ·rw[decide_eq_false ha,bh (show-9223372036854775808≤a+60 by omega) (by omega)];simp only[cond_false];refine⟨by omega,by omega,fun _=>trivial⟩
theorem uZ {l:List bG} {c:Int} {w:bG} (h:w∈fE l c):w∈l:=(List.mem_filter.1 h).1
theorem fQ.lets {d:b9} (h:fQ d) {now:Int} (hn:0≤now∧now≤9223372036854775807) {w:bG} (hw:AM w):fQ (Qz d now w):=
 ⟨IY h.iJ ⟨hw.aV,hw.file,hw.mode,(UY hn.1 hn.2).1⟩,fun x hx=>h.line x (uZ hx),Nat.le_trans (List.length_filter_le _ _) h.Pu⟩
theorem Kf {l:List bG} (hl:l.length≤4) (w:bG):(oU l w).1.length≤4:=by
 have hadd:(Lo l w).1.length≤4:=by
  unfold Lo
  split
  ·exact hl
  ·simp;omega
 unfold oU
 split
 ·split
  ·simp;exact hl
  ·exact hadd
 ·exact hadd
theorem Ke {l:List bG} {w x:bG} (h:x∈(oU l w).1):x=w∨x∈l:=by
 have hadd:x∈(Lo l w).1→x=w∨x∈l:=fun h=>by
  unfold Lo at h
  split at h
  ·exact Or.inr h
  ·rcases List.mem_append.1 h with h|h
   ·exact Or.inr (uZ h)
   ·simp at h;exact Or.inl h
 unfold oU at h
 split at h
 ·split at h
  ·rcases List.mem_or_eq_of_mem_set h with h|h
   ·exact Or.inr h
   ·exact Or.inl h
  ·exact hadd h
 ·exact hadd h
theorem fQ.ask {d:b9} (h:fQ d) {now:Int} (hn:0≤now∧now≤9223372036854775807) {w:bG} (hw:AM w):fQ (ju d now w).1:=by
 unfold ju
 split
 ·exact(h.Io now).lets hn hw
 split
 ·exact h.Io now
 ·exact⟨uj h.iJ _,fun x hx=>by rcases Ke hx with e|e;rw[e];exact hw;exact h.line x e,Kf h.Pu w⟩
theorem Ot {d:b9} (h:fQ d) (now:Int):x3 fuel d now=some (si d now):=by
 unfold x3 tm
 simp only[aE,aD,P9 d.bF now (by have:=h.iJ.short;omega)];rfl
theorem O6 {d:b9} (h:fQ d) (now:Int) (w:bG):oK fuel d now w=some (C8 d now w):=by
 unfold oK qv
 simp only[aE,aD,F9 d.bF now w.Client w.aX w.Mode h.iJ.sorted (by have:=h.iJ.short;omega)];rfl
theorem SA {d:b9} (h:fQ d) (now:Int) (w:bG):FU fuel d now w=some (Sb d now w):=by
 unfold FU AE Sb
 simp only[aE,get_ite,aD,O6 h,aw,Rn d.cZ w.Client w.aX (by have:=h.Pu;omega)]
 have e:(((C8 d now w).length:Int)==0)=decide (C8 d now w=[]):=by
  cases C8 d now w with
  |nil=>rfl
  |cons a r=>simp<;>omega
 rw[e]
 cases decide (C8 d now w=[])<;>rfl
theorem QY {d:b9} (h:fQ d) (now:Int) (w:bG):C1 fuel d now w=some (Qz d now w):=by
 unfold C1 x6
 simp only[aE,aD,Ry d.bF _ h.iJ.sorted (by have:=h.iJ.short;omega),aw,xA d.cZ w.Client (by have:=h.Pu;omega)];rfl
theorem SH {d:b9} (h:fQ d) (now:Int) (w:bG):FV fuel d now w=some (ju d now w):=by
 have hp:=h.Io now
 unfold FV AF ju
 simp only[aE,get_ite,aD,Ot h,aw,SA hp,QY hp,show(si d now).cZ=d.cZ from rfl,Me d.cZ w (by have:=h.Pu;omega)]
 have hl:pA (uN d.bF now):=hp.iJ
 have hcl:oK fuel {si d now with cZ:=(oU d.cZ w).1} now w=some (tq (uN d.bF now) now w.Client w.aX w.Mode):=by
  unfold oK qv
  simp only[aE,aD]
  show(pn fuel (uN d.bF now) now w.Client w.aX w.Mode).bind _=_
  rw[F9 _ now w.Client w.aX w.Mode hl.sorted (by have:=hl.short;omega)];rfl
 cases Sb (si d now) now w with
 |true=>rfl
 |false=>
  rw[if_neg (by simp)]
  cases hq:(oU d.cZ w).2 with
  |false=>rfl
  |true=>
   rw[if_neg (by simp)]
   simp only[cond_false,Bool.not_true]
   rw[hcl];rfl
theorem KT {d:b9} (h:fQ d) (c f:Int):oL fuel d c f=some (BO d c f):=by
 unfold oL x7
 simp only[aE,aD,Sw d.bF c f (by have:=h.iJ.short;omega)];rfl
end Go.Proofs.YtlejgahbbfeagaaGreatDoor.N

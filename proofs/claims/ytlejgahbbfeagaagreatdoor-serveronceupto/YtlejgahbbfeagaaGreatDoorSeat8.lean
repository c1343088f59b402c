/- Plain words for this seat (22). Plain words for this seat (23). Plain words for this seat (24). Plain words for this seat (25). Plain words for this seat (26). Plain words for this seat (27). Plain words for this seat (28). Plain words for this seat (30). Plain words for this seat (40). Plain words for this seat (41). Plain words for this seat (42). -/
import Derived.Test.YtlejgahbbfeagaaGreatDoorSeat7
import Derived.KernelRfl
set_option linter.unusedVariables false
set_option linter.unusedSimpArgs false
namespace Go.Proofs.YtlejgahbbfeagaaGreatDoor.N
open Go
structure Valid (home:Nat) (l:List bJ):Prop where
 len:l.length≤16
 each: ∀p∈l,HY home p
 sorted:l.Pairwise fun p q=>p.At<q.At
theorem U8 (d:aT) (home:Nat) (l:List bJ) (hv:Valid home l) (hn:home+l.length<d.bz.length) (hN:d.bz.length≤1000):F4 fuel d (home:Int) l=some true:=by
 unfold F4 AO D5
 try simp only[get_ite,aE,aD,aC,aF,aL,aK]
 have hlen:=hv.len
 obtain⟨x,e,hx⟩:=dR (step:=yh (home:Int) l l (l.length:Int) d) (fun k v=> ∃i:Nat,v.2=(i:Int)∧i+k=l.length∧ ∀p∈l.drop i,v.1<p.At) (fun r=>r= .inr ()) (fun k v hI=>by
  obtain⟨v1,v2⟩:=v
  obtain⟨i,h1,hk,h2⟩:=hI
  simp only at h1 h2
  subst h1
  simp only[yh,vM,get_ite,aE,aD,aC,aF,aL,aK]
  by_cases hlt:i<l.length
  ·have hdr:l.drop i=l[i] ::l.drop (i+1):=List.drop_eq_getElem_cons hlt
   have hs:=hv.sorted.sublist (List.drop_sublist i l)
   rw[hdr]at h2 hs
   obtain⟨g0,g1,g2⟩:=hv.each _ (List.getElem_mem hlt)
   have g3:=h2 _ (List.mem_cons_self ..)
   rw[da hlt,bP hlt,Int.toNat_natCast,List.getElem?_eq_getElem hlt]
   simp only[cond_true,aw]
   rw[decide_eq_false (show ¬l[i].At≤v1 by omega),decide_eq_false (show ¬l[i].At≥(home:Int)by omega),g2,bG (by omega)]
   exact⟨_,rfl,k-1,by omega,i+1,rfl,by omega,fun p hp=>List.rel_of_pairwise_cons hs hp⟩
  ·obtain rfl:i=l.length:=by omega
   rw[db]
   exact⟨_,rfl,rfl⟩) l.length (-1,0) fuel ⟨0,rfl,by omega,fun p hp=>by have:=(hv.each p hp).1;show(-1:Int)<p.At;omega⟩ (cr (by omega))
 rw[e,hx,aw]
 simp only[fu]
 rw[decide_eq_true (show(l.length:Int)≤16 by omega),bq (by omega) (by omega),decide_eq_true (show(home:Int)+(l.length:Int)<(d.bz.length:Int)by omega)]
 rfl
def eY (l:List bJ):List UInt8:=1::b8 (l.length:Int) ::(l.map (fun p=>b8 p.At)++(List.replicate (29-l.length) 0++[1]))
theorem zd (l:List bJ) (h:l.length≤16):(eY l).length=32:=by
 unfold eY
 simp only[List.length_cons,List.length_append,List.length_map,List.length_replicate,List.length_nil]
 omega
def Cg (l:List bJ) (i:Nat):List UInt8:=1::b8 (l.length:Int) ::((l.take i).map (fun p=>b8 p.At)++(List.replicate (29-i) 0++[1]))
theorem Nd (l:List bJ) (i:Nat) (h:i<l.length) (h16:l.length≤16):(Cg l i).set (2+i) (b8 l[i].At)=Cg l (i+1):=by
 unfold Cg
 rw[show 2+i=i+1+1 by omega,List.set_cons_succ,List.set_cons_succ]
 congr 2
 rw[List.set_append_right _ _ (by rw[List.length_map,List.length_take];omega),List.length_map,List.length_take,show i-min i l.length=0 by omega,show 29-i=(29-(i+1))+1 by omega,List.replicate_succ,List.cons_append,List.set_cons_zero,List.take_add_one,List.getElem?_eq_getElem h,List.map_append,List.append_assoc]
 rfl
theorem EX (l:List bJ) (h16:l.length≤16) (hp: ∀p∈l,0≤p.At∧p.At<256):Dd fuel l=some (eY l):=by
 unfold Dd yi
 try simp only[get_ite,aE,aD,aC,aF,aL,aK]
 have e0:(([0,0,0,0,0,0,0,0,0,0,0,0,0,0,0,0,0,0,0,0,0,0,0,0,0,0,0,0,0,0,0,0]:List Nat).set 0 1)[1]? =some 0:=rfl
 have e1:((([0,0,0,0,0,0,0,0,0,0,0,0,0,0,0,0,0,0,0,0,0,0,0,0,0,0,0,0,0,0,0,0]:List UInt8).set 0 1).set 1 (b8 (qE (l.length:Int))))[31]? =some 0:=rfl
 have e2:cL 1 (([0,0,0,0,0,0,0,0,0,0,0,0,0,0,0,0,0,0,0,0,0,0,0,0,0,0,0,0,0,0,0,0]:List Nat).set 0 1).length=true:=rfl
 have e3:cL 31 ((([0,0,0,0,0,0,0,0,0,0,0,0,0,0,0,0,0,0,0,0,0,0,0,0,0,0,0,0,0,0,0,0]:List UInt8).set 0 1).set 1 (b8 (qE (l.length:Int)))).length=true:=rfl
 rw[e2,e0,e3,e1]
 simp only[cond_true,aw]
 have e4:((([0,0,0,0,0,0,0,0,0,0,0,0,0,0,0,0,0,0,0,0,0,0,0,0,0,0,0,0,0,0,0,0]:List UInt8).set 0 1).set 1 (b8 (qE (l.length:Int)))).set 31 1=Cg l 0:=by
  rw[IF (by omega) (by omega)]
  rfl
 rw[e4]
 unfold Ca
 obtain⟨x,e,hx⟩:=dR (step:=vN l (l.length:Int)) (fun k v=> ∃i:Nat,v.1=(i:Int)∧i+k=l.length∧v.2=Cg l i) (fun r=>r=eY l) (fun k v hI=>by
  obtain⟨v1,v2⟩:=v
  obtain⟨i,h1,hk,h2⟩:=hI
  simp only at h1 h2
  subst h1 h2
  simp only[vN,tK,get_ite,aE,aD,aC,aF,aL,aK]
  by_cases hlt:i<l.length
  ·obtain⟨g0,g1⟩:=hp _ (List.getElem_mem hlt)
   have hlen:2+i<(Cg l i).length:=by
    unfold Cg
    simp only[List.length_cons,List.length_append,List.length_map,List.length_replicate,List.length_nil,List.length_take]
    omega
   rw[da hlt,bP hlt,Int.toNat_natCast,List.getElem?_eq_getElem hlt]
   simp only[cond_true,aw]
   rw[bq (show-9223372036854775808≤2+(i:Int)by omega) (by omega),show 2+(i:Int)=((2+i:Nat):Int)by omega,bP hlen,Int.toNat_natCast,List.getElem?_eq_getElem hlen]
   simp only[cond_true,aw]
   rw[IF g0 g1,Nd l i hlt h16,bG (by omega)]
   exact⟨_,rfl,k-1,by omega,i+1,rfl,by omega,rfl⟩
  ·obtain rfl:i=l.length:=by omega
   rw[db]
   refine⟨_,rfl,?_⟩
   unfold Cg eY
   rw[List.take_length]
   rfl) l.length (0,Cg l 0) fuel ⟨0,rfl,by omega,rfl⟩ (cr (by omega))
 rw[e,hx]
 rfl
def cy:Nat→List bJ→List bJ
 |_,[]=>[]
 |n,p::r=>⟨(n:Int),p.B⟩ ::cy (n+1) r
theorem wB: ∀(n:Nat) (l:List bJ),(cy n l).length=l.length
 |_,[]=>rfl
 |n,p::r=>by rw[cy,List.length_cons,List.length_cons,wB]
theorem k8: ∀(n:Nat) (l:List bJ) (q:bJ),q∈cy n l→ ∃p∈l,(n:Int)≤q.At∧q.At<((n+l.length:Nat):Int)∧q.B=p.B
 |_,[],_,h=>by cases h
 |n,p::r,q,h=>by
  rw[cy]at h
  rcases List.mem_cons.1 h with rfl|h
  ·exact⟨p,List.mem_cons_self ..,by show(n:Int)≤n;omega,by show(n:Int)<_;rw[List.length_cons];omega,rfl⟩
  ·obtain⟨p',h1,h2,h3,h4⟩:=k8 (n+1) r q h
   exact⟨p',List.mem_cons_of_mem _ h1,by omega,by rw[List.length_cons];omega,h4⟩
theorem Ix (home:Nat) (l t:List bJ) (o:aT) (ok:Bool) (r4:List (List UInt8)) (r5:List bJ) (hh:home≤1000) (hl:t.length≤16): ∀(r:List bJ) (i:Nat) (d:aT) (x:aT) (n:Nat),t.drop i=r→i≤t.length→r.length<n→Hr d→d.Down=false→d.bM.length+r.length<1000→(∀p∈cy (home+1+i) r,HY d.bz.length p)→
  ∃z,iter (nO (home:Int) l t (t.length:Int) o ok r4 r5) n ((i:Int),x,⟨d⟩)=some z∧(((dz d (cy (home+1+i) r)).2=true∧ ∃y,z= .inr (y,⟨(dz d (cy (home+1+i) r)).1⟩))∨((dz d (cy (home+1+i) r)).2=false∧ ∃y u,z= .inl (y,⟨(dz d (cy (home+1+i) r)).1⟩,u)))
 |_,_,_,_,0,_,_,h,_,_,_,_=>absurd h (Nat.not_lt_zero _)
 |[],i,d,x,n+1,hdr,hi,_,hd,hdn,_,_=>by
  obtain rfl:i=t.length:=Nat.le_antisymm hi (List.drop_eq_nil_iff.1 hdr)
  rw[bw]
  simp only[nO,mg,get_ite,aE,aD,aC,aF,aL,aK,db,cond_false]
  exact⟨_,rfl,.inl ⟨rfl,_,rfl⟩⟩
 |p::r,i,d,x,n+1,hdr,hi,hn,hd,hdn,hw,hp=>by
  have hlt:i<t.length:=by
   rcases Nat.lt_or_ge i t.length with h|h
   ·exact h
   ·rw[List.drop_eq_nil_iff.2 h]at hdr;cases hdr
  have hd2:t.drop i=t[i] ::t.drop (i+1):=List.drop_eq_getElem_cons hlt
  rw[hdr]at hd2
  obtain⟨e1,e2⟩:=List.cons.inj hd2
  rw[bw]
  simp only[nO,mg,get_ite,aE,aD,aC,aF,aL,aK]
  rw[List.length_cons]at hw hn
  have hpk:=hp _ (by rw[cy];exact List.mem_cons_self ..)
  rw[da hlt,bP hlt,Int.toNat_natCast,List.getElem?_eq_getElem hlt,←e1]
  simp only[cond_true,aw]
  rw[bq (show-9223372036854775808≤(home:Int)+1 by omega) (by omega),bq (show-9223372036854775808≤(home:Int)+1+(i:Int)by omega) (by omega),show(home:Int)+1+(i:Int)=((home+1+i:Nat):Int)by omega,CF d hd (by omega) hdn _ _ hpk,aw,cy,dz]
  unfold Qm
  cases hD:(dF d ⟨((home+1+i:Nat):Int),p.B⟩).Down with
  |true=>exact⟨_,rfl,.inr ⟨rfl,_,_,rfl⟩⟩
  |false=>
   simp only[cond_false,bB]
   rw[bG (by omega)]
   exact Ix home l t o ok r4 r5 hh hl r (i+1) (dF d ⟨((home+1+i:Nat):Int),p.B⟩) _ n e2.symm hlt (by omega) (uQ hd (by omega) hpk) hD (by rw[qR];simp;omega) (fun q hq=>by rw[fQ];exact hp q (by rw[cy];exact List.mem_cons_of_mem _ hq))
theorem HO (t:List bJ) (o:aT) (ok:Bool) (r4:List (List UInt8)) (r5:List bJ) (hl:t.length≤16): ∀(r:List bJ) (i:Nat) (d:aT) (x:aT) (n:Nat),t.drop i=r→i≤t.length→r.length<n→Hr d→d.Down=false→d.bM.length+r.length<1000→(∀p∈r,HY d.bz.length p)→
  ∃z,iter (nN t (t.length:Int) o ok r4 r5) n ((i:Int),x,⟨d⟩)=some z∧(((dz d r).2=true∧ ∃y,z= .inr (y,⟨(dz d r).1⟩))∨((dz d r).2=false∧ ∃y u,z= .inl (y,⟨(dz d r).1⟩,u)))
 |_,_,_,_,0,_,_,h,_,_,_,_=>absurd h (Nat.not_lt_zero _)
 |[],i,d,x,n+1,hdr,hi,_,hd,hdn,_,_=>by
  obtain rfl:i=t.length:=Nat.le_antisymm hi (List.drop_eq_nil_iff.1 hdr)
  rw[bw]
  simp only[nN,me,get_ite,aE,aD,aC,aF,aL,aK,db,cond_false]
  exact⟨_,rfl,.inl ⟨rfl,_,rfl⟩⟩
 |p::r,i,d,x,n+1,hdr,hi,hn,hd,hdn,hw,hp=>by
  have hlt:i<t.length:=by
   rcases Nat.lt_or_ge i t.length with h|h
   ·exact h
   ·rw[List.drop_eq_nil_iff.2 h]at hdr;cases hdr
  have hd2:t.drop i=t[i] ::t.drop (i+1):=List.drop_eq_getElem_cons hlt
  rw[hdr]at hd2
  obtain⟨e1,e2⟩:=List.cons.inj hd2
  rw[bw]
  simp only[nN,me,get_ite,aE,aD,aC,aF,aL,aK]
  rw[List.length_cons]at hw hn
  have hpk:=hp p (List.mem_cons_self ..)
  rw[da hlt,bP hlt,Int.toNat_natCast,List.getElem?_eq_getElem hlt,←e1]
  simp only[cond_true,aw]
  rw[CF d hd (by omega) hdn _ _ hpk,aw,dz]
  unfold Qm
  cases hD:(dF d p).Down with
  |true=>exact⟨_,rfl,.inr ⟨rfl,_,_,rfl⟩⟩
  |false=>
   simp only[cond_false,bB]
   rw[bG (by omega)]
   exact HO t o ok r4 r5 hl r (i+1) (dF d p) _ n e2.symm hlt (by omega) (uQ hd (by omega) hpk) hD (by rw[qR];simp;omega) (fun q hq=>by rw[fQ];exact hp q (List.mem_cons_of_mem _ hq))
def rounds (d:aT) (home:Nat) (l:List bJ):aT×Bool:=
 bif (dF d ⟨(home:Int),dj⟩).Down then(dF d ⟨(home:Int),dj⟩,false)
 else bif (dz (bK (dF d ⟨(home:Int),dj⟩)) (cy (home+1) l)).2 then
  (bif (dF (bK (dz (bK (dF d ⟨(home:Int),dj⟩)) (cy (home+1) l)).1) ⟨(home:Int),eY l⟩).Down then(dF (bK (dz (bK (dF d ⟨(home:Int),dj⟩)) (cy (home+1) l)).1) ⟨(home:Int),eY l⟩,false)
  else bif (dz (bK (dF (bK (dz (bK (dF d ⟨(home:Int),dj⟩)) (cy (home+1) l)).1) ⟨(home:Int),eY l⟩)) l).2 then(bK (dz (bK (dF (bK (dz (bK (dF d ⟨(home:Int),dj⟩)) (cy (home+1) l)).1) ⟨(home:Int),eY l⟩)) l).1,true)
   else((dz (bK (dF (bK (dz (bK (dF d ⟨(home:Int),dj⟩)) (cy (home+1) l)).1) ⟨(home:Int),eY l⟩)) l).1,false))
 else((dz (bK (dF d ⟨(home:Int),dj⟩)) (cy (home+1) l)).1,false)
theorem uR: ∀(ws:List bJ) (d:aT),(dz d ws).1.bz=d.bz
 |[],d=>rfl
 |p::r,d=>by
  rw[dz]
  cases (dF d p).Down with
  |true=>exact fQ d p
  |false=>rw[cond_false,uR r,fQ]
theorem kH (d:aT):(bK d).bz.length=d.bz.length:=lA d.bM d.bz
theorem Qh (d:aT) (hd:Hr d) (hdn:d.Down=false) (hW:d.bM.length<1000) (home:Nat) (l:List bJ) (hl:l≠[]) (hv:Valid home l) (hn:home+l.length<d.bz.length) (hh:home≤256):sZ fuel d (home:Int) l=some (rounds d home l):=by
 unfold sZ tL rounds
 try simp only[get_ite,aE,aD,aC,aF,aL,aK]
 have h16:=hv.len
 have hlp:0<l.length:=List.length_pos_iff.2 hl
 have hN:=hd.len
 rw[show((l.length:Int)==0)=false from di (by omega),U8 d home l hv hn hN]
 simp only[cond_false,aw,Bool.not_true]
 have hz:HY d.bz.length ⟨(home:Int),dj⟩:=⟨by show(0:Int)≤home;omega,by show(home:Int)<_;omega,rfl⟩
 have w1:=OS d hd hW hdn (home:Int) dj hz
 have w1':jZ (home:Int) [0,0,0,0,0,0,0,0,0,0,0,0,0,0,0,0,0,0,0,0,0,0,0,0,0,0,0,0,0,0,0,0] ⟨d⟩=_:=w1
 rw[w1',aw]
 have d1:=uQ hd hW hz
 have L1:=fQ d ⟨(home:Int),dj⟩
 generalize dF d ⟨(home:Int),dj⟩=a at d1 L1
 cases hD:a.Down with
 |true=>rfl
 |false=>
  simp only[cond_false,bB]
  rw[yY a d1 hD,aw]
  simp only[bB]
  have d2:=mI d1
  have hD2:(bK a).Down=false:=hD
  have N2:(bK a).bz.length=d.bz.length:=by rw[kH,L1]
  have W2:(bK a).bM=[]:=rfl
  generalize bK a=b at d2 hD2 N2 W2
  have hcp: ∀p∈cy (home+1) l,HY b.bz.length p:=by
   intro p hp
   obtain⟨q,hq,h1,h2,h3⟩:=k8 _ _ _ hp
   exact⟨by omega,by rw[N2];omega,by rw[h3];exact(hv.each q hq).2.2⟩
  obtain⟨z,e,hz⟩:=Ix home l l d false d.bz d.bM (by omega) h16 l 0 b (aT.mk [] [] 0 false) fuel rfl (by omega) (cr (by omega)) d2 hD2 (by rw[W2];simp;omega) hcp
  have e':yk fuel (home:Int) l l (l.length:Int) d false d.bz d.bM 0 (aT.mk [] [] 0 false) ⟨b⟩=some z:=e
  rw[e',aw]
  have d3:=w6 (cy (home+1) l) b d2 (by rw[W2,wB];simp;omega) hcp
  have L3:=uR (cy (home+1) l) b
  rw[Nat.add_zero]at hz
  rcases Ab (cy (home+1) l) b hD2 with⟨g1,g2⟩|⟨g1,g2⟩
  rotate_left
  ·rcases hz with⟨h,_⟩|⟨_,y,u,rfl⟩
   ·rw[g1]at h;cases h
   ·rw[g1];rfl
  ·rcases hz with⟨_,y,rfl⟩|⟨h,_⟩
   rotate_left
   ·rw[g1]at h;cases h
   rw[g1]
   simp only[fu,cond_true]
   generalize (dz b (cy (home+1) l)).1=c at d3 L3 g2
   rw[yY c d3 g2,aw]
   simp only[bB]
   have d4:=mI d3
   have hD4:(bK c).Down=false:=g2
   have N4:(bK c).bz.length=d.bz.length:=by rw[kH,L3,N2]
   have W4:(bK c).bM=[]:=rfl
   generalize bK c=q at d4 hD4 N4 W4
   have hq:HY q.bz.length ⟨(home:Int),eY l⟩:=⟨by show(0:Int)≤home;omega,by show(home:Int)<_;omega,zd l h16⟩
   rw[EX l h16 (fun p hp=>by obtain⟨h1,h2,_⟩:=hv.each p hp;exact⟨h1,by omega⟩),aw,CF q d4 (by rw[W4];simp) hD4 _ _ hq,aw]
   have d5:=uQ d4 (by rw[W4];simp) hq
   have L5:=fQ q ⟨(home:Int),eY l⟩
   generalize dF q ⟨(home:Int),eY l⟩=u at d5 L5
   unfold Qm
   cases hDu:u.Down with
   |true=>rfl
   |false=>
    simp only[cond_false,bB]
    rw[yY u d5 hDu,aw]
    simp only[bB]
    have d6:=mI d5
    have hD6:(bK u).Down=false:=hDu
    have N6:(bK u).bz.length=d.bz.length:=by rw[kH,L5,N4]
    have W6:(bK u).bM=[]:=rfl
    generalize bK u=v at d6 hD6 N6 W6
    have hlv: ∀p∈l,HY v.bz.length p:=by
     intro p hp
     obtain⟨h1,h2,h3⟩:=hv.each p hp
     exact⟨h1,by rw[N6];omega,h3⟩
    obtain⟨z2,e2,hz2⟩:=HO l d false d.bz d.bM h16 l 0 v (aT.mk [] [] y.im y.Down) fuel rfl (by omega) (cr (by omega)) d6 hD6 (by rw[W6];simp;omega) hlv
    have e2':yj fuel l (l.length:Int) d false d.bz d.bM 0 (aT.mk [] [] y.im y.Down) ⟨v⟩=some z2:=e2
    rw[e2',aw]
    have d7:=w6 l v d6 (by rw[W6];simp;omega) hlv
    rcases Ab l v hD6 with⟨k1,k2⟩|⟨k1,k2⟩
    ·rcases hz2 with⟨_,y2,rfl⟩|⟨h,_⟩
     ·rw[k1]
      simp only[fu,cond_true]
      rw[yY _ d7 k2]
      rfl
     ·rw[k1]at h;cases h
    ·rcases hz2 with⟨h,_⟩|⟨_,y2,u2,rfl⟩
     ·rw[k1]at h;cases h
     ·rw[k1];rfl
open Go
def Og (L:List (List UInt8)):Nat→List bJ→List bJ
 |_,[]=>[]
 |n,p::r=>⟨p.At,L.getD n []⟩ ::Og L (n+1) r
open Go
def IM (L:List (List UInt8)) (p:bJ) (n:Nat):List (List UInt8):=L.set p.At.toNat (p.B.take n++(L.getD p.At.toNat []).drop n)
def Bf:Option Int→Nat
 |some k=>(min (max k 0) 32).toNat
 |none=>0
def nW (L:List (List UInt8)):List bJ→List Int→List (List UInt8)
 |[],_=>L
 |p::r,ks=>nW (IM L p (Bf ks.head?)) r ks.tail
theorem Iy (o:Option Int):Bf o≤32:=by
 cases o with
 |none=>exact Nat.zero_le _
 |some k=>show(min (max k 0) 32).toNat≤32;omega
theorem Kk (L:List (List UInt8)) (p:bJ) (n:Nat):(IM L p n).length=L.length:=List.length_set
theorem Iw: ∀(ws:List bJ) (L:List (List UInt8)) (ks:List Int),(nW L ws ks).length=L.length
 |[],L,ks=>rfl
 |p::r,L,ks=>by rw[nW,Iw r,Kk]
set_option maxRecDepth 100000
open Go
theorem S3:rj fuel=some 9:=by rw[pn];kernel_rfl
theorem S2:pQ kv=List.replicate 9 dj:=by kernel_rfl
def after (L:List (List UInt8)) (home:Nat) (l:List bJ):List (List UInt8):=wr (wr (wr (wr L [⟨(home:Int),dj⟩]) (cy (home+1) l)) [⟨(home:Int),eY l⟩]) l
theorem MP (L:List (List UInt8)) (home:Nat) (l:List bJ):rounds ⟨L,[],0,false⟩ home l=(⟨after L home l,[],0,false⟩,true):=by
 unfold rounds
 have w1: ∀(L:List (List UInt8)) (p:bJ),dF ⟨L,[],0,false⟩ p=⟨L,[p],0,false⟩:=fun L p=>rfl
 have f1: ∀(L:List (List UInt8)) (ws:List bJ),bK ⟨L,ws,0,false⟩=⟨wr L ws,[],0,false⟩:=fun L ws=>rfl
 have m1: ∀(L:List (List UInt8)) (ws:List bJ),dz ⟨L,[],0,false⟩ ws=(⟨L,ws,0,false⟩,true):=fun L ws=>yX ws ⟨L,[],0,false⟩ rfl (Int.le_refl _) (.inl rfl)
 rw[w1,f1,m1]
 simp only[cond_false,cond_true]
 rw[f1,w1,f1,m1]
 simp only[cond_false,cond_true]
 rw[f1]
 rfl
theorem getD_set_ne {α:Type} (L:List α) (i j:Nat) (x d:α) (h:i≠j):(L.set i x).getD j d=L.getD j d:=by
 rw[List.getD_eq_getElem?_getD,List.getD_eq_getElem?_getD,List.getElem?_set_ne h]
theorem iR {α:Type} (L:List α) (i:Nat) (x d:α) (h:i<L.length):(L.set i x).getD i d=x:=by
 rw[List.getD_eq_getElem?_getD,List.getElem?_set_self h]
 rfl
theorem gE: ∀(ws:List bJ) (L:List (List UInt8)) (i:Nat),(∀p∈ws,p.At.toNat≠i)→(wr L ws).getD i []=L.getD i []
 |[],L,i,_=>rfl
 |p::r,L,i,h=>by
  show(wr (L.set p.At.toNat p.B) r).getD i []=_
  rw[gE r _ i (fun q hq=>h q (List.mem_cons_of_mem _ hq)),getD_set_ne _ _ _ _ _ (h p (List.mem_cons_self ..))]
theorem NX: ∀(ws:List bJ) (L:List (List UInt8)) (p:bJ),p∈ws→(∀q∈ws,0≤q.At)→ws.Pairwise (fun a b=>a.At<b.At)→p.At.toNat<L.length→(wr L ws).getD p.At.toNat []=p.B
 |[],_,_,h,_,_,_=>by cases h
 |q::r,L,p,h,h0,hs,hl=>by
  show(wr (L.set q.At.toNat q.B) r).getD p.At.toNat []=_
  rcases List.mem_cons.1 h with rfl|h
  ·rw[gE r _ _ (fun x hx=>by
    have:=List.rel_of_pairwise_cons hs hx
    have:=h0 p (List.mem_cons_self ..)
    omega),iR _ _ _ _ hl]
  ·exact NX r _ p h (fun x hx=>h0 x (List.mem_cons_of_mem _ hx)) (List.Pairwise.of_cons hs) (by rw[List.length_set];exact hl)
theorem DG (L:List (List UInt8)) (home:Nat) (l:List bJ):(after L home l).length=L.length:=by
 unfold after;rw[lA,lA,lA,lA]
theorem NP (L:List (List UInt8)) (home:Nat) (l:List bJ) (i:Nat) (hi:i<home):(after L home l).getD i []=(wr L l).getD i []:=by
 have hw: ∀(l:List bJ) (A B:List (List UInt8)),A.length=B.length→A.getD i []=B.getD i []→(wr A l).getD i []=(wr B l).getD i []:=by
  intro l
  induction l with
  |nil=>intro A B _ h;exact h
  |cons p r ih=>
   intro A B hl h
   refine ih (A.set p.At.toNat p.B) (B.set p.At.toNat p.B) (by rw[List.length_set,List.length_set];exact hl) ?_
   by_cases hp:p.At.toNat=i
   ·by_cases hlt:i<A.length
    ·rw[hp,iR _ _ _ _ hlt,iR _ _ _ _ (by omega)]
    ·rw[List.getD_eq_getElem?_getD,List.getD_eq_getElem?_getD,List.getElem?_eq_none (by rw[List.length_set];omega),List.getElem?_eq_none (by rw[List.length_set];omega)]
   ·rw[getD_set_ne _ _ _ _ _ hp,getD_set_ne _ _ _ _ _ hp,h]
 unfold after
 refine hw l _ _ (by rw[lA,lA,lA]) ?_
 have h1: ∀(A:List (List UInt8)) (b:List UInt8),(wr A [⟨(home:Int),b⟩]).getD i []=A.getD i []:=fun A b=>gE _ _ _ (fun p hp=>by rw[List.mem_singleton.1 hp];show(home:Int).toNat≠i;omega)
 rw[h1,gE _ _ _ (fun p hp=>by obtain⟨_,_,h2,_⟩:=k8 _ _ _ hp;omega),h1]
structure ab6 (d:aT) (s:aI):Prop where
 ok:Hr d
 len:d.bz.length=19
 wait:d.bM=[]
 up:d.Down=false
 at_: ∀i,i<9→d.bz.getD i []=(pQ s).getD i []
theorem Nv {s t:aI} (hs:Good 1073741824 s) (ht:Good 1073741824 t):Valid 9 (lz (pQ s) (pQ t)):=by
 have l2:=Cc ht
 refine⟨?_,fun p hp=> ?_,Eg _ _⟩
 ·have:=Gu (pQ s) (pQ t) (pQ t).length
  unfold lz
  omega
 ·obtain⟨i,y,hi,hy,_,rfl⟩:=FO hp
  exact⟨by show(0:Int)≤i;omega,by show(i:Int)<_;omega,Rv ht y (List.mem_of_getElem? hy)⟩
theorem Sp {s t:aI} (hs:Good 1073741824 s) (ht:Good 1073741824 t) (L:List (List UInt8)) (hL:9≤L.length) (h: ∀i,i<9→L.getD i []=(pQ s).getD i []) (i:Nat) (hi:i<9):(wr L (lz (pQ s) (pQ t))).getD i []=(pQ t).getD i []:=by
 have l1:=Cc hs
 have l2:=Cc ht
 have ht2:(pQ t)[i]? =some ((pQ t).getD i []):=by rw[List.getD_eq_getElem?_getD,List.getElem?_eq_getElem (by omega)];rfl
 have hs2:(pQ s)[i]? =some ((pQ s).getD i []):=by rw[List.getD_eq_getElem?_getD,List.getElem?_eq_getElem (by omega)];rfl
 by_cases hn:(pQ s)[i]? ≠some ((pQ t).getD i [])
 ·have hm:=LD ht2 hn
  exact NX _ L _ hm (fun q hq=>by obtain⟨j,_,_,_,_,rfl⟩:=FO hq;show(0:Int)≤j;omega) (Eg _ _) (by show i<L.length;omega)
 ·have hn:=Decidable.of_not_not hn
  rw[gE _ _ _ (fun q hq hqi=>by
   obtain⟨j,y,_,hy,hne,rfl⟩:=FO hq
   have:j=i:=hqi
   subst this
   rw[ht2]at hy
   cases hy
   exact hne hn),h i hi]
  rw[hs2]at hn
  exact Option.some.inj hn
theorem Qf:ab6 ⟨List.replicate 19 dj,[],0,false⟩ kv:=by
 refine⟨⟨fun x hx=>by rw[List.eq_of_mem_replicate hx];rfl,by show(List.replicate 19 dj).length≤1000;rw[List.length_replicate];omega,(fun q hq=>nomatch hq),by show(0:Nat)≤1000;omega,Int.le_refl _,by show(0:Int)≤1000;omega⟩,List.length_replicate,rfl,rfl,fun i hi=> ?_⟩
 rw[S2]
 show(List.replicate 19 dj).getD i []=_
 rw[List.getD_eq_getElem?_getD,List.getD_eq_getElem?_getD,List.getElem?_replicate,List.getElem?_replicate,if_pos (by omega),if_pos (by omega)]
open Go
def C2 (s:List UInt8):Prop:=s[0]? ≠some 1∨s[31]? ≠some 1
def jm (h:Nat) (L:List (List UInt8)) (T:Nat→List UInt8):Prop:=
 (C2 (L.getD h [])∧ ∀i,i<h→L.getD i []=T i)∨
 (∃q,q≠[]∧Valid h q∧h+q.length<L.length∧L.getD h []=eY q∧ ∀i,i<h→(wr L (Og L (h+1) q)).getD i []=T i)
theorem AB (L:List (List UInt8)): ∀(l:List bJ) (n:Nat),(∀(j:Nat) p,l[j]? =some p→L.getD (n+j) []=p.B)→Og L n l=l
 |[],n,_=>rfl
 |p::r,n,h=>by
  rw[Og,AB L r (n+1) (fun j q hj=>by
   have:=h (j+1) q hj
   rw[show n+1+j=n+(j+1)by omega]
   exact this)]
  have:=h 0 p rfl
  rw[Nat.add_zero]at this
  rw[this]
theorem CG: ∀(l:List bJ) (n:Nat) (L:List (List UInt8)),n+l.length≤L.length→ ∀(j:Nat) p,l[j]? =some p→(wr L (cy n l)).getD (n+j) []=p.B
 |[],_,_,_,j,p,h=>by cases h
 |q::r,n,L,hl,j,p,h=>by
  rw[List.length_cons]at hl
  rw[cy]
  show(wr (L.set (n:Int).toNat q.B) (cy (n+1) r)).getD (n+j) []=_
  cases j with
  |zero=>
   cases h
   rw[gE _ _ _ (fun x hx=>by obtain⟨_,_,h2,_⟩:=k8 _ _ _ hx;omega),Int.toNat_natCast]
   exact iR _ _ _ _ (by omega)
  |succ j=>
   have:=CG r (n+1) (L.set (n:Int).toNat q.B) (by rw[List.length_set];omega) j p h
   rw[show n+(j+1)=n+1+j by omega]
   exact this
theorem ri (L:List (List UInt8)) (p:bJ) (k i:Nat) (h:p.At.toNat≠i):(IM L p k).getD i []=L.getD i []:=getD_set_ne _ _ _ _ _ h
theorem m8: ∀(ws:List bJ) (L:List (List UInt8)) (ks:List Int) (i:Nat),(∀p∈ws,p.At.toNat≠i)→(nW L ws ks).getD i []=L.getD i []
 |[],L,ks,i,_=>rfl
 |p::r,L,ks,i,h=>by
  rw[nW,m8 r _ _ i (fun q hq=>h q (List.mem_cons_of_mem _ hq)),ri _ _ _ _ (h p (List.mem_cons_self ..))]
theorem NV (l:List bJ) (hs:l.Pairwise (fun a b=>a.At<b.At)) (h0: ∀p∈l,0≤p.At) (A B:List (List UInt8)) (hlen:A.length=B.length) (hl: ∀p∈l,p.At.toNat<A.length) (i:Nat) (h:(∀p∈l,p.At.toNat≠i)→A.getD i []=B.getD i []):(wr A l).getD i []=(wr B l).getD i []:=by
 by_cases hin: ∃p∈l,p.At.toNat=i
 ·obtain⟨p,hp,rfl⟩:=hin
  rw[NX l A p hp h0 hs (hl p hp),NX l B p hp h0 hs (by rw[←hlen];exact hl p hp)]
 ·have hn: ∀p∈l,p.At.toNat≠i:=fun p hp he=>hin ⟨p,hp,he⟩
  rw[gE _ _ _ hn,gE _ _ _ hn,h hn]
structure Clean (h:Nat) (L:List (List UInt8)) (T:Nat→List UInt8):Prop where
 at_: ∀i,i<h→L.getD i []=T i
 YR:jm h L T
theorem Clean.ZB {h:Nat} {L:List (List UInt8)} {T:Nat→List UInt8} (hn:C2 (L.getD h [])) (ha: ∀i,i<h→L.getD i []=T i):Clean h L T:=⟨ha,.inl ⟨hn,ha⟩⟩
theorem Je (k:Nat) (hk:1≤k) (hk2:k≤32) (s:List UInt8):C2 (dj.take k++s):=by
 left
 cases k with
 |zero=>omega
 |succ k=>
  show some (0:UInt8)≠some 1
  decide
theorem KQ (k:Nat) (hk:k<32) (s:List UInt8) (hs:s.length=32):C2 (s.take k++dj.drop k):=by
 right
 rw[List.getElem?_append_right (by rw[List.length_take];omega),List.length_take,hs,Nat.min_eq_left (by omega),List.getElem?_drop,show k+(31-k)=31 by omega]
 decide
theorem DY:C2 dj:=by left;decide
def Hd (L:List (List UInt8)) (l:List bJ) (i:Nat):List UInt8:=(wr L l).getD i []
theorem Km {h:Nat} {L:List (List UInt8)} {T:Nat→List UInt8} (hL: ∀x∈L,x.length=32) (hN:L.length≤1000) (hc:Clean h L T) (l:List bJ) (hl:l≠[]) (hv:Valid h l) (hn:h+l.length<L.length) (A:Int) (hA0:0≤A) (hA1:A≤900) (aM:List Int):
  ((rounds ⟨L,[],A,false⟩ h l).2=true∧(rounds ⟨L,[],A,false⟩ h l).1.bz=after L h l∧(rounds ⟨L,[],A,false⟩ h l).1.bM=[]∧(rounds ⟨L,[],A,false⟩ h l).1.Down=false)∨
  ((rounds ⟨L,[],A,false⟩ h l).2=false∧(jm h (nW (rounds ⟨L,[],A,false⟩ h l).1.bz (rounds ⟨L,[],A,false⟩ h l).1.bM aM) T∨jm h (nW (rounds ⟨L,[],A,false⟩ h l).1.bz (rounds ⟨L,[],A,false⟩ h l).1.bM aM) (Hd L l))):=by
 have hlp:0<l.length:=List.length_pos_iff.2 hl
 have h16:=hv.len
 obtain⟨L1,hL1⟩: ∃L1,wr L [⟨(h:Int),dj⟩]=L1:=⟨_,rfl⟩
 obtain⟨L2,hL2⟩: ∃L2,wr L1 (cy (h+1) l)=L2:=⟨_,rfl⟩
 obtain⟨L3,hL3⟩: ∃L3,wr L2 [⟨(h:Int),eY l⟩]=L3:=⟨_,rfl⟩
 have l1:L1.length=L.length:=by rw[←hL1,lA]
 have l2:L2.length=L.length:=by rw[←hL2,lA,l1]
 have l3:L3.length=L.length:=by rw[←hL3,lA,l2]
 have hone: ∀(X:List (List UInt8)) (b:List UInt8) (i:Nat),i≠h→(wr X [⟨(h:Int),b⟩]).getD i []=X.getD i []:=fun X b i hi=>gE _ _ _ (fun p hp=>by rw[List.mem_singleton.1 hp];show(h:Int).toNat≠i;omega)
 have honeh: ∀(X:List (List UInt8)) (b:List UInt8),h<X.length→(wr X [⟨(h:Int),b⟩]).getD h []=b:=fun X b hx=>by
  show(X.set (h:Int).toNat b).getD h []=b
  rw[Int.toNat_natCast,iR _ _ _ _ hx]
 have g1: ∀i,i<h→L1.getD i []=T i:=fun i hi=>by rw[←hL1,hone _ _ _ (by omega),hc.at_ i hi]
 have g2: ∀i,i<h→L2.getD i []=T i:=fun i hi=>by rw[←hL2,gE _ _ _ (fun p hp=>by obtain⟨_,_,h2,_⟩:=k8 _ _ _ hp;omega),g1 i hi]
 have g3: ∀i,i<h→L3.getD i []=T i:=fun i hi=>by rw[←hL3,hone _ _ _ (by omega),g2 i hi]
 have z1:L1.getD h []=dj:=by rw[←hL1];exact honeh _ _ (by omega)
 have z2:L2.getD h []=dj:=by rw[←hL2,gE _ _ _ (fun p hp=>by obtain⟨_,_,h2,_⟩:=k8 _ _ _ hp;omega),z1]
 have z3:L3.getD h []=eY l:=by rw[←hL3];exact honeh _ _ (by omega)
 have c2: ∀(j:Nat) p,l[j]? =some p→L2.getD (h+1+j) []=p.B:=by rw[←hL2];exact CG l (h+1) L1 (by omega)
 have c3: ∀(j:Nat) p,l[j]? =some p→L3.getD (h+1+j) []=p.B:=fun j p hj=>by rw[←hL3,hone _ _ _ (by omega),c2 j p hj]
 have key: ∀X:List (List UInt8),X.length=L.length→X.getD h []=eY l→(∀(j:Nat) p,l[j]? =some p→X.getD (h+1+j) []=p.B)→(∀i,i<h→(∀p∈l,p.At.toNat≠i)→X.getD i []=T i)→jm h X (Hd L l):=by
  intro X hX hh hcp ho
  refine .inr ⟨l,hl,hv,by omega,hh,fun i hi=> ?_⟩
  rw[AB X l (h+1) hcp]
  unfold Hd
  exact NV l hv.sorted (fun p hp=>(hv.each p hp).1) X L hX (fun p hp=>by have:=(hv.each p hp).2.1;have:=(hv.each p hp).1;omega) i (fun hn=>by rw[ho i hi hn,hc.at_ i hi])
 unfold rounds
 by_cases a1:A=1
 ·have w:dF ⟨L,[],A,false⟩ ⟨(h:Int),dj⟩=⟨L,[⟨(h:Int),dj⟩],0,true⟩:=by rw[a1];rfl
  rw[w]
  right
  refine⟨rfl,.inl ?_⟩
  show jm h (IM L ⟨(h:Int),dj⟩ (Bf aM.head?)) T
  have hk:=Iy aM.head?
  generalize Bf aM.head?=k at hk
  have hh:(IM L ⟨(h:Int),dj⟩ k).getD h []=dj.take k++(L.getD h []).drop k:=by
   show(L.set (h:Int).toNat _).getD h []=_
   rw[Int.toNat_natCast,iR _ _ _ _ (by omega)]
  by_cases k0:k=0
  ·have:IM L ⟨(h:Int),dj⟩ k=L:=by
    subst k0
    show L.set (h:Int).toNat ((L.getD (h:Int).toNat []).drop 0)=L
    rw[Int.toNat_natCast,List.drop_zero,List.getD_eq_getElem?_getD,List.getElem?_eq_getElem (show h<L.length by omega)]
    exact List.set_getElem_self _
   rw[this]
   exact hc.YR
  ·exact .inl ⟨by rw[hh];exact Je k (by omega) hk _,fun i hi=>by rw[ri _ _ _ _ (by show(h:Int).toNat≠i;omega),hc.at_ i hi]⟩
 ·obtain⟨A1,hA1'⟩: ∃A1,(if A=0 then 0 else A-1)=A1:=⟨_,rfl⟩
  have w:dF ⟨L,[],A,false⟩ ⟨(h:Int),dj⟩=⟨L,[⟨(h:Int),dj⟩],A1,false⟩:=by
   unfold dF
   by_cases a0:A>0
   ·rw[if_pos a0]
    rw[if_neg (by omega)]at hA1'
    show aT.mk L _ (A-1) (A-1==0)=_
    rw[hA1']
    congr 1
    exact di (by omega)
   ·rw[if_neg a0]
    rw[if_pos (by omega)]at hA1'
    show aT.mk L _ A false=_
    rw[show A=A1 by omega]
    rfl
  have f:bK ⟨L,[⟨(h:Int),dj⟩],A1,false⟩=⟨L1,[],A1,false⟩:=by rw[←hL1];rfl
  rw[w,f]
  simp only[cond_false]
  by_cases a2:1≤A1∧A1≤((cy (h+1) l).length:Int)
  ·rw[CH _ _ rfl a2.1 a2.2]
   right
   refine⟨rfl,.inl (.inl ⟨?_,fun i hi=> ?_⟩)⟩
   ·show C2 ((nW L1 ([]++(cy (h+1) l).take A1.toNat) aM).getD h [])
    rw[m8 _ _ _ _ (fun p hp=>by
     rw[List.nil_append]at hp
     obtain⟨_,_,h2,_⟩:=k8 _ _ _ (List.mem_of_mem_take hp)
     omega),z1]
    exact DY
   ·show(nW L1 ([]++(cy (h+1) l).take A1.toNat) aM).getD i []=T i
    rw[m8 _ _ _ _ (fun p hp=>by
     rw[List.nil_append]at hp
     obtain⟨_,_,h2,_⟩:=k8 _ _ _ (List.mem_of_mem_take hp)
     omega),g1 i hi]
  ·obtain⟨A2,hA2'⟩: ∃A2,(if A1=0 then 0 else A1-((cy (h+1) l).length:Int))=A2:=⟨_,rfl⟩
   have m:dz ⟨L1,[],A1,false⟩ (cy (h+1) l)=(⟨L1,cy (h+1) l,A2,false⟩,true):=by
    rw[yX _ _ rfl (by show 0≤A1;omega) (by show A1=0∨_<A1;omega)]
    show(aT.mk L1 ([]++cy (h+1) l) (if A1=0 then 0 else _) false,true)=_
    rw[hA2',List.nil_append]
   have f2:bK ⟨L1,cy (h+1) l,A2,false⟩=⟨L2,[],A2,false⟩:=by rw[←hL2];rfl
   rw[m]
   simp only[cond_true]
   rw[f2]
   by_cases a3:A2=1
   ·have w2:dF ⟨L2,[],A2,false⟩ ⟨(h:Int),eY l⟩=⟨L2,[⟨(h:Int),eY l⟩],0,true⟩:=by rw[a3];rfl
    rw[w2]
    right
    refine⟨rfl,?_⟩
    show jm h (IM L2 ⟨(h:Int),eY l⟩ (Bf aM.head?)) T∨jm h (IM L2 ⟨(h:Int),eY l⟩ (Bf aM.head?)) (Hd L l)
    have hk:=Iy aM.head?
    generalize Bf aM.head?=k at hk
    have hh:(IM L2 ⟨(h:Int),eY l⟩ k).getD h []=(eY l).take k++dj.drop k:=by
     show(L2.set (h:Int).toNat ((eY l).take k++(L2.getD (h:Int).toNat []).drop k)).getD h []=_
     rw[Int.toNat_natCast,iR _ _ _ _ (by omega),z2]
    by_cases k32:k=32
    ·right
     refine key _ (by rw[Kk,l2]) ?_ (fun j p hj=>by rw[ri _ _ _ _ (by show(h:Int).toNat≠_;omega),c2 j p hj]) (fun i hi _=>by rw[ri _ _ _ _ (by show(h:Int).toNat≠_;omega),g2 i hi])
     rw[hh,k32,List.take_of_length_le (by rw[zd l h16];exact Nat.le_refl _),show dj.drop 32=[]from rfl,List.append_nil]
    ·left
     exact .inl ⟨by rw[hh];exact KQ k (by omega) _ (zd l h16),fun i hi=>by rw[ri _ _ _ _ (by show(h:Int).toNat≠i;omega),g2 i hi]⟩
   ·obtain⟨A3,hA3'⟩: ∃A3,(if A2=0 then 0 else A2-1)=A3:=⟨_,rfl⟩
    have w2:dF ⟨L2,[],A2,false⟩ ⟨(h:Int),eY l⟩=⟨L2,[⟨(h:Int),eY l⟩],A3,false⟩:=by
     unfold dF
     by_cases a0:A2>0
     ·rw[if_pos a0]
      rw[if_neg (by omega)]at hA3'
      show aT.mk L2 _ (A2-1) (A2-1==0)=_
      rw[hA3']
      congr 1
      exact di (by omega)
     ·rw[if_neg a0]
      show aT.mk L2 _ A2 false=_
      rw[show A2=A3 by
       split at hA3'
       ·omega
       ·split at hA2'<;>omega]
      rfl
    have f3:bK ⟨L2,[⟨(h:Int),eY l⟩],A3,false⟩=⟨L3,[],A3,false⟩:=by rw[←hL3];rfl
    rw[w2,f3]
    simp only[cond_false]
    by_cases a4:1≤A3∧A3≤(l.length:Int)
    ·rw[CH _ _ rfl a4.1 a4.2]
     right
     refine⟨rfl,.inr ?_⟩
     show jm h (nW L3 ([]++l.take A3.toNat) aM) (Hd L l)
     rw[List.nil_append]
     refine key _ (by rw[Iw,l3]) ?_ (fun j p hj=> ?_) (fun i hi hn=> ?_)
     ·rw[m8 _ _ _ _ (fun p hp=>by have:=(hv.each p (List.mem_of_mem_take hp)).2.1;have:=(hv.each p (List.mem_of_mem_take hp)).1;omega),z3]
     ·rw[m8 _ _ _ _ (fun q hq=>by have:=(hv.each q (List.mem_of_mem_take hq)).2.1;have:=(hv.each q (List.mem_of_mem_take hq)).1;omega),c3 j p hj]
     ·rw[m8 _ _ _ _ (fun q hq=>hn q (List.mem_of_mem_take hq)),g3 i hi]
    ·left
     have hA2nn:0≤A2:=by
      rw[wB]at a2 hA2'
      split at hA2'<;>omega
     have hA3nn:0≤A3:=by split at hA3'<;>omega
     rw[yX _ _ rfl (by show 0≤A3;exact hA3nn) (by show A3=0∨_<A3;omega)]
     refine⟨rfl,?_,rfl,rfl⟩
     show wr L3 ([]++l)=after L h l
     rw[List.nil_append]
     unfold after
     rw[hL1,hL2,hL3]
open Go
structure ahY (d:aT):Prop where
 ok:Hr d
 len:d.bz.length=19
 wait:d.bM=[]
 up:d.Down=false
 arm:d.im=0
open Go
theorem jm.congr {h:Nat} {L:List (List UInt8)} {T T':Nat→List UInt8} (hs:jm h L T) (he: ∀i,i<h→T i=T' i):jm h L T':=by
 rcases hs with⟨a,b⟩|⟨q,a,b,c,d,e⟩
 ·exact .inl ⟨a,fun i hi=>(b i hi).trans (he i hi)⟩
 ·exact .inr ⟨q,a,b,c,d,fun i hi=>(e i hi).trans (he i hi)⟩
theorem Clean.congr {h:Nat} {L:List (List UInt8)} {T T':Nat→List UInt8} (hs:Clean h L T) (he: ∀i,i<h→T i=T' i):Clean h L T':=⟨fun i hi=>(hs.at_ i hi).trans (he i hi),hs.YR.congr he⟩
theorem LU {h:Nat} {L:List (List UInt8)} {l:List bJ} (hl:l≠[]) (hv:Valid h l) (hn:h+l.length<L.length):Clean h (after L h l) (Hd L l):=by
 have hat: ∀i,i<h→(after L h l).getD i []=Hd L l i:=fun i hi=>NP L h l i hi
 have hbig: ∀i,h≤i→(after L h l).getD i []=(wr (wr (wr L [⟨(h:Int),dj⟩]) (cy (h+1) l)) [⟨(h:Int),eY l⟩]).getD i []:=fun i hi=>by
  unfold after
  rw[gE l _ i (fun p hp=>by have:=(hv.each p hp).2.1;have:=(hv.each p hp).1;omega)]
 have hh:(after L h l).getD h []=eY l:=by
  rw[hbig h (Nat.le_refl _)]
  show(List.set _ (h:Int).toNat (eY l)).getD h []=_
  rw[Int.toNat_natCast,iR _ _ _ _ (by rw[lA,lA];omega)]
 have hc: ∀(j:Nat) p,l[j]? =some p→(after L h l).getD (h+1+j) []=p.B:=fun j p hj=>by
  rw[hbig _ (by omega),gE _ _ _ (fun x hx=>by rw[List.mem_singleton.1 hx];show(h:Int).toNat≠_;omega)]
  exact CG l (h+1) _ (by rw[lA];omega) j p hj
 refine⟨hat,.inr ⟨l,hl,hv,by rw[DG];exact hn,hh,fun i hi=> ?_⟩⟩
 rw[AB _ l (h+1) hc]
 unfold Hd
 exact NV l hv.sorted (fun p hp=>(hv.each p hp).1) _ L (DG L h l) (fun p hp=>by rw[DG];have:=(hv.each p hp).2.1;have:=(hv.each p hp).1;omega) i (fun hno=>by rw[hat i hi];unfold Hd;exact gE _ _ _ hno)
theorem O9 (d:aT) (hd:Hr d) (hW:d.bM=[]) (home:Nat) (l:List bJ) (hv:Valid home l) (hn:home+l.length<d.bz.length):Hr (rounds d home l).1∧(rounds d home l).1.bz.length=d.bz.length:=by
 unfold rounds
 have h16:=hv.len
 have hz:HY d.bz.length ⟨(home:Int),dj⟩:=⟨by show(0:Int)≤home;omega,by show(home:Int)<_;omega,rfl⟩
 have d1:=uQ hd (by rw[hW];simp) hz
 have L1:=fQ d ⟨(home:Int),dj⟩
 generalize dF d ⟨(home:Int),dj⟩=a at d1 L1
 cases a.Down with
 |true=>exact⟨d1,by rw[cond_true,L1]⟩
 |false=>
  simp only[cond_false]
  have d2:=mI d1
  have N2:(bK a).bz.length=d.bz.length:=by rw[kH,L1]
  have W2:(bK a).bM=[]:=rfl
  generalize bK a=b at d2 N2 W2
  have hcp: ∀p∈cy (home+1) l,HY b.bz.length p:=by
   intro p hp
   obtain⟨q,hq,h1,h2,h3⟩:=k8 _ _ _ hp
   exact⟨by omega,by rw[N2];omega,by rw[h3];exact(hv.each q hq).2.2⟩
  have d3:=w6 (cy (home+1) l) b d2 (by rw[W2,wB];simp;omega) hcp
  have L3:=uR (cy (home+1) l) b
  cases (dz b (cy (home+1) l)).2 with
  |false=>exact⟨d3,by rw[cond_false,L3,N2]⟩
  |true=>
   simp only[cond_true]
   generalize (dz b (cy (home+1) l)).1=c at d3 L3
   have d4:=mI d3
   have N4:(bK c).bz.length=d.bz.length:=by rw[kH,L3,N2]
   have W4:(bK c).bM=[]:=rfl
   generalize bK c=q at d4 N4 W4
   have hq:HY q.bz.length ⟨(home:Int),eY l⟩:=⟨by show(0:Int)≤home;omega,by show(home:Int)<_;omega,zd l h16⟩
   have d5:=uQ d4 (by rw[W4];simp) hq
   have L5:=fQ q ⟨(home:Int),eY l⟩
   generalize dF q ⟨(home:Int),eY l⟩=u at d5 L5
   cases u.Down with
   |true=>exact⟨d5,by rw[cond_true,L5,N4]⟩
   |false=>
    simp only[cond_false]
    have d6:=mI d5
    have N6:(bK u).bz.length=d.bz.length:=by rw[kH,L5,N4]
    have W6:(bK u).bM=[]:=rfl
    generalize bK u=v at d6 N6 W6
    have hlv: ∀p∈l,HY v.bz.length p:=by
     intro p hp
     obtain⟨h1,h2,h3⟩:=hv.each p hp
     exact⟨h1,by rw[N6];omega,h3⟩
    have d7:=w6 l v d6 (by rw[W6];simp;omega) hlv
    have L7:=uR l v
    cases (dz v l).2 with
    |true=>exact⟨mI d7,by rw[cond_true,kH,L7,N6]⟩
    |false=>exact⟨d7,by rw[cond_false,L7,N6]⟩
theorem Bm (d:aT) (p:bJ):(dF d p).im≤d.im:=by
 unfold dF
 split
 ·show d.im-1≤d.im;omega
 ·exact Int.le_refl _
theorem CI: ∀(ws:List bJ) (d:aT),(dz d ws).1.im≤d.im
 |[],d=>Int.le_refl _
 |p::r,d=>by
  rw[dz]
  cases (dF d p).Down with
  |true=>exact Bm d p
  |false=>exact Int.le_trans (CI r _) (Bm d p)
theorem MO (d:aT) (home:Nat) (l:List bJ):(rounds d home l).1.im≤d.im:=by
 have hf: ∀e:aT,(bK e).im=e.im:=fun _=>rfl
 have h1:=Bm d ⟨(home:Int),dj⟩
 have h2:=CI (cy (home+1) l) (bK (dF d ⟨(home:Int),dj⟩))
 have h3:=Bm (bK (dz (bK (dF d ⟨(home:Int),dj⟩)) (cy (home+1) l)).1) ⟨(home:Int),eY l⟩
 have h4:=CI l (bK (dF (bK (dz (bK (dF d ⟨(home:Int),dj⟩)) (cy (home+1) l)).1) ⟨(home:Int),eY l⟩))
 rw[hf]at h2 h3 h4
 unfold rounds
 cases (dF d ⟨(home:Int),dj⟩).Down with
 |true=>exact h1
 |false=>
  cases (dz (bK (dF d ⟨(home:Int),dj⟩)) (cy (home+1) l)).2 with
  |false=>exact Int.le_trans h2 h1
  |true=>
   cases (dF (bK (dz (bK (dF d ⟨(home:Int),dj⟩)) (cy (home+1) l)).1) ⟨(home:Int),eY l⟩).Down with
   |true=>exact Int.le_trans h3 (Int.le_trans h2 h1)
   |false=>
    cases (dz (bK (dF (bK (dz (bK (dF d ⟨(home:Int),dj⟩)) (cy (home+1) l)).1) ⟨(home:Int),eY l⟩)) l).2 with
    |true=>exact Int.le_trans h4 (Int.le_trans h3 (Int.le_trans h2 h1))
    |false=>exact Int.le_trans h4 (Int.le_trans h3 (Int.le_trans h2 h1))
theorem NT {L:List (List UInt8)} {A:Int} {s t:aI} (hL: ∀x∈L,x.length=32) (hN:L.length=19) (hA0:0≤A) (hA1:A≤900) (hs:Good 1073741824 s) (ht:Good 1073741824 t) (hc:Clean 9 L (fun i=>(pQ s).getD i [])):
  ∃d' b,iX fuel ⟨⟨L,[],A,false⟩,s⟩ t=some (⟨d',bif b then t else s⟩,b)∧Hr d'∧d'.bz.length=19∧
   (b=true→d'.bM=[]∧d'.Down=false∧Clean 9 d'.bz (fun i=>(pQ t).getD i []))∧
   (b=false→ ∀aM,jm 9 (nW d'.bz d'.bM aM) (fun i=>(pQ s).getD i [])∨jm 9 (nW d'.bz d'.bM aM) (fun i=>(pQ t).getD i []))∧
   (A=0→b=true∧d'.im=0)∧d'.im≤A:=by
 have l1:=Cc hs
 have l2:=Cc ht
 have d0:Hr ⟨L,[],A,false⟩:=⟨hL,by show L.length≤1000;omega,(fun q hq=>nomatch hq),by show(0:Nat)≤1000;omega,hA0,by show A≤1000;omega⟩
 unfold iX rk
 try simp only[get_ite,aE,aD,aC,aF,aL,aK]
 rw[Sc _ (F9 ht),aw,HP ht,show(((pQ t).length:Int)==0)=false from di (by omega),S3]
 simp only[cond_false,aw]
 rw[Sc _ (F9 hs),aw,HP hs,TU _ _ (by omega),aw]
 by_cases he:lz (pQ s) (pQ t)=[]
 ·have hst:pQ s=pQ t:=(RK (by omega)).1 he
  rw[he]
  refine⟨⟨L,[],A,false⟩,true,rfl,d0,hN,fun _=>⟨rfl,rfl,?_⟩,fun h=>(by cases h),fun h=>⟨rfl,h⟩,Int.le_refl _⟩
  rw[←hst]
  exact hc
 ·have hv:=Nv hs ht
  have hlen9:(lz (pQ s) (pQ t)).length≤9:=by
   have:=Gu (pQ s) (pQ t) (pQ t).length
   unfold lz
   omega
  have hnew: ∀i,i<9→Hd L (lz (pQ s) (pQ t)) i=(pQ t).getD i []:=fun i hi=>Sp hs ht L (by omega) hc.at_ i hi
  have hcm:=Qh ⟨L,[],A,false⟩ d0 rfl (by show(0:Nat)<1000;omega) 9 _ he hv (by show 9+_<L.length;omega) (by omega)
  rw[show((9:Nat):Int)=9 from rfl]at hcm
  rw[hcm]
  obtain⟨k1,k2⟩:=O9 ⟨L,[],A,false⟩ d0 rfl 9 _ hv (by show 9+_<L.length;omega)
  have hcut:=Km hL (by omega) hc _ he hv (by omega) A hA0 hA1
  have hall:A=0→(rounds ⟨L,[],A,false⟩ 9 (lz (pQ s) (pQ t))).2=true∧(rounds ⟨L,[],A,false⟩ 9 (lz (pQ s) (pQ t))).1.im=0:=by
   rintro rfl
   rw[MP]
   exact⟨rfl,rfl⟩
  have harm:(rounds ⟨L,[],A,false⟩ 9 (lz (pQ s) (pQ t))).1.im≤A:=MO ⟨L,[],A,false⟩ 9 _
  generalize hR:rounds ⟨L,[],A,false⟩ 9 (lz (pQ s) (pQ t))=R at k1 k2 hcut hall harm
  obtain⟨d',b⟩:=R
  simp only at k1 k2 hcut hall harm
  refine⟨d',b,by cases b<;>rfl,k1,by rw[k2];exact hN,fun hb=> ?_,fun hb aM=> ?_,hall,harm⟩
  ·rcases hcut []with⟨_,c2,c3,c4⟩|⟨c1,_⟩
   ·refine⟨c3,c4,?_⟩
    rw[c2]
    exact(LU he hv (by omega)).congr hnew
   ·rw[hb]at c1;cases c1
  ·rcases hcut aM with⟨c1,_⟩|⟨_,c2⟩
   ·rw[hb]at c1;cases c1
   ·rcases c2 with c2|c2
    ·exact .inl c2
    ·exact .inr (c2.congr hnew)
theorem P6:Clean 9 (List.replicate 19 dj) (fun i=>(pQ kv).getD i []):=by
 refine Clean.ZB ?_ Qf.at_
 have:(List.replicate 19 dj).getD 9 []=dj:=by rw[List.getD_eq_getElem?_getD,List.getElem?_replicate,if_pos (by omega)];rfl
 rw[this]
 exact DY
open Go
def Mk {α:Type} (t:D.Tree α) (Q:α→Prop):Prop:= ∃r,t.get=some r∧Q r
theorem SQ {α:Type} {Q:α→Prop} {a:α} (h:Q a):Mk (.ret a) Q:=⟨a,rfl,h⟩
theorem Jd {α:Type} {Q:α→Prop} {c:Bool} {t e:D.Tree α} (h1:c=true→Mk t Q) (h2:c=false→Mk e Q):Mk (.ite c t e) Q:=by
 cases c
 ·obtain⟨r,a,b⟩:=h2 rfl;exact⟨r,a,b⟩
 ·obtain⟨r,a,b⟩:=h1 rfl;exact⟨r,a,b⟩
theorem DW {α:Type} {Q:α→Prop} {c:Bool} {t e:D.Tree α} (hc:c=true) (h:Mk t Q):Mk (.ite c t e) Q:=by subst hc;obtain⟨r,a,b⟩:=h;exact⟨r,a,b⟩
theorem xP {α:Type} {Q:α→Prop} {c:Bool} {t e:D.Tree α} (hc:c=false) (h:Mk e Q):Mk (.ite c t e) Q:=by subst hc;obtain⟨r,a,b⟩:=h;exact⟨r,a,b⟩
theorem jV {α β:Type} {Q:α→Prop} {o:Option β} {g:β→D.Tree α} {x:β} (h:o=some x) (h2:Mk (g x) Q):Mk (.opt o g) Q:=by
 subst h;obtain⟨r,a,b⟩:=h2;exact⟨r,a,b⟩
theorem Q6 {α β:Type} {P:β→Prop} {Q:α→Prop} {o:Option β} {g:β→D.Tree α} (h: ∃x,o=some x∧P x) (h2: ∀x,P x→Mk (g x) Q):Mk (.opt o g) Q:=by
 obtain⟨x,h,p⟩:=h;exact jV h (h2 x p)
theorem Ml {w:aX}:bU w=true→0≤w.og∧1≤w.B.length∧w.og+w.B.length≤24:=by
 intro h;have:=ji.1 h;omega
def Pe (b:List UInt8) (w:aX):List UInt8:=
 if bU w=true then((b++List.replicate (w.og.toNat-b.length) 0).take w.og.toNat++w.B)++b.drop (w.og.toNat+w.B.length)else b
def Qb (b:List UInt8) (l:List aX):List UInt8:=l.foldl Pe b
theorem KC (b:List UInt8) (w:aX) (hb:b.length≤24):(Pe b w).length≤24:=by
 unfold Pe
 split
 ·rename_i h
  obtain⟨h0,h1,h2⟩:=Ml h
  simp only[List.length_append,List.length_take,List.length_replicate,List.length_drop]
  omega
 ·exact hb
theorem Md: ∀(l:List aX) (b:List UInt8),b.length≤24→(Qb b l).length≤24
 |[],b,hb=>hb
 |w::l,b,hb=>Md l (Pe b w) (KC b w hb)
theorem Ls (b:List UInt8) (w:aX) (hb:b.length≤24):Gd b w=some (Pe b w):=by
 unfold Gd AV Pe
 cases h:bU w with
 |false=>rfl
 |true=>
  obtain⟨h0,h1,h2⟩:=Ml h
  simp only[get_ite,aD,aC,Bool.not_true,cond_false,if_true]
  obtain⟨n,hn⟩: ∃n:Nat,w.og=(n:Int):=⟨w.og.toNat,by omega⟩
  rw[hn,bq (show-9223372036854775808≤(n:Int)-(b.length:Int)by omega) (by omega),bq (show-9223372036854775808≤(n:Int)+(w.B.length:Int)by omega) (by omega),Int.toNat_natCast]
  have rep: ∀m:Int,m.toNat=n-b.length→pW ([0]:List UInt8) m=List.replicate (n-b.length) 0:=fun m hm=>by
   unfold pW;rw[hm];simp
  by_cases hc:(n:Int)-(b.length:Int)>0
  ·have e:=rep ((n:Int)-(b.length:Int)) (by omega)
   rw[decide_eq_true hc,cond_true,e]
   have hl:(b++List.replicate (n-b.length) (0:UInt8)).length=n:=by simp;omega
   rw[show Fw ([0]:List UInt8) ((n:Int)-(b.length:Int))=true by unfold Fw;simp[cw];omega,cond_true]
   have hmin:jE ((n:Int)+(w.B.length:Int)) ((b++List.replicate (n-b.length) (0:UInt8)).length:Int)=(n:Int):=by
    rw[hl];unfold jE;rw[if_pos (by omega)]
   rw[hmin,hl,fE (by omega) (by omega) (by omega),cond_true,fE (by omega) (by omega) (Int.le_refl _)]
   rw[qY]
   have hz:eD (b++List.replicate (n-b.length) (0:UInt8)) (n:Int) (n:Int)=[]:=by
    unfold eD;apply List.drop_eq_nil_of_le;simp;omega
   rw[hz]
   have hd:b.drop (n+w.B.length)=[]:=List.drop_eq_nil_of_le (by omega)
   rw[hd]
   simp only[List.length_append,List.length_replicate,List.length_take,List.length_nil]
   rw[decide_eq_true (show b.length+(n-b.length)≤dy by rw[cw];omega),cond_true]
   rw[decide_eq_true (show min n (b.length+(n-b.length))+w.B.length≤dy by rw[cw];omega),cond_true,cond_true]
   rw[decide_eq_true (show min n (b.length+(n-b.length))+w.B.length+0≤dy by rw[cw];omega),cond_true]
  ·rw[decide_eq_false hc,cond_false]
   have e:n-b.length=0:=by omega
   rw[e,List.replicate_zero,List.append_nil]
   rw[fE (by omega) (by omega) (by omega),cond_true,qY]
   have hcut:eD b (jE ((n:Int)+(w.B.length:Int)) (b.length:Int)) (b.length:Int)=b.drop (n+w.B.length):=by
    unfold jE
    split
    ·rw[nV];rw[List.drop_eq_nil_of_le (Nat.le_refl _),List.drop_eq_nil_of_le (by omega)]
    ·have:(n:Int)+(w.B.length:Int)=((n+w.B.length:Nat):Int):=by omega
     rw[this,nV]
   have h3:0≤jE ((n:Int)+(w.B.length:Int)) (b.length:Int)∧jE ((n:Int)+(w.B.length:Int)) (b.length:Int)≤(b.length:Int):=by
    unfold jE;split<;>omega
   rw[fE h3.1 h3.2 (by omega),cond_true,hcut]
   simp only[List.length_append,List.length_take,List.length_drop]
   rw[decide_eq_true (show min n b.length+w.B.length≤dy by rw[cw];omega),cond_true]
   rw[decide_eq_true (show min n b.length+w.B.length+(b.length-(n+w.B.length))≤dy by rw[cw];omega),cond_true]
theorem Lt (l:List aX) (b:List UInt8) (hl:l.length≤1000) (hb:b.length≤24):Ge fuel b l=some (Qb b l):=by
 unfold Ge AW Ec
 simp only[aE,aD]
 obtain⟨x,e,hx⟩:=dR (step:=yr l (l.length:Int)) (fun k v=> ∃i:Nat,v.2=(i:Int)∧i+k=l.length∧v.1.length≤24∧Qb v.1 (l.drop i)=Qb b l) (fun r=>r=Qb b l) (fun k v hI=>by
  obtain⟨v1,v2⟩:=v
  obtain⟨i,hi,hk,hlen,he⟩:=hI
  simp only at hi hlen he
  subst hi
  simp only[yr,v8,get_ite,aE,aD,aC]
  by_cases hlt:i<l.length
  ·rw[da hlt,bP hlt,Int.toNat_natCast,List.getElem?_eq_getElem hlt,aw,Ls v1 _ hlen,aw,bG (by omega)]
   refine⟨_,rfl,k-1,by omega,i+1,rfl,by omega,KC _ _ hlen,?_⟩
   rw[←he,List.drop_eq_getElem_cons hlt];rfl
  ·obtain rfl:i=l.length:=by omega
   rw[db]
   refine⟨_,rfl,?_⟩
   rw[←he,List.drop_length];rfl) l.length (b,0) fuel ⟨0,rfl,by omega,hb,rfl⟩ (cr (by omega))
 rw[e,aw,hx]
open Go
theorem oW {A:Type} (s:List A) (p:A→Bool) (step:Int→Option (Int ⊕ (Int ⊕ Unit)))
  (hs: ∀i:Nat,step (i:Int)=D.Tree.get (.ite (decide ((i:Int)<(s.length:Int))) (.ite (cL (i:Int) s.length) (.opt (s[(i:Int).toNat]?) fun y=> .ite (p y) (.ret (.inr (.inl (i:Int)))) (.ret (.inl (ay ((i:Int)+1))))) .fail) (.ret (.inr (.inr ()))))) (h:s.length<1000000):
  iter step fuel 0=some (match s.findIdx? p with|some i=> .inl (i:Int)|none=> .inr ()):=by
 obtain⟨x,e,hx⟩:=dR (step:=step) (fun k v=> ∃i:Nat,v=(i:Int)∧i+k=s.length∧s.findIdx? p=((s.drop i).findIdx? p).map (· +i)) (fun r=>r=match s.findIdx? p with|some i=> .inl (i:Int)|none=> .inr ()) (fun k v hI=>by
  obtain⟨i,hi,hk,he⟩:=hI
  subst hi
  rw[hs]
  simp only[get_ite,aE,aD,aC]
  by_cases hlt:i<s.length
  ·have ha:=List.getElem?_eq_getElem hlt
   rw[da hlt,bP hlt,Int.toNat_natCast,ha,aw]
   rw[List.drop_eq_getElem_cons hlt,List.findIdx?_cons]at he
   cases hc:p s[i]with
   |true=>
    rw[hc]at he
    refine⟨_,rfl,?_⟩
    rw[he];simp
   |false=>
    rw[hc]at he
    rw[bG (by omega)]
    refine⟨_,rfl,k-1,by omega,i+1,rfl,by omega,?_⟩
    rw[he]
    simp only[Bool.false_eq_true,if_false,Option.map_map]
    congr 1
    funext j
    simp;omega
  ·obtain rfl:i=s.length:=by omega
   rw[db]
   refine⟨_,rfl,?_⟩
   rw[List.drop_length]at he
   rw[he];rfl) s.length 0 fuel ⟨0,rfl,by omega,by simp⟩ (cr (by omega))
 rw[e,hx]
theorem fi {A:Type} {p:A→Bool}: ∀{l:List A} {i:Nat},l.findIdx? p=some i→ ∃h:i<l.length,p l[i]=true∧ ∀j (hj:j<i),p (l[j]'(Nat.lt_trans hj h))=false:=by
 intro l i h
 obtain⟨h1,h2,h3⟩:=List.findIdx?_eq_some_iff_getElem.1 h
 exact⟨h1,h2,fun j hj=>by simpa using h3 j hj⟩
theorem k5 {A:Type} {p:A→Bool} {l:List A} (h:l.findIdx? p=none): ∀x∈l,p x=false:=List.findIdx?_eq_none_iff.1 h
def jI {A:Type} (p:A→Bool) (l:List A):List A:=l.filter fun x=> !p x
theorem uT {A:Type} {p:A→Bool} {l:List A} (h: ∀x∈l,p x=false):jI p l=l:=by
 unfold jI
 rw[List.filter_eq_self]
 intro x hx;rw[h x hx];rfl
theorem Ba {A:Type} (r:List A) (p:A→Bool) (step:Int×Int×List A→Option ((Int×Int×List A) ⊕ (Int×List A)))
  (hs: ∀v,step v=D.Tree.get (.ite (decide (v.2.1<(v.2.2.length:Int))) (.ite (cL v.2.1 v.2.2.length) (.opt (v.2.2[v.2.1.toNat]?) fun y=> .ite (!(p y)) (.ite (cL v.1 v.2.2.length) (.opt (v.2.2[v.1.toNat]?) fun y_2=> .ret (.inl ((ay (v.1+1)),(ay (v.2.1+1)),(v.2.2.set v.1.toNat y)))) .fail) (.ret (.inl (v.1,(ay (v.2.1+1)),v.2.2)))) .fail) (.ret (.inr (v.1,v.2.2)))))
  (h:r.length<1000000) {i0:Nat} (hi:r.findIdx? p=some i0):
  ∃w,iter step fuel ((i0:Int),ay ((i0:Int)+1),r)=some w∧cL w.1 w.2.length=true∧eD w.2 0 w.1=jI p r:=by
 obtain⟨hlt,hp,hb⟩:=fi hi
 have start:(r.take i0)=jI p (r.take (i0+1)):=by
  rw[List.take_succ_eq_append_getElem hlt]
  unfold jI
  rw[List.filter_append]
  have h1:(r.take i0).filter (fun x=> !p x)=r.take i0:=by
   rw[List.filter_eq_self]
   intro x hx
   obtain⟨j,hj,e⟩:=List.getElem_of_mem hx
   simp only[List.length_take]at hj
   have:=hb j (by omega)
   rw[←e,List.getElem_take,this];rfl
  rw[h1]
  simp[hp]
 rw[bG (by omega)]
 refine dR (step:=step) (fun k v=> ∃i j:Nat,v.1=(i:Int)∧v.2.1=(j:Int)∧i<j∧j+k=r.length∧v.2.2.length=r.length∧v.2.2.take i=jI p (r.take j)∧v.2.2.drop j=r.drop j) (fun w=>cL w.1 w.2.length=true∧eD w.2 0 w.1=jI p r) (fun k v hI=> ?_) (r.length-(i0+1)) _ fuel ⟨i0,i0+1,rfl,rfl,by omega,by omega,rfl,start,rfl⟩ (cr (by omega))
 obtain⟨v1,v2,v3⟩:=v
 obtain⟨i,j,e1,e2,hij,hk,hl,ht,hd⟩:=hI
 simp only at e1 e2 hl ht hd
 subst e1 e2
 rw[hs]
 simp only[get_ite,aE,aD,aC,hl]
 by_cases hjl:j<r.length
 ·have ha:v3[j]? =some r[j]:=by
   have:=congrArg (fun l=>l[0]?) hd
   simp only[List.getElem?_drop,Nat.add_zero]at this
   rw[this,List.getElem?_eq_getElem hjl]
  rw[da hjl,bP hjl,Int.toNat_natCast,ha,aw,bG (i:=j) (by omega),bP (show i<r.length by omega)]
  have hnext:jI p (r.take (j+1))=jI p (r.take j)++(if p r[j]then[]else[r[j]]):=by
   rw[List.take_succ_eq_append_getElem hjl]
   unfold jI
   rw[List.filter_append]
   cases hp:p r[j]<;>simp[hp]
  have hdrop: ∀L:List A,L.drop j=r.drop j→L.drop (j+1)=r.drop (j+1):=fun L hL=>by
   have:=congrArg (List.drop 1) hL
   rw[List.drop_drop,List.drop_drop]at this
   exact this
  cases hc:p r[j]with
  |true=>
   refine⟨_,rfl,k-1,by omega,i,j+1,rfl,rfl,by omega,by omega,hl,?_,hdrop v3 hd⟩
   rw[hnext,hc,←ht];simp
  |false=>
   simp only[Bool.not_false,cond_true,Int.toNat_natCast]
   rw[List.getElem?_eq_getElem (show i<v3.length by omega),aw,bG (i:=i) (by omega)]
   refine⟨_,rfl,k-1,by omega,i+1,j+1,rfl,rfl,by omega,by omega,by simp[hl],?_,?_⟩
   ·rw[hnext,hc,←ht]
    show(v3.set i r[j]).take (i+1)=_
    rw[List.take_succ_eq_append_getElem (by simp;omega),List.take_set_of_le (by omega)]
    simp
   ·show(v3.set i r[j]).drop (j+1)=_
    rw[List.drop_set_of_lt (by omega)]
    exact hdrop _ hd
 ·have hj:j=r.length:=by omega
  rw[hj,db]
  refine⟨_,rfl,?_,?_⟩
  ·show cL (i:Int) v3.length=true
   rw[hl];exact bP (by omega)
  ·show eD v3 0 (i:Int)=_
   rw[qY,ht,hj,List.take_length]
def rX (a b:aS):Prop:=a.aV<b.aV∨a.aV=b.aV∧a.Client<b.Client
def qm (a b:aS):Int:=if a.aV<b.aV then-1 else if b.aV<a.aV then 1 else if a.Client<b.Client then-1 else if b.Client<a.Client then 1 else 0
theorem NI (x y:Int):mi x y=if x<y then-1 else if y<x then 1 else 0:=by
 unfold mi nX l6
 simp only[aL,aK,bne_self_eq_false,cond_false]
 by_cases h:x<y
 ·rw[decide_eq_true h,if_pos h];rfl
 ·rw[decide_eq_false h,if_neg h]
  by_cases g:y<x
  ·rw[decide_eq_true (show x>y from g),if_pos g];rfl
  ·rw[decide_eq_false (show ¬x>y from g),if_neg g];rfl
theorem U5 (x y:Int):Be fuel [x,y]=some (if x≠0 then x else y):=by
 unfold Be wC zX
 rw[pn]
 simp only[aE,aD,aF]
 rw[show(4294967296:Nat)=4294967293+1+1+1 from rfl,bw]
 have e0:po 0 [x,y] (([x,y].length:Nat):Int) 0=if x≠0 then some (.inr (.inl x))else some (.inl 1):=by
  show(bif x != 0 then some (Sum.inr (Sum.inl x))else some (Sum.inl (ay (0+1))))=_
  by_cases h:x=0
  ·rw[if_neg (by simp[h]),show(x != 0)=false by simp[h]];rfl
  ·rw[if_pos h,show(x != 0)=true by simp[h]];rfl
 have e1:po 0 [x,y] (([x,y].length:Nat):Int) 1=if y≠0 then some (.inr (.inl y))else some (.inl 2):=by
  show(bif y != 0 then some (Sum.inr (Sum.inl y))else some (Sum.inl (ay (1+1))))=_
  by_cases h:y=0
  ·rw[if_neg (by simp[h]),show(y != 0)=false by simp[h]];rfl
  ·rw[if_pos h,show(y != 0)=true by simp[h]];rfl
 have e2:po 0 [x,y] (([x,y].length:Nat):Int) 2=some (.inr (.inr ())):=rfl
 rw[e0]
 by_cases hx:x=0
 ·rw[if_neg (by simp[hx]),if_neg (by simp[hx]),aw,bB,bw,e1]
  by_cases hy:y=0
  ·rw[if_neg (by simp[hy]),aw,bB,bw,e2,hy];rfl
  ·rw[if_pos hy];rfl
 ·rw[if_pos hx,if_pos hx];rfl
theorem KK (a b:aS):sW fuel a b=some (qm a b):=by
 unfold sW tF
 simp only[aE,aD,U5,aw,NI]
 unfold qm
 by_cases h1:a.aV<b.aV
 ·simp[h1]
 ·by_cases h2:b.aV<a.aV
  ·simp[h1,h2]
  ·simp[h1,h2]
theorem Ct {a b:aS}:qm a b<0↔rX a b:=by
 unfold qm rX
 repeat' split
 all_goals simp
 all_goals omega
theorem JR {a b:aS}:qm a b=0↔a.aV=b.aV∧a.Client=b.Client:=by
 unfold qm
 repeat' split
 all_goals simp
 all_goals omega
theorem D4 {a b c:aS} (h:rX a b) (g:rX b c):rX a c:=by unfold rX at*;omega
def sw (l:List aS):Prop:=l.Pairwise rX
def low (l:List aS) (t:aS):Nat:=(l.takeWhile fun x=>decide (qm x t<0)).length
theorem Rj (l:List aS) (t:aS):low l t≤l.length:=(List.takeWhile_prefix _).length_le
theorem B3 (x:aS) (l:List aS) (t:aS):low (x::l) t=if qm x t<0 then low l t+1 else 0:=by
 unfold low
 rw[List.takeWhile_cons]
 by_cases h:qm x t<0
 ·rw[if_pos h,decide_eq_true h];rfl
 ·rw[if_neg h,decide_eq_false h];rfl
theorem H3: ∀(l:List aS) (t:aS) (i:Nat) (x:aS),l[i]? =some x→i<low l t→qm x t<0
 |[],t,i,x,h,_=>by simp at h
 |y::l,t,i,x,h,hi=>by
  rw[B3]at hi
  split at hi
  ·rename_i hy
   cases i with
   |zero=>simp at h;rw[←h];exact hy
   |succ i=>exact H3 l t i x (by simpa using h) (by omega)
  ·omega
theorem H4: ∀(l:List aS) (t:aS) (i:Nat) (x:aS),sw l→l[i]? =some x→low l t≤i→ ¬qm x t<0
 |[],t,i,x,_,h,_=>by simp at h
 |y::l,t,i,x,hs,h,hi=>by
  rw[B3]at hi
  cases i with
  |zero=>
   simp at h;subst h
   split at hi
   ·omega
   ·assumption
  |succ i=>
   have hx:l[i]? =some x:=by simpa using h
   split at hi
   ·exact H4 l t i x (List.Pairwise.of_cons hs) hx (by omega)
   ·rename_i hy
    intro hc
    have hm:=List.mem_of_getElem? hx
    have hlt:rX y x:=List.rel_of_pairwise_cons hs hm
    exact hy (Ct.2 (D4 hlt (Ct.1 hc)))
theorem half {i j:Nat} (h:i+j<1000000000):ay (rv .u64 (uP (ay ((i:Int)+(j:Int)))) 1)=(((i+j)/2:Nat):Int):=by
 rw[bq (show-9223372036854775808≤(i:Int)+(j:Int)by omega) (by omega)]
 have e:uP ((i:Int)+(j:Int))=(i:Int)+(j:Int):=by
  unfold uP;simp only[IntKind.wrap,IntKind.bits,IntKind.signed];simp;omega
 rw[e]
 have s:rv .u64 ((i:Int)+(j:Int)) 1=(((i+j)/2:Nat):Int):=by
  unfold rv
  rw[show(2:Int)^min (1:Int).toNat IntKind.u64.bits=2 from rfl]
  rw[Int.fdiv_eq_ediv_of_nonneg _ (by decide)]
  omega
 rw[s,bq (by omega) (by omega)]
theorem HG (l:List aS) (t:aS) (hs:sw l) (h:l.length<1000000):dV fuel l t=some ((low l t:Int),match l[low l t]? with|some y=>decide (qm y t=0)|none=>false):=by
 unfold dV e8 gI
 simp only[aE,get_ite,aD,aC]
 have hle:=Rj l t
 obtain⟨x,e,hx⟩:=dR (step:=eM fuel l (l.length:Int) t) (fun k v=> ∃i j:Nat,v=((i:Int),(j:Int))∧i+k=j∧i≤low l t∧low l t≤j∧j≤l.length) (fun r=>r=(low l t:Int)) (fun k v hI=>by
  obtain⟨i,j,hv,hk,h1,h2,h3⟩:=hI
  subst hv
  simp only[eM,eC,get_ite,aE,aD,aC]
  by_cases hij:i<j
  ·have hm:(i+j)/2<l.length:=by omega
   rw[decide_eq_true (show(i:Int)<(j:Int)by omega),half (by omega),bP hm,Int.toNat_natCast,List.getElem?_eq_getElem hm,aw,KK,aw]
   by_cases hc:qm l[(i+j)/2] t<0
   ·rw[decide_eq_true hc,bG (by omega)]
    refine⟨_,rfl,j-((i+j)/2+1),by omega,(i+j)/2+1,j,rfl,by omega,?_,h2,h3⟩
    rcases Nat.lt_or_ge ((i+j)/2) (low l t)with g|g
    ·exact g
    ·exact absurd hc (H4 l t _ _ hs (List.getElem?_eq_getElem hm) g)
   ·rw[decide_eq_false hc]
    refine⟨_,rfl,(i+j)/2-i,by omega,i,(i+j)/2,rfl,by omega,h1,?_,by omega⟩
    rcases Nat.lt_or_ge ((i+j)/2) (low l t)with g|g
    ·exact absurd (H3 l t _ _ (List.getElem?_eq_getElem hm) g) hc
    ·exact g
  ·rw[decide_eq_false (show ¬(i:Int)<(j:Int)by omega)]
   refine⟨_,rfl,?_⟩
   show(i:Int)=_
   omega) l.length (0,(l.length:Int)) fuel ⟨0,l.length,rfl,by omega,Nat.zero_le _,hle,Nat.le_refl _⟩ (cr (by omega))
 rw[e,aw,hx]
 by_cases hlt:low l t<l.length
 ·rw[da hlt,bP hlt,Int.toNat_natCast,List.getElem?_eq_getElem hlt,aw,KK,aw]
  simp only[cond_true]
  by_cases hc:qm l[low l t] t=0
  ·rw[decide_eq_true hc,et hc]
  ·rw[decide_eq_false hc,di hc]
 ·rw[show low l t=l.length by omega,db,List.getElem?_eq_none (Nat.le_refl _)];rfl
def isKey (c f:Int) (x:aS):Bool:=x.aV==f&&x.Client==c
def EV (l:List aS) (c f:Int):Option aS:=l.find? (isKey c f)
def lM (l:List aS) (now c f:Int):Int:=match EV l c f with
 |some y=>if y.il≤now then 0 else y.Mode
 |none=>0
theorem De {c f:Int} {x:aS}:isKey c f x=true↔qm x ⟨c,f,0,0⟩=0:=by
 rw[JR];simp[isKey]
theorem Lp: ∀(l:List aS) (c f:Int),sw l→EV l c f=match l[low l ⟨c,f,0,0⟩]? with|some y=>if qm y ⟨c,f,0,0⟩=0 then some y else none|none=>none
 |[],c,f,_=>rfl
 |y::l,c,f,hs=>by
  unfold EV
  rw[List.find?_cons,B3]
  by_cases hk:qm y ⟨c,f,0,0⟩=0
  ·rw[De.2 hk,if_neg (by omega)]
   simp[hk]
  ·have:isKey c f y=false:=by
    cases hx:isKey c f y with
    |false=>rfl
    |true=>exact absurd (De.1 hx) hk
   rw[this]
   by_cases hl:qm y ⟨c,f,0,0⟩<0
   ·rw[if_pos hl]
    have:=Lp l c f (List.Pairwise.of_cons hs)
    unfold EV at this
    simp only[this,List.getElem?_cons_succ]
   ·rw[if_neg hl]
    simp only[List.getElem?_cons_zero,if_neg hk]
    rw[List.find?_eq_none]
    intro x hx hxk
    have hxk:=De.1 hxk
    have hlt:rX y x:=List.rel_of_pairwise_cons hs hx
    rw[JR]at hxk
    simp only at hxk
    apply hl
    rw[Ct]
    unfold rX at hlt⊢
    simp only
    omega
theorem G0 (l:List aS) (now c f:Int) (hs:sw l) (h:l.length<1000000):pG fuel l now c f=some (lM l now c f):=by
 unfold pG tH lM
 simp only[aE,get_ite,aD,aC,HG l _ hs h,aw,Lp l c f hs]
 cases hg:l[low l ⟨c,f,0,0⟩]? with
 |none=>rfl
 |some y=>
  have hlt:=oa hg
  simp only
  by_cases hk:qm y ⟨c,f,0,0⟩=0
  ·rw[decide_eq_true hk,if_pos hk,bP hlt,Int.toNat_natCast,hg]
   simp only[Bool.not_true,cond_false,cond_true,aw]
   by_cases hu:y.il≤now
   ·rw[decide_eq_true (show now≥y.il from hu),if_pos hu];rfl
   ·rw[decide_eq_false (show ¬now≥y.il from hu),if_neg hu];rfl
  ·rw[decide_eq_false hk,if_neg hk];rfl
open Go
structure OM (x:aS):Prop where
 aU:1≤x.Client∧x.Client≤3
 file:1≤x.aV∧x.aV≤6
 mode:1≤x.Mode∧x.Mode≤2
 UJ:0≤x.il∧x.il≤9223372036854775807
structure pP (l:List aS):Prop where
 each: ∀x∈l,OM x
 sorted:sw l
theorem Fu: ∀(l:List aS) (a:Int),(∀x∈l,a≤3*x.aV+x.Client∧3*x.aV+x.Client≤21)→sw l→(∀x∈l,1≤x.Client∧x.Client≤3)→(l.length:Int)≤22-a∨l=[]
 |[],a,_,_,_=>Or.inr rfl
 |x::l,a,h,hs,hc=>by
  left
  have hx:=h x (List.mem_cons_self ..)
  have hcx:=hc x (List.mem_cons_self ..)
  have:=Fu l (3*x.aV+x.Client+1) (fun y hy=>by
   have hlt:rX x y:=List.rel_of_pairwise_cons hs hy
   have hcy:=hc y (List.mem_cons_of_mem _ hy)
   have:=h y (List.mem_cons_of_mem _ hy)
   unfold rX at hlt
   omega) (List.Pairwise.of_cons hs) (fun y hy=>hc y (List.mem_cons_of_mem _ hy))
  rcases this with h'|h'
  ·simp only[List.length_cons];omega
  ·subst h';simp;omega
theorem pP.short {l:List aS} (h:pP l):l.length≤18:=by
 have:=Fu l 4 (fun x hx=>by have:=h.each x hx;have:=this.aU;have:=(h.each x hx).file;omega) h.sorted (fun x hx=>(h.each x hx).aU)
 rcases this with h'|h'
 ·omega
 ·subst h';simp
theorem uS {l:List aS} (h:pP l) (p:aS→Bool):pP (jI p l):=
 ⟨fun x hx=>h.each x (List.mem_filter.1 hx).1,List.Pairwise.filter _ h.sorted⟩
def vp (l:List aS) (now:Int):List aS:=jI (fun x=>decide (x.il≤now)) l
def Oz (l:List aS) (c f:Int):List aS:=jI (fun x=>isKey c f x) l
theorem QW (l:List aS) (now:Int) (h:l.length<1000000):x7 fuel l now=some (vp l now):=by
 have hi:ja fuel l now=some (match l.findIdx? (fun x=>eR x now)with|some i=>(i:Int)|none=> -1):=by
  unfold ja gY lr
  simp only[aE,aD,aF]
  rw[oW l (fun x=>eR x now) (lq l (l.length:Int) now) (fun i=>rfl) h,aw]
  cases l.findIdx? (fun x=>eR x now)<;>rfl
 unfold x7 tG mT gx vp
 simp only[aE,get_ite,aD,aC,hi,aw]
 have hp:(fun x:aS=>decide (x.il≤now))=fun x=>eR x now:=rfl
 rw[hp]
 cases hf:l.findIdx? (fun x=>eR x now)with
 |none=>rw[uT (k5 hf)];rfl
 |some i=>
  obtain⟨w,e,h1,h2⟩:=Ba l (fun x=>eR x now) (kk now) (fun v=>rfl) h hf
  unfold kl
  rw[di (show ¬(i:Int)= -1 by omega),e]
  simp only[cond_false,aw,h1,cond_true,h2]
theorem Tc (x:aS) (c f:Int):eI x c f=isKey c f x:=by
 unfold eI qi isKey
 simp only[aL,aK]
 cases x.Client==c<;>cases x.aV==f<;>rfl
theorem Tb (l:List aS) (c f:Int) (h:l.length<1000000):AK fuel l c f=some (Oz l c f):=by
 have hi:gZ fuel l c f=some (match l.findIdx? (fun x=>eI x c f)with|some i=>(i:Int)|none=> -1):=by
  unfold gZ fU jQ
  simp only[aE,aD,aF]
  rw[oW l (fun x=>eI x c f) (jP l (l.length:Int) c f) (fun i=>rfl) h,aw]
  cases l.findIdx? (fun x=>eI x c f)<;>rfl
 unfold AK vG ly fI Oz
 simp only[aE,get_ite,aD,aC,hi,aw]
 have hp:(fun x:aS=>isKey c f x)=fun x=>eI x c f:=funext fun x=>(Tc x c f).symm
 rw[hp]
 cases hf:l.findIdx? (fun x=>eI x c f)with
 |none=>rw[uT (k5 hf)];rfl
 |some i=>
  obtain⟨w,e,h1,h2⟩:=Ba l (fun x=>eI x c f) (js c f) (fun v=>rfl) h hf
  unfold jt
  rw[di (show ¬(i:Int)= -1 by omega),e]
  simp only[cond_false,aw,h1,cond_true,h2]
def yK (l:List aS) (now c f m:Int) (x:aS):Bool:=(x.aV==f)&&((x.Client != c)&&((lM l now x.Client f != 0)&&((m==2)||(lM l now x.Client f==2))))
def tY (l:List aS) (now c f m:Int):List Int:=(l.filter (yK l now c f m)).map (·.Client)
theorem GD (l:List aS) (now c f m:Int) (hs:sw l) (h:l.length<1000000):pH fuel l now c f m=some (tY l now c f m):=by
 unfold pH tJ x9
 simp only[aE,aD]
 obtain⟨x,e,hx⟩:=dR (step:=rW fuel l now c f m l (l.length:Int)) (fun k v=> ∃i:Nat,v.1=(i:Int)∧i+k=l.length∧v.2=((l.take i).filter (yK l now c f m)).map (·.Client)) (fun r=>r=tY l now c f m) (fun k v hI=>by
  obtain⟨v1,v2⟩:=v
  obtain⟨i,hi,hk,hv⟩:=hI
  simp only at hi hv
  subst hi
  simp only[rW,qj,get_ite,aE,aD,aC]
  by_cases hlt:i<l.length
  ·have hlen:v2.length≤i:=by
    rw[hv,List.length_map]
    exact Nat.le_trans (List.length_filter_le _ _) (by simp;omega)
   have hnext:((l.take (i+1)).filter (yK l now c f m)).map (·.Client)=v2++(if yK l now c f m l[i]=true then[l[i].Client]else[]):=by
    rw[hv,List.take_succ_eq_append_getElem hlt,List.filter_append,List.map_append]
    cases hb:yK l now c f m l[i]<;>simp[hb]
   rw[da hlt,bP hlt,Int.toNat_natCast,List.getElem?_eq_getElem hlt,aw,G0 l now _ f hs h,aw,bG (by omega),decide_eq_true (show v2.length+1≤dy by rw[cw];omega)]
   have go: ∀b,yK l now c f m l[i]=b→ ∃o,some (Sum.inl (((i+1:Nat):Int),v2++(if b=true then[l[i].Client]else[])))=some o∧Sum.elim (fun v':Int×List Int=> ∃k',k'<k∧ ∃i:Nat,v'.1=(i:Int)∧i+k'=l.length∧v'.2=((l.take i).filter (yK l now c f m)).map (·.Client)) (fun r=>r=tY l now c f m) o:=fun b hb=>
    ⟨_,rfl,k-1,by omega,i+1,rfl,by omega,by show _=_;rw[hnext,hb]⟩
   have hB:yK l now c f m l[i]=((l[i].aV==f)&&((l[i].Client != c)&&((lM l now l[i].Client f != 0)&&((m==2)||(lM l now l[i].Client f==2))))):=rfl
   by_cases h1:l[i].aV=f
   ·rw[show(l[i].aV != f)=false by simp[h1]]
    by_cases h2:l[i].Client=c
    ·rw[et h2]
     have:=go false (by rw[hB];simp[h2])
     simpa using this
    ·rw[di h2]
     by_cases h3:lM l now l[i].Client f=0
     ·rw[show(lM l now l[i].Client f != 0)=false by simp[h3]]
      have:=go false (by rw[hB];simp[h3])
      simpa using this
     ·rw[show(lM l now l[i].Client f != 0)=true by simp[h3]]
      by_cases h4:m=2
      ·rw[et h4]
       exact go true (by rw[hB,et h1,et h4];simp[h2,h3])
      ·rw[di h4]
       by_cases h5:lM l now l[i].Client f=2
       ·rw[et h5]
        exact go true (by rw[hB,et h1,et h5];simp[h2,h3])
       ·rw[di h5]
        have:=go false (by rw[hB,di h4,di h5];simp)
        simpa using this
   ·rw[show(l[i].aV != f)=true by simp[h1]]
    have:=go false (by rw[hB,di h1];rfl)
    simpa using this
  ·obtain rfl:i=l.length:=by omega
   rw[db]
   refine⟨_,rfl,?_⟩
   show v2=_
   rw[hv,List.take_length];rfl) l.length (0,[]) fuel ⟨0,rfl,by omega,rfl⟩ (cr (by omega))
 rw[e,aw,hx]
def sa:List aS→aS→List aS
 |[],x=>[x]
 |y::r,x=>if qm y x<0 then y::sa r x else if qm y x=0 then{y with Mode:=imax y.Mode x.Mode,il:=imax y.il x.il} ::r else x::y::r
theorem Ig: ∀(l:List aS) (x:aS),sa l x=match l[low l x]? with
  |some y=>if qm y x=0 then l.set (low l x) {y with Mode:=imax y.Mode x.Mode,il:=imax y.il x.il}else l.take (low l x)++[x]++l.drop (low l x)
  |none=>l++[x]
 |[],x=>rfl
 |y::r,x=>by
  unfold sa
  rw[B3]
  by_cases h:qm y x<0
  ·rw[if_pos h,if_pos h,Ig r x]
   simp only[List.getElem?_cons_succ]
   cases r[low r x]? with
   |none=>rfl
   |some z=>
    simp only
    split<;>rfl
  ·rw[if_neg h,if_neg h]
   simp only[List.getElem?_cons_zero]
   split<;>rfl
theorem Sk (l:List aS) (x:aS) (hs:sw l) (h:l.length<1000000):x8 fuel l x=some (sa l x):=by
 unfold x8 tI
 simp only[aE,get_ite,aD,aC,HG l x hs h,aw,Ig l x]
 have hle:=Rj l x
 have hins:Cb l (low l x:Int) [x]=true:=by unfold Cb;simp[cw];omega
 cases hg:l[low l x]? with
 |none=>
  have hlen:l.length≤low l x:=List.getElem?_eq_none_iff.1 hg
  simp only[Bool.not_false,cond_true,hins]
  unfold zw
  rw[Int.toNat_natCast,List.take_of_length_le hlen,List.drop_eq_nil_of_le hlen,List.append_nil]
 |some y=>
  have hlt:=oa hg
  simp only
  by_cases hc:qm y x=0
  ·rw[decide_eq_true hc,if_pos hc,bP hlt,Int.toNat_natCast,hg]
   simp only[Bool.not_true,cond_false,cond_true,aw,List.length_set,bP hlt]
   rw[List.getElem?_set,if_pos rfl,if_pos hlt,aw,List.set_set]
  ·rw[decide_eq_false hc,if_neg hc,hins]
   rfl
theorem C5: ∀(l:List aS) (x z:aS),z∈sa l x→z=x∨z∈l∨ ∃y∈l,qm y x=0∧z={y with Mode:=imax y.Mode x.Mode,il:=imax y.il x.il}
 |[],x,z,h=>by simp[sa]at h;exact Or.inl h
 |y::r,x,z,h=>by
  unfold sa at h
  split at h
  ·rcases List.mem_cons.1 h with h|h
   ·exact Or.inr (Or.inl (h▸List.mem_cons_self ..))
   ·rcases C5 r x z h with h|h|⟨w,hw,e⟩
    ·exact Or.inl h
    ·exact Or.inr (Or.inl (List.mem_cons_of_mem _ h))
    ·exact Or.inr (Or.inr ⟨w,List.mem_cons_of_mem _ hw,e⟩)
  ·split at h
   ·rename_i hc
    rcases List.mem_cons.1 h with h|h
    ·exact Or.inr (Or.inr ⟨y,List.mem_cons_self ..,hc,h⟩)
    ·exact Or.inr (Or.inl (List.mem_cons_of_mem _ h))
   ·rcases List.mem_cons.1 h with h|h
    ·exact Or.inl h
    ·exact Or.inr (Or.inl h)
theorem Ci: ∀(l:List aS) (x:aS),sw l→sw (sa l x)
 |[],x,_=>List.pairwise_singleton _ _
 |y::r,x,hs=>by
  have hr:sw r:=List.Pairwise.of_cons hs
  have hy: ∀z∈r,rX y z:=fun z hz=>List.rel_of_pairwise_cons hs hz
  unfold sa
  split
  ·rename_i hc
   refine List.pairwise_cons.2 ⟨fun z hz=> ?_,Ci r x hr⟩
   rcases C5 r x z hz with h|h|⟨w,hw,_,h⟩
   ·rw[h];exact Ct.1 hc
   ·exact hy z h
   ·rw[h];exact hy w hw
  ·split
   ·exact List.pairwise_cons.2 ⟨fun z hz=>hy z hz,hr⟩
   ·rename_i h1 h2
    have hxy:rX x y:=by
     rw[Ct]at h1
     rw[JR]at h2
     unfold rX at h1⊢
     omega
    refine List.pairwise_cons.2 ⟨fun z hz=> ?_,hs⟩
    rcases List.mem_cons.1 hz with h|h
    ·rw[h];exact hxy
    ·exact D4 hxy (hy z h)
theorem Ou {a b c:Int} (h:a≤c) (g:b≤c):imax a b≤c:=by unfold imax;split<;>assumption
theorem Oo {a b c:Int} (h:c≤a):c≤imax a b:=by unfold imax;split<;>omega
theorem JD {l:List aS} {x:aS} (h:pP l) (hx:OM x):pP (sa l x):=
 ⟨fun z hz=>by
  rcases C5 l x z hz with e|e|⟨y,hy,_,e⟩
  ·rw[e];exact hx
  ·exact h.each z e
  ·have g:=h.each y hy
   rw[e]
   exact⟨g.aU,g.file,⟨Oo g.mode.1,Ou g.mode.2 hx.mode.2⟩,⟨Oo g.UJ.1,Ou g.UJ.2 hx.UJ.2⟩⟩,Ci l x h.sorted⟩
open Go
def fy (l:List bA) (c:Int):List bA:=jI (fun w=>w.Client==c) l
theorem x2 (l:List bA) (c:Int) (h:l.length<1000000):qV fuel l c=some (fy l c):=by
 have hi:jx fuel l c=some (match l.findIdx? (fun x=>fL x c)with|some i=>(i:Int)|none=> -1):=by
  unfold jx iD lS
  simp only[aE,aD,aF]
  rw[oW l (fun x=>fL x c) (lR l (l.length:Int) c) (fun i=>rfl) h,aw]
  cases l.findIdx? (fun x=>fL x c)<;>rfl
 unfold qV sV np hH fy
 simp only[aE,get_ite,aD,aC,hi,aw]
 have hp:(fun x:bA=>x.Client==c)=fun x=>fL x c:=rfl
 rw[hp]
 cases hf:l.findIdx? (fun x=>fL x c)with
 |none=>rw[uT (k5 hf)];rfl
 |some i=>
  obtain⟨w,e,h1,h2⟩:=Ba l (fun x=>fL x c) (lu c) (fun v=>rfl) h hf
  unfold lx
  rw[di (show ¬(i:Int)= -1 by omega),e]
  simp only[cond_false,aw,h1,cond_true,h2]
def I7 (l:List bA) (c:Int):Option Nat:=l.findIdx? fun w=>w.Client==c
theorem QY (l:List bA) (c:Int) (h:l.length<1000000):AG fuel l c=some (match I7 l c with|some i=>(i:Int)|none=> -1):=by
 unfold AG vD mQ gr kb I7
 simp only[aE,aD,aF]
 rw[oW l (fun x=>lX x c) (ka l (l.length:Int) c) (fun i=>rfl) h,aw]
 have:(fun x:bA=>x.Client==c)=fun x=>lX x c:=rfl
 rw[this]
 cases l.findIdx? (fun x=>lX x c)<;>rfl
def Mh (l:List bA) (w:bA):List bA×Bool:=
 if 4≤(fy l w.Client).length then(l,false)else(fy l w.Client++[w],true)
def pk (l:List bA) (w:bA):List bA×Bool:=
 match I7 l w.Client with
 |some i=>if((l[i]?).map (·.aV))=some w.aV then(l.set i w,true)else Mh l w
 |none=>Mh l w
theorem M5 (l:List bA) (w:bA) (h:l.length<1000000):FW fuel l w=some (pk l w):=by
 have hd:(fy l w.Client).length≤l.length:=List.length_filter_le _ _
 unfold FW AH pk
 simp only[aE,get_ite,aD,aC,QY l w.Client h,x2 l w.Client h,aw]
 have tail:(bif decide (((fy l w.Client).length:Int)≥4)then some (l,false)else bif decide ((fy l w.Client).length+1≤dy)then some (fy l w.Client++[w],true)else none)=some (Mh l w):=by
  unfold Mh
  by_cases h4:4≤(fy l w.Client).length
  ·rw[if_pos h4,decide_eq_true (show((fy l w.Client).length:Int)≥4 by omega)];rfl
  ·rw[if_neg h4,decide_eq_false (show ¬((fy l w.Client).length:Int)≥4 by omega),decide_eq_true (show(fy l w.Client).length+1≤dy by rw[cw];omega)];rfl
 cases hf:I7 l w.Client with
 |none=>exact tail
 |some i=>
  obtain⟨hlt,_,_⟩:=fi hf
  simp only
  rw[decide_eq_true (show(i:Int)≥0 by omega),bP hlt,Int.toNat_natCast,List.getElem?_eq_getElem hlt]
  simp only[cond_true,aw,Option.map_some]
  by_cases hk:l[i].aV=w.aV
  ·rw[et hk,if_pos (by rw[hk])];rfl
  ·rw[di hk,if_neg (fun e=>hk (Option.some.inj e))];exact tail
def NO (l:List bA) (c f:Int):Bool:=match l.find? (fun w=>w.aV==f)with
 |some w=>w.Client != c
 |none=>false
theorem R8 (l:List bA) (c f:Int) (h:l.length<1000000):AI fuel l c f=some (NO l c f):=by
 unfold AI vE zO
 simp only[aE,aD,aF]
 obtain⟨x,e,hx⟩:=dR (step:=tE c f l (l.length:Int)) (fun k v=> ∃i:Nat,v=(i:Int)∧i+k=l.length∧l.find? (fun w=>w.aV==f)=(l.drop i).find? (fun w=>w.aV==f)) (fun r=>match l.find? (fun w=>w.aV==f)with|some w=>r= .inl (w.Client != c,w)|none=>r= .inr ()) (fun k v hI=>by
  obtain⟨i,hi,hk,he⟩:=hI
  subst hi
  simp only[tE,rV,get_ite,aE,aD,aC]
  by_cases hlt:i<l.length
  ·rw[da hlt,bP hlt,Int.toNat_natCast,List.getElem?_eq_getElem hlt,aw,bG (by omega)]
   rw[List.drop_eq_getElem_cons hlt,List.find?_cons]at he
   by_cases hc:l[i].aV=f
   ·rw[show(l[i].aV != f)=false by simp[hc]]
    rw[et hc]at he
    refine⟨_,rfl,?_⟩
    rw[he];rfl
   ·rw[show(l[i].aV != f)=true by simp[hc]]
    rw[di hc]at he
    exact⟨_,rfl,k-1,by omega,i+1,rfl,by omega,he⟩
  ·obtain rfl:i=l.length:=by omega
   rw[db]
   refine⟨_,rfl,?_⟩
   rw[List.drop_length]at he
   rw[he];rfl) l.length 0 fuel ⟨0,rfl,by omega,rfl⟩ (cr (by omega))
 rw[e,aw]
 unfold NO
 cases hf:l.find? (fun w=>w.aV==f)with
 |none=>rw[hf]at hx;rw[hx];rfl
 |some w=>rw[hf]at hx;rw[hx];rfl
structure Bh (w:bA):Prop where
 aU:1≤w.Client∧w.Client≤3
 file:1≤w.aV∧w.aV≤6
 mode:1≤w.Mode∧w.Mode≤2
structure fv (d:bR):Prop where
 ie:pP d.bD
 line: ∀w∈d.cW,Bh w
 PJ:d.cW.length≤4
def sP (d:bR) (now:Int):bR:=⟨vp d.bD now,d.cW⟩
def DB (d:bR) (now:Int) (w:bA):List Int:=tY d.bD now w.Client w.aV w.Mode
def SW (d:bR) (now:Int) (w:bA):Bool:=decide (DB d now w=[])&& !NO d.cW w.Client w.aV
def Rn (d:bR) (now:Int) (w:bA):bR:=⟨sa d.bD ⟨w.Client,w.aV,w.Mode,m9 now 60⟩,fy d.cW w.Client⟩
def gl (d:bR) (now:Int) (w:bA):bR×Bool×List Int×Int:=
 if SW (sP d now) now w=true then(Rn (sP d now) now w,true,[],0)
 else if(pk d.cW w).2=false then(sP d now,false,[],3)
 else(⟨vp d.bD now,(pk d.cW w).1⟩,false,tY (vp d.bD now) now w.Client w.aV w.Mode,0)
def Cj (d:bR) (c f:Int):bR:=⟨Oz d.bD c f,d.cW⟩
theorem fv.I5 {d:bR} (h:fv d) (now:Int):fv (sP d now):=⟨uS h.ie _,h.line,h.PJ⟩
theorem fv.Vd {d:bR} (h:fv d) (c f:Int):fv (Cj d c f):=⟨uS h.ie _,h.line,h.PJ⟩
theorem Vp {a:Int} (h0:0≤a) (h1:a≤9223372036854775807):(0≤m9 a 60∧m9 a 60≤9223372036854775807)∧m9 a 60≤a+60∧(a≤9000000000000000000→m9 a 60=a+60):=by
 unfold m9 yJ
 simp only[aL,aK]
 by_cases ha:a>0
 ·rw[decide_eq_true ha,bq (show-9223372036854775808≤9223372036854775807-a by omega) (by omega)]
  by_cases hb:(60:Int)>9223372036854775807-a
  ·rw[decide_eq_true hb];simp only[cond_true];refine⟨by omega,by omega,fun g=>by omega⟩
  ·rw[decide_eq_false hb,bq (show-9223372036854775808≤a+60 by omega) (by omega)];simp only[cond_true,cond_false];refine⟨by omega,by omega,fun _=>trivial⟩
 ·rw[decide_eq_false ha,bq (show-9223372036854775808≤a+60 by omega) (by omega)];simp only[cond_false];refine⟨by omega,by omega,fun _=>trivial⟩
theorem vF {l:List bA} {c:Int} {w:bA} (h:w∈fy l c):w∈l:=(List.mem_filter.1 h).1
theorem fv.lets {d:bR} (h:fv d) {now:Int} (hn:0≤now∧now≤9223372036854775807) {w:bA} (hw:Bh w):fv (Rn d now w):=
 ⟨JD h.ie ⟨hw.aU,hw.file,hw.mode,(Vp hn.1 hn.2).1⟩,fun x hx=>h.line x (vF hx),Nat.le_trans (List.length_filter_le _ _) h.PJ⟩
theorem K4 {l:List bA} (hl:l.length≤4) (w:bA):(pk l w).1.length≤4:=by
 have hadd:(Mh l w).1.length≤4:=by
  unfold Mh
  split
  ·exact hl
  ·simp;omega
 unfold pk
 split
 ·split
  ·simp;exact hl
  ·exact hadd
 ·exact hadd
theorem K3 {l:List bA} {w x:bA} (h:x∈(pk l w).1):x=w∨x∈l:=by
 have hadd:x∈(Mh l w).1→x=w∨x∈l:=fun h=>by
  unfold Mh at h
  split at h
  ·exact Or.inr h
  ·rcases List.mem_append.1 h with h|h
   ·exact Or.inr (vF h)
   ·simp at h;exact Or.inl h
 unfold pk at h
 split at h
 ·split at h
  ·rcases List.mem_or_eq_of_mem_set h with h|h
   ·exact Or.inr h
   ·exact Or.inl h
  ·exact hadd h
 ·exact hadd h
theorem fv.ask {d:bR} (h:fv d) {now:Int} (hn:0≤now∧now≤9223372036854775807) {w:bA} (hw:Bh w):fv (gl d now w).1:=by
 unfold gl
 split
 ·exact(h.I5 now).lets hn hw
 split
 ·exact h.I5 now
 ·exact⟨uS h.ie _,fun x hx=>by rcases K3 hx with e|e;rw[e];exact hw;exact h.line x e,K4 h.PJ w⟩
theorem Pj {d:bR} (h:fv d) (now:Int):yy fuel d now=some (sP d now):=by
 unfold yy tW
 simp only[aE,aD,QW d.bD now (by have:=h.ie.short;omega)];rfl
theorem PX {d:bR} (h:fv d) (now:Int) (w:bA):o5 fuel d now w=some (DB d now w):=by
 unfold o5 qN
 simp only[aE,aD,GD d.bD now w.Client w.aV w.Mode h.ie.sorted (by have:=h.ie.short;omega)];rfl
theorem Tf {d:bR} (h:fv d) (now:Int) (w:bA):Gw fuel d now w=some (SW d now w):=by
 unfold Gw A8 SW
 simp only[aE,get_ite,aD,PX h,aw,R8 d.cW w.Client w.aV (by have:=h.PJ;omega)]
 have e:(((DB d now w).length:Int)==0)=decide (DB d now w=[]):=by
  cases DB d now w with
  |nil=>rfl
  |cons a r=>simp<;>omega
 rw[e]
 cases decide (DB d now w=[])<;>rfl
theorem RI {d:bR} (h:fv d) (now:Int) (w:bA):Dw fuel d now w=some (Rn d now w):=by
 unfold Dw yz
 simp only[aE,aD,Sk d.bD _ h.ie.sorted (by have:=h.ie.short;omega),aw,x2 d.cW w.Client (by have:=h.PJ;omega)];rfl
theorem Tl {d:bR} (h:fv d) (now:Int) (w:bA):Gx fuel d now w=some (gl d now w):=by
 have hp:=h.I5 now
 unfold Gx A9 gl
 simp only[aE,get_ite,aD,Pj h,aw,Tf hp,RI hp,show(sP d now).cW=d.cW from rfl,M5 d.cW w (by have:=h.PJ;omega)]
 have hl:pP (vp d.bD now):=hp.ie
 have hcl:o5 fuel {sP d now with cW:=(pk d.cW w).1} now w=some (tY (vp d.bD now) now w.Client w.aV w.Mode):=by
  unfold o5 qN
  simp only[aE,aD]
  show(pH fuel (vp d.bD now) now w.Client w.aV w.Mode).bind _=_
  rw[GD _ now w.Client w.aV w.Mode hl.sorted (by have:=hl.short;omega)];rfl
 cases SW (sP d now) now w with
 |true=>rfl
 |false=>
  rw[if_neg (by simp)]
  cases hq:(pk d.cW w).2 with
  |false=>rfl
  |true=>
   rw[if_neg (by simp)]
   simp only[cond_false,Bool.not_true]
   rw[hcl];rfl
theorem LF {d:bR} (h:fv d) (c f:Int):o6 fuel d c f=some (Cj d c f):=by
 unfold o6 yA
 simp only[aE,aD,Tb d.bD c f (by have:=h.ie.short;omega)];rfl
end Go.Proofs.YtlejgahbbfeagaaGreatDoor.N

/- Append onto a row of one's own: who named it by its old name names it no more. Append onto a row of one's own. One operation, in the machine and in the evaluator. One operation, in the machine and in the evaluator: all but calls. Rows that are written no more; values told anew: rows that are data, records that are joined. One operation: each that is no call. Calls: what is handed over, what comes back. Calls: rows that the callee does not see, rows that it may look at only. Calls: what a callee sees, under names of its own. Calls. Regions in the order of the text. -/
import Derived.Test.YtlejgahbbfeagaaGreatDoorBase2
set_option linter.unusedVariables false
set_option linter.unusedSimpArgs false
namespace Go.Proofs.YtlejgahbbfeagaaGreatDoor.D
open Go
section
variable {P:Program} {E:Env} {w w':World} {σ σ':Sg} {st st':St E.T} {M:Nat→Prop}
theorem dA {α β:Type} (f:α→β) (l:List α) (m:Nat):aR (l.map f) m=(aR l m).map f:=by simp[cX]
theorem sX (ks:List Nat) (ob:Obj E.T):dt (bW E st ks ob)=dt ob:=by cases ob<;>rfl
theorem nM (ks:List Nat) (ob:Obj E.T):dC (bW E st ks ob)=dC ob:=by cases ob<;>rfl
theorem B7 (ks:List Nat) (ob:Obj E.T):mc (bW E st ks ob)=mc ob:=by cases ob<;>rfl
theorem B6 (ks:List Nat) (ob:Obj E.T):qQ ob (bW E st ks ob):=by cases ob<;>constructor
theorem O7 (ks:List Nat) {d:az E.T} (h:Ev E d=true):Ev E (kill E st ks d)=true:=by
 cases d<;>first|(cases h;done)|(unfold kill;exact h)|skip
 rename_i o p
 unfold kill
 cases c9 ks o<;>rfl
theorem cZ.kill (hst:br E σ st w) (ks:List Nat) {v:Value} {ob:Obj E.T} (h:cZ E σ st w M v ob):cZ E σ st w M v (bW E st ks ob):=by
 cases h with
 |box ro d b c el fr hh hf hc=>
  refine .box ro _ b c el fr hh hf ?_
  rcases hc with⟨t,ht⟩|⟨hs,u,hu,ho,hv⟩
  ·exact .inl ⟨t,VT.kill hst ks ht⟩
  ·exact .inr ⟨O7 ks hs,u,hu,ho,a8.kill hst ks hv⟩
 |arr l e xs v h=>exact .arr l e xs v h
 |dead v=>exact .dead v
theorem QI (ks:List Nat) (k:Nat):ij σ σ st (st.map (bW E st ks)) k:=
 ⟨rfl,fun l e xs h=>⟨l,xs,by rw[dA,h];rfl⟩,fun h=>by simpa using h⟩
theorem OL (ks:List Nat) {b:Nat} (h:MB σ (st.map (bW E st ks)) b):MB σ st b:=by
 rcases h with h|⟨o,ob,ho,hm,hb⟩
 ·exact .inl h
 right
 rw[dA]at ho
 obtain⟨ob0,h0,rfl⟩:=Option.map_eq_some_iff.1 ho
 exact⟨o,ob0,h0,by rwa [sX]at hm,hb⟩
theorem Mv.kill (hst:br E σ st w) (ks:List Nat):Mv σ σ st (st.map (bW E st ks)) w w:=by
 refine Mv.mk' hst ⟨rfl,rfl,rfl,Nat.le_refl _,fun _ _ _=>rfl,fun b _ h=>OL ks h⟩ ⟨fun _ _ _ _=>rfl,fun p q hp=>⟨_,by rw[dA,hp];rfl,B6 ks q,fun h=>by rw[B7];exact h⟩⟩ ⟨rfl,fun _ _=>rfl⟩ (fun _ _=>rfl) (fun p q b hp hd hb=> ?_) (fun p q hp=> ?_) ?_
 ·rw[dA]at hp
  obtain⟨q0,h0,rfl⟩:=Option.map_eq_some_iff.1 hp
  rw[nM]at hd
  exact hst.out p q0 b h0 hd hb
 ·rw[dA]at hp
  obtain⟨q0,h0,rfl⟩:=Option.map_eq_some_iff.1 hp
  exact .inr (cZ.aM (Kept.weaken fun b h=>OL ks h) (fun _ _=>rfl) (fun k _=>QI ks k) (cZ.kill hst ks (hst.obj p q0 h0)))
 ·intro p q ob1 ob2 b hne hp hq hmu hd hb1 hb2
  rw[dA]at hp hq
  obtain⟨p0,h1,rfl⟩:=Option.map_eq_some_iff.1 hp
  obtain⟨q0,h2,rfl⟩:=Option.map_eq_some_iff.1 hq
  rw[sX]at hmu
  rw[nM]at hd
  exact hst.apart p q p0 q0 b hne h1 h2 hmu hd hb1 hb2
structure GY {E:Env} (ks:List Nat) (σ σ':Sg) (st st':St E.T) (w w':World):Prop where
 rep:br E σ' st' w'
 aM:wY (MB σ st) (MB σ' st') w w'
 stay:yU σ σ' st st'
 qC:Qj σ σ' w w'
 name: ∀k,k<st.length→k∉ks→σ' k=σ k
theorem Mv.x {ks:List Nat} (h:Mv (E:=E) σ σ' st st' w w'):GY ks σ σ' st st' w w':=⟨h.rep,h.aM,h.stay,h.qC,fun k hk _=>h.name k hk⟩
theorem GY.trans {ks:List Nat} {σ'':Sg} {st'':St E.T} {w'':World} (h:GY (E:=E) ks σ σ' st st' w w') (k:GY ks σ' σ'' st' st'' w' w''):GY ks σ σ'' st st'' w w'':=
 ⟨k.rep,h.aM.trans k.aM,h.stay.trans k.stay,h.qC.trans k.qC,fun o ho hn=>(k.name o (Nat.lt_of_lt_of_le ho h.stay.len) hn).trans (h.name o ho hn)⟩
theorem GY.same {ks:List Nat} (h:GY (E:=E) ks σ σ' st st' w w') (k:Nat) (hk:k<st.length) (hn:k∉ks):ij σ σ' st st' k:=by
 refine⟨h.name k hk hn,fun l e xs hh=> ?_,fun _=>Nat.lt_of_lt_of_le hk h.stay.len⟩
 obtain⟨ob',h',t',_⟩:=h.stay.kind k _ hh
 cases t' with
 |arr l l' e xs xs'=>exact⟨l',xs',h'⟩
theorem GY.YO {ks:List Nat} (h:GY (E:=E) ks σ σ' st st' w w') (hst:br E σ st w) {d:az E.T} {v:Value} (hv:a8 E σ st w (MB σ st) d v):a8 E σ' st' w' (MB σ' st') (D.kill E st ks d) v:=by
 have hk:=a8.kill hst ks hv
 exact a8.aM h.aM.kept hk fun k hk'=>h.same k (a8.refs hk k hk') (qT ks d k hk').2
theorem GY.Ke {ks:List Nat} (h:GY (E:=E) ks σ σ' st st' w w') (hst:br E σ st w) {ds:List (az E.T)} {vs:List Value} (hv:aW E σ st w (MB σ st) ds vs):aW E σ' st' w' (MB σ' st') (cY E st ks ds) vs:=by
 have hk:=aW.kill hst ks hv
 exact aW.aM h.aM.kept hk fun k hk'=>h.same k (aW.refs hk k hk') (kr ks ds k hk').2
theorem VY {o:Nat} {y:Value} {ob ob':Obj E.T} (ho:aR st o=some ob) (hm:dt ob=true) {b:Nat} (h:MB (dN σ o y) (dk st o ob') b):MB σ st b∨k9 y=some b:=by
 rcases h with h|⟨p,q,hp,hq,hb⟩
 ·exact .inl (.inl h)
 rw[bF]at hp
 by_cases hpo:p=o
 ·subst hpo
  rw[dH]at hb
  exact .inr hb
 ·rw[dG hpo]at hb
  rw[if_neg (fun h=>hpo h.1.symm)]at hp
  exact .inl (.inr ⟨p,q,hp,hq,hb⟩)
theorem GY.swap (hst:br E σ st w) {o:Nat} {e:Ty} {xs xs':List (I E.T e)} (ho:aR st o=some (.arr .live e xs)) (hno: ∀p ob,aR st p=some ob→o∉cf E ob) (y:Value)
  (h1:w'.os=w.os) (h2:w'.tape=w.tape) (h3:w'.output=w.output) (h4:w.heap.size≤w'.heap.size) (h5: ∀b,b<w.heap.size→k9 (σ o)≠some b→w'.heap[b]? =w.heap[b]?)
  (hy: ∀b,k9 y=some b→w.heap.size≤b∨k9 (σ o)=some b)
  (hob:Kept (MB σ st) (MB (dN σ o y) (dk st o (.arr .live e xs'))) w w'→gz E w' (MB (dN σ o y) (dk st o (.arr .live e xs'))) e xs' y):
  GY [o] σ (dN σ o y) st (dk st o (.arr .live e xs')) w w':=by
 have hlt:=bT ho
 have hmay: ∀b,b<w.heap.size→MB (dN σ o y) (dk st o (.arr .live e xs')) b→MB σ st b:=by
  intro b hb h
  rcases VY ho rfl h with h|h
  ·exact h
  ·rcases hy b h with h|h
   ·omega
   ·exact .inr ⟨o,_,ho,rfl,h⟩
 have hblock: ∀b,b<w.heap.size→ ¬MB σ st b→w'.heap[b]? =w.heap[b]? :=fun b hb hM=>h5 b hb (fun h=>hM (.inr ⟨o,_,ho,rfl,h⟩))
 have hkept:Kept (MB σ st) (MB (dN σ o y) (dk st o (.arr .live e xs'))) w w':=⟨h4,hblock,hmay⟩
 have hsame: ∀k,k≠o→ij σ (dN σ o y) st (dk st o (.arr .live e xs')) k:=by
  intro k hk
  refine⟨dG hk,fun l e' zs h=>⟨l,zs,?_⟩,fun h=>by rw[dL];exact h⟩
  rw[bF,if_neg (fun h=>hk h.1.symm)];exact h
 refine⟨⟨fun p q hp=> ?_,?_,fun b hb=>Nat.lt_of_lt_of_le (hst.qC b hb) h4,fun p q b hp hd hb=> ?_⟩,⟨h1,h2,h3,h4,hblock,hmay⟩,⟨fun p q hp hl=> ?_,fun p q hp=> ?_⟩,⟨rfl,fun b hb=>h5 b (hst.qC b hb) (fun h=>hst.out o _ b ho rfl h hb)⟩,fun k hk hn=>dG (by simpa using hn)⟩
 ·rw[bF]at hp
  by_cases hpo:p=o
  ·subst hpo
   rw[if_pos ⟨rfl,hlt⟩]at hp;cases hp
   rw[dH]
   exact .arr .live e xs' y (hob hkept)
  ·rw[if_neg (fun h=>hpo h.1.symm)]at hp
   rw[dG hpo]
   cases hd:dC q with
   |true=>cases q<;>first|exact .dead _|cases hd
   |false=>
    refine cZ.aM hkept (fun g hg=>h5 g (lO hst hp hd hg) (fun hbo=> ?_)) (fun k hk=>hsame k (fun h=>by subst h;exact hno p q hp hk)) (hst.obj p q hp)
    exact hst.apart o p _ q g (fun h=>hpo h.symm) ho hp rfl hd hbo hg
 ·intro p q ob1 ob2 b hne hp hq hmu hd hb1 hb2
  rw[bF]at hp hq
  by_cases hpo:p=o
  ·subst hpo
   rw[if_pos ⟨rfl,hlt⟩]at hp;cases hp
   rw[if_neg (fun h=>hne h.1)]at hq
   rw[dH]at hb1
   rw[dG (fun h=>hne h.symm)]at hb2
   rcases hy b hb1 with h|h
   ·have:=lO hst hq hd hb2;omega
   ·exact hst.apart p q _ ob2 b hne ho hq rfl hd h hb2
  ·rw[if_neg (fun h=>hpo h.1.symm)]at hp
   rw[dG hpo]at hb1
   by_cases hqo:q=o
   ·subst hqo
    rw[if_pos ⟨rfl,hlt⟩]at hq;cases hq
    rw[dH]at hb2
    rcases hy b hb2 with h|h
    ·have:=lO hst hp (by cases ob1<;>first|rfl|cases hmu) hb1;omega
    ·exact hst.apart p q ob1 _ b hne hp ho hmu rfl hb1 h
   ·rw[if_neg (fun h=>hqo h.1.symm)]at hq
    rw[dG hqo]at hb2
    exact hst.apart p q ob1 ob2 b hne hp hq hmu hd hb1 hb2
 ·rw[bF]at hp
  by_cases hpo:p=o
  ·subst hpo
   rw[dH]at hb
   intro hm
   rcases hy b hb with h|h
   ·have:=hst.qC b hm;omega
   ·exact hst.out p _ b ho rfl h hm
  ·rw[if_neg (fun h=>hpo h.1.symm)]at hp
   rw[dG hpo]at hb
   exact hst.out p q b hp hd hb
 ·refine dG (fun h=> ?_)
  subst h
  rw[ho]at hp;cases hp;cases hl
 ·by_cases hpo:p=o
  ·subst hpo
   rw[ho]at hp;cases hp
   exact⟨_,by rw[bF,if_pos ⟨rfl,hlt⟩],.arr .live .live e xs xs',fun h=>h⟩
  ·exact⟨q,by rw[bF,if_neg (fun h=>hpo h.1.symm)];exact hp,qQ.refl q,id⟩
end
open Go
section
variable {P:Program} {E:Env} {w w':World} {σ σ':Sg} {st st':St E.T} {M:Nat→Prop}
theorem EU {α β:Type} (f:α→β) (l:List α) (n:Nat) (a:α):(dk l n a).map f=dk (l.map f) n (f a):=by simp[Fb,List.map_set]
theorem LP (S:Sound P E) (hst:br E σ st w) {st':St E.T} {t tx ty:TypeId} {o:Nat} {x v:az E.T} {us u:Value} (hs:a8 E σ st w (MB σ st) (.own o) us) (hx:a8 E σ st w (MB σ st) x u) (h:(nU E st t tx (.own o) x).get=some (v,st')):
  ∃y w',(Builtin.append_ #[t,tx] ty #[us,u]).run P w= .ok y w'∧GY [o] σ (dN σ o y) st (st'.map (bW E st [o])) w w'∧a8 E (dN σ o y) (st'.map (bW E st [o])) w' (MB (dN σ o y) (st'.map (bW E st [o]))) v y:=by
 simp only[nU]at h
 split at h
 ·rename_i e xs ho
  obtain⟨h0,h⟩:=Tree.aO h
  have ht:=kY h0
  obtain⟨te,hu,hte⟩:=(S.data _ _ ht).desc
  obtain⟨i,hi,hsz,hby,hz⟩:=(S.data _ _ hte).info
  obtain⟨ys,cs,h1,hl,hsrc⟩:=yQ S hst hte hi h hx
  obtain⟨h2,h3⟩:=fM h1
  rw[decide_eq_true_eq]at h2
  cases h3
  have hus:=vt hs
  subst hus
  have hmap:(dk st o (.arr .live e (xs++ys))).map (bW E st [o])=dk (st.map (bW E st [o])) o (.arr .live e (xs++ys)):=EU _ _ _ _
  rw[hmap]
  have m0:=Mv.kill hst [o]
  have ho1:aR (st.map (bW E st [o])) o=some (.arr .live e xs):=by rw[dA,ho];rfl
  have hno: ∀p ob,aR (st.map (bW E st [o])) p=some ob→o∉cf E ob:=by
   intro p ob hp
   rw[dA]at hp
   obtain⟨q0,_,rfl⟩:=Option.map_eq_some_iff.1 hp
   cases q0 with
   |box ro c=>intro hk;exact(qT [o] c o hk).2 (by simp)
   |arr l e zs=>simp[bW,cf]
   |dead=>simp[bW,cf]
  generalize hst1:st.map (bW E st [o])=st1 at*
  have hlen:(xs++ys).length=xs.length+ys.length:=List.length_append
  have fin: ∀(y:Value) (w':World),(Builtin.append_ #[t,tx] ty #[σ o,u]).run P w= .ok y w'→w'.os=w.os→w'.tape=w.tape→w'.output=w.output→w.heap.size≤w'.heap.size→(∀b,b<w.heap.size→k9 (σ o)≠some b→w'.heap[b]? =w.heap[b]?)→
    (∀b,k9 y=some b→w.heap.size≤b∨k9 (σ o)=some b)→(∀M',Kept (MB σ st1) M' w w'→gz E w' M' e (xs++ys) y)→
    ∃y w',(Builtin.append_ #[t,tx] ty #[σ o,u]).run P w= .ok y w'∧GY [o] σ (dN σ o y) st (dk st1 o (.arr .live e (xs++ys))) w w'∧
     a8 E (dN σ o y) (dk st1 o (.arr .live e (xs++ys))) w' (MB (dN σ o y) (dk st1 o (.arr .live e (xs++ys)))) (.own o) y:=by
   intro y w' hrun e1 e2 e3 e4 e5 e6 e7
   refine⟨y,w',hrun,GY.trans m0.x (GY.swap m0.rep ho1 hno y e1 e2 e3 e4 e5 e6 (e7 _)),?_⟩
   have hv:=a8.data _ _ _ (VT.own (E:=E) (σ:=dN σ o y) (st:=dk st1 o (.arr .live e (xs++ys))) (w:=w') (M:=MB (dN σ o y) (dk st1 o (.arr .live e (xs++ys)))) o .live e (xs++ys) (by rw[bF,if_pos ⟨rfl,bT ho1⟩]))
   rw[dH]at hv
   exact hv
  have hl1:bE E w (MB σ st1) e ys cs:=bE.aM m0.aM.kept hl
  have grow: ∀(base:Option Addr) (sCap:Nat) (olds:List Value),σ o= .slice base xs.length sCap→bE E w (MB σ st1) e xs olds→(Builtin.firstCells i.size xs.length (.slice base xs.length sCap)).run P w.drew= .ok olds.toArray w.drew→sCap<xs.length+ys.length→
    ∃y w',(Builtin.append_ #[t,tx] ty #[σ o,u]).run P w= .ok y w'∧GY [o] σ (dN σ o y) st (dk st1 o (.arr .live e (xs++ys))) w w'∧
     a8 E (dN σ o y) (dk st1 o (.arr .live e (xs++ys))) w' (MB (dN σ o y) (dk st1 o (.arr .live e (xs++ys)))) (.own o) y:=by
   intro base sCap olds hσ hlo hold hg
   have hrun:=yR (P:=P) t ty te hu hi hz hby base hold hsrc hg h2
   rw[←hσ]at hrun
   have hge:=uF w (xs.length+ys.length) sCap te
   generalize grownCap w (xs.length+ys.length) sCap te=cap at*
   refine fin _ _ hrun rfl rfl rfl (by simp) (fun b hb _=> ?_) (fun b hb=> .inl (by rw[j5 hb];exact Nat.le_refl _)) (fun M' hk=> ?_)
   ·show(w.heap.push _)[b]? =w.heap[b]?
    simp[Array.getElem?_push,Nat.ne_of_lt hb]
   ·exact zf S hte hst (bE.append (bE.aM hk hlo) (bE.aM hk hl1)) (by rw[hlen];exact h2) (by rw[hlen];exact hge) (by rw[hlen];exact heap_alloc_new w.drew _) (fun q=>mD (w:=w.drew) q) hlen.symm
  have hob:=m0.rep.obj o _ ho1
  generalize hσ:σ o=s at*
  cases hob with
  |arr l e xs _ hown=>
   rcases hown.2 with⟨⟨a,rfl⟩,rfl⟩|⟨g,cap,c,el,fr,olds,rfl,hcap,hh,hcz,hfz,hlo,hq,hord⟩
   ·by_cases hy0:ys.length=0
    ·have hy:ys=[]:=List.eq_nil_of_length_eq_zero hy0
     subst hy
     cases hl
     have hrun:=Mc (P:=P) t ty te hu hi a (Nat.le_refl 0) hsrc
     exact fin _ _ hrun rfl rfl rfl (Nat.le_refl _) (fun _ _ _=>rfl) (fun b hb=> .inr hb) (fun M' _=>⟨Nat.zero_le _,.inl ⟨⟨a,rfl⟩,rfl⟩⟩)
    ·refine grow a 0 [] rfl (.nil e) ?_ (by simp;omega)
     cases a<;>simp[Builtin.firstCells,loadCells,loadCellsFrom]
   ·have hll:=bE.len S.todq hlo
    have hly:=bE.len S.todq hl1
    by_cases hroom:xs.length+ys.length≤cap+1
    ·have hcz2:(xs.length+ys.length)*E.size e≤c.size:=Nat.le_trans (Nat.mul_le_mul_right _ hroom) hcz
     rw[Nat.add_mul]at hcz2
     have hcz3:(xs.length+ys.length)*E.size e≤(cap+1)*E.size e:=Nat.mul_le_mul_right _ hroom
     rw[Nat.add_mul]at hcz3
     have hrun:=Mb (P:=P) t ty te hu hi hsrc hroom hh (off:=0) (by rw[hsz,hly];omega) (by rw[hsz,hly];intro q _ h;exact hfz q (fun _=>by omega))
     rw[hsz,Nat.zero_add]at hrun
     have hb:=(Array.getElem?_eq_some_iff.1 hh).1
     refine fin _ _ hrun rfl rfl rfl (by rw[iK];exact Nat.le_refl _) (fun b _ hne=>nF (fun h=>hne (by rw[h];rfl))) (fun b hb=> .inr (by rw[j5 hb];rfl)) (fun M' hk=> ?_)
     refine gz.mk' E _ _ (by rw[hlen];exact h2) (by rw[hlen];exact hroom) (kT hb) (by rw[gH];exact hcz) (fun q hq=>by rw[AR hh];exact hfz q hq) (bE.append (bE.aM hk hlo) (bE.aM hk hl1)) (fun q v hv=> ?_) hlen.symm
     rw[qF _ _ _ _ (by rw[hly];omega)]
     by_cases hql:q<olds.length
     ·rw[if_neg (by omega)]
      rw[List.getElem?_append_left hql]at hv
      exact hq q v hv
     ·rw[List.getElem?_append_right (by omega)]at hv
      have:=(List.getElem?_eq_some_iff.1 hv).1
      rw[if_pos (by omega),←hll];exact hv
    ·refine grow _ _ olds rfl hlo ?_ (by omega)
     refine run_firstCells_some (P:=P) w.drew i.size xs.length _ xs.length (cap+1) olds (by rw[hll,hsz]) (fun j v hv=> ?_)
     rw[dS]
     show w.cell? ⟨g,0+j,none⟩=some v
     simp[World.cell?,hh,hq j v hv]
 ·cases h
end
open Go
noncomputable section
section
variable {P:Program} {E:Env} {w w' w'':World} {σ σ' σ'':Sg} {st st' st'':St E.T} {M:Nat→Prop}
structure Mf {E:Env} (σ σ':Sg) (st st':St E.T) (w w':World):Prop where
 rep:br E σ' st' w'
 aM:wY (MB σ st) (MB σ' st') w w'
 stay:yU σ σ' st st'
 qC:Qj σ σ' w w'
theorem Mf.refl (h:br E σ st w):Mf σ σ st st w w:=⟨h,wY.refl _ _,yU.refl _ _,Qj.refl _ _⟩
theorem Mf.trans (h:Mf (E:=E) σ σ' st st' w w') (k:Mf σ' σ'' st' st'' w' w''):Mf σ σ'' st st'' w w'':=⟨k.rep,h.aM.trans k.aM,h.stay.trans k.stay,h.qC.trans k.qC⟩
theorem GY.f {ks:List Nat} (h:GY (E:=E) ks σ σ' st st' w w'):Mf σ σ' st st' w w':=⟨h.rep,h.aM,h.stay,h.qC⟩
theorem Mv.f (h:Mv (E:=E) σ σ' st st' w w'):Mf σ σ' st st' w w':=⟨h.rep,h.aM,h.stay,h.qC⟩
inductive fP (E:Env) (σ:Sg) (st:St E.T) (w:World) (M:Nat→Prop):List (FuncId×List (az E.T))→List Deferred→Prop where
 |nil:fP E σ st w M [] []
 |cons (g:FuncId) (as:List (az E.T)) (args cap:Array Value) (ds:List (FuncId×List (az E.T))) (dds:List Deferred) (h:aW E σ st w M as (args++cap).toList) (h':fP E σ st w M ds dds):
   fP E σ st w M ((g,as) ::ds) ({target:= .fn (.func g) cap,args:=args} ::dds)
structure cj (E:Env) (σ:Sg) (st:St E.T) (w:World) (fr:Fr E.T) (a:Act):Prop where
 s:aW E σ st w (MB σ st) fr.s a.tmps.toList
 d:fP E σ st w (MB σ st) fr.d a.defers
theorem aW.length: ∀{ds:List (az E.T)} {us:List Value},aW E σ st w M ds us→ds.length=us.length
 |_,_,.nil=>rfl
 |_,_,.cons v r u us h h'=>by simp[aW.length h']
theorem aW.nth: ∀{ds:List (az E.T)} {us:List Value},aW E σ st w M ds us→ ∀(t:Nat) (u0:Value),a8 E σ st w M (D.nth ds t .undef) (us.getD t u0)
 |_,_,.nil,t,u0=> .undef _
 |_,_,.cons v r u us h h',0,u0=>h
 |_,_,.cons v r u us h h',t+1,u0=>by simpa [fg,dZ,ed]using aW.nth h' t u0
theorem aW.set: ∀{ds:List (az E.T)} {us:List Value},aW E σ st w M ds us→ ∀(t:Nat) {v:az E.T} {u:Value},a8 E σ st w M v u→aW E σ st w M (dk ds t v) (us.set t u)
 |_,_,.nil,t,_,_,_=> .nil
 |_,_,.cons v r u us h h',0,_,_,hv=> .cons _ _ _ _ hv h'
 |_,_,.cons v r u us h h',t+1,_,_,hv=> .cons _ _ _ _ h (aW.set h' t hv)
theorem aW.append: ∀{ds:List (az E.T)} {us:List Value},aW E σ st w M ds us→ ∀{ds':List (az E.T)} {us':List Value},aW E σ st w M ds' us'→aW E σ st w M (ds++ds') (us++us')
 |_,_,.nil,_,_,h=>h
 |_,_,.cons v r u us h h',_,_,k=> .cons _ _ _ _ h (aW.append h' k)
theorem aW.get: ∀{ds:List (az E.T)} {us:List Value},aW E σ st w M ds us→ ∀{t:Nat} {v:az E.T},aR ds t=some v→ ∃u,us[t]? =some u∧a8 E σ st w M v u
 |_,_,.nil,t,v,h=>by simp[dJ,cT,cU]at h
 |_,_,.cons v r u us h h',0,_,hv=>by cases hv;exact⟨u,rfl,h⟩
 |_,_,.cons v r u us h h',t+1,_,hv=>by obtain⟨u,h1,h2⟩:=aW.get h' (t:=t) hv;exact⟨u,by simpa using h1,h2⟩
theorem PV (v:Value):a8 E σ st w M (Nz E v) v:=by
 unfold Nz
 split
 ·exact gy _
 ·rename_i n
  cases h:decide (0≤n)&&decide (n<256)with
  |false=>exact .undef _
  |true=>
   simp only[Bool.and_eq_true,decide_eq_true_eq]at h
   exact V7 .u8 n (fun _=>h)
 ·rename_i k n hk
  exact V7 k n (fun h=>(hk h).elim)
 ·rename_i s
  cases h:Nat.ble s.data.toList.length dy with
  |false=>exact .undef _
  |true=>exact mkStr s (Nat.le_of_ble_eq_true h)
 ·exact .cQ
 ·exact .data _ _ _ (.bm (.bool) none)
 ·exact .ei
 ·exact .ct
 ·exact .undef _
theorem bY {fr:Fr E.T} {a:Act} (h:cj E σ st w fr a) (x:Operand):a8 E σ st w (MB σ st) (cd E fr x) (a.eval x):=by
 cases x with
 |tmp t=>
  have:=aW.nth h.s t undef
  simp only[cd,Act.eval]
  have he:a.tmps.toList.getD t undef=a.tmps.getD t undef:=by simp[Array.getD_eq_getD_getElem?,List.getD_eq_getElem?_getD]
  rwa [he]at this
 |const v=>exact PV v
 |global g=>exact .undef _
 |func f=>exact .fn f [] [] .nil
theorem yx {fr:Fr E.T} {a:Act} (h:cj E σ st w fr a): ∀(xs:List Operand),aW E σ st w (MB σ st) (xs.map (cd E fr)) (xs.map a.eval)
 |[]=> .nil
 |x::r=> .cons _ _ _ _ (bY h x) (yx h r)
theorem oZ {fr:Fr E.T} {a:Act} (h:cj E σ st w fr a): ∀(xs:List (Nat×Operand)),wX E σ st w (MB σ st) (xs.map fun x=>(x.1,cd E fr x.2)) (xs.map fun x=>(x.1,a.eval x.2))
 |[]=> .nil
 |x::r=> .cons _ _ _ _ _ (bY h x.2) (oZ h r)
theorem fm {fr:Fr E.T} {a:Act} (h:cj E σ st w fr a) (dst:Option Tmp) {v:az E.T} {u:Value} (hv:a8 E σ st w (MB σ st) v u):cj E σ st w (put E fr dst v) (a.put dst u):=by
 cases dst with
 |none=>exact h
 |some t=>exact⟨by simpa [put,Act.put]using aW.set h.s t hv,h.d⟩
theorem fP.aM {M':Nat→Prop} (kp:Kept M M' w w'): ∀{ds:List (FuncId×List (az E.T))} {dds:List Deferred},fP E σ st w M ds dds→(∀k∈ds.flatMap fun x=>bh x.2,ij σ σ' st st' k)→fP E σ' st' w' M' ds dds
 |_,_,.nil,_=> .nil
 |_,_,.cons g as args cap ds dds h h',hs=> .cons g as args cap ds dds (aW.aM kp h (fun k hk=>hs k (by simp[hk]))) (fP.aM kp h' (fun k hk=>hs k (by
   rw[List.flatMap_cons];exact List.mem_append_right _ hk)))
theorem fP.refs: ∀{ds:List (FuncId×List (az E.T))} {dds:List Deferred},fP E σ st w M ds dds→ ∀k∈ds.flatMap fun x=>bh x.2,k<st.length
 |_,_,.nil,k,hk=>by simp at hk
 |_,_,.cons g as args cap ds dds h h',k,hk=>by
  rw[List.flatMap_cons]at hk
  rcases List.mem_append.1 hk with hk|hk
  ·exact aW.refs h k hk
  ·exact fP.refs h' k hk
theorem fP.kill (hst:br E σ st w) (ks:List Nat): ∀{ds:List (FuncId×List (az E.T))} {dds:List Deferred},fP E σ st w M ds dds→fP E σ st w M (ds.map fun x=>(x.1,cY E st ks x.2)) dds
 |_,_,.nil=> .nil
 |_,_,.cons g as args cap ds dds h h'=> .cons g _ args cap _ dds (aW.kill hst ks h) (fP.kill hst ks h')
theorem cj.mv {fr:Fr E.T} {a:Act} (h:cj E σ st w fr a) (m:Mv σ σ' st st' w w'):cj E σ' st' w' fr a:=
 ⟨m.Ke h.s,fP.aM m.aM.kept h.d fun k hk=>m.same k (fP.refs h.d k hk)⟩
theorem Eh (ks:List Nat): ∀(ds:List (FuncId×List (az E.T))) (k:Nat),k∈(ds.map fun x=>(x.1,cY E st ks x.2)).flatMap (fun x=>bh x.2)→k∉ks
 |[],k,h=>by simp at h
 |d::ds,k,h=>by
  rw[List.map_cons,List.flatMap_cons]at h
  rcases List.mem_append.1 h with h|h
  ·exact(kr ks _ k h).2
  ·exact Eh ks ds k h
theorem cj.mvx {fr:Fr E.T} {a:Act} {ks:List Nat} (hst:br E σ st w) (h:cj E σ st w fr a) (m:GY ks σ σ' st st' w w'):cj E σ' st' w' (iM E st ks fr) a:=by
 refine⟨m.Ke hst h.s,?_⟩
 have hk:=fP.kill hst ks h.d
 exact fP.aM m.aM.kept hk fun k hk'=>m.same k (fP.refs hk k hk') (Eh ks _ k hk')
variable {K:Act→World→Prop} {Q:Exit→Act→World→Prop} {o:Oper} {a:Act} {fr:Fr E.T}
theorem j7 {y:Value} (h:(execOp a.eval o).run P w= .ok (.value y) w') (hk:K (a.put o.dst y) w'):o.wp P a w K Q:=by
 unfold Oper.wp;rw[h];exact hk
theorem IG (h:(execOp a.eval o).run P w= .ok .skip w') (hk:K (a.put o.dst undef) w'):o.wp P a w K Q:=by
 unfold Oper.wp;rw[h];exact hk
def DJ (E:Env) (σ:Sg) (st:St E.T) (w:World) (K:Act→World→Prop) (Q:Exit→Act→World→Prop) (a:Act):wR E→Prop
 | .next fr' st'=> ∀σ' w' a',Mf σ σ' st st' w w'→cj E σ' st' w' fr' a'→K a' w'
 | .panic v fr' st'=> ∀σ' w' u,Mf σ σ' st st' w w'→cj E σ' st' w' fr' a→a8 E σ' st' w' (MB σ' st') v u→Q (.panic [{v:=u,recovered:=false}]) a w'
theorem nG (hfr:cj E σ st w fr a) {v:az E.T} {st':St E.T} {s:Sem Value} (hg:qD P E σ st w s v st') (he:execOp a.eval o=(do pure (.value (←s)):Sem Next)) (hp:DJ E σ st w K Q a (.next (put E fr o.dst v) st')):o.wp P a w K Q:=by
 obtain⟨y,w',σ',hr,hm,hv⟩:=hg
 refine j7 (y:=y) (w':=w') (by rw[he];simp[hr]) ?_
 exact hp σ' w' _ hm.f (fm (hfr.mv hm) o.dst hv)
theorem eo (hst:br E σ st w) (hfr:cj E σ st w fr a) {v:az E.T} {s:Sem Value} (hg: ∃y,s.run P w= .ok y w∧a8 E σ st w (MB σ st) v y) (he:execOp a.eval o=(do pure (.value (←s)):Sem Next)) (hp:DJ E σ st w K Q a (.next (put E fr o.dst v) st)):o.wp P a w K Q:=
 nG hfr (qD.still hst hg) he hp
end
end
open Go
section
variable {P:Program} {E:Env} {w w' w'':World} {σ σ' σ'':Sg} {st st' st'':St E.T} {M:Nat→Prop}
theorem HT {v:Value} {ob:Obj E.T} {k:Nat} (hk:k<st.length):ij σ (dN σ st.length v) st (st++[ob]) k:=
 ⟨dG (Nat.ne_of_lt hk),fun l e xs h=>⟨l,xs,by rw[ew,if_neg (Nat.ne_of_lt hk)];exact h⟩,fun _=>by simp;omega⟩
theorem Ph {v:Value} {ob:Obj E.T} (h4:w.heap.size≤w'.heap.size) (h5: ∀b,b<w.heap.size→w'.heap[b]? =w.heap[b]?) (hv: ∀b,k9 v=some b→w.heap.size≤b):Kept (MB σ st) (MB (dN σ st.length v) (st++[ob])) w w':=
 ⟨h4,fun b hb _=>h5 b hb,fun b hb h=>by
  rcases E5 h with h|h
  ·exact h
  ·have:=hv b h;omega⟩
theorem ES (S:Sound P E) (hst:br E σ st w) {t:TypeId} {d:az E.T} {u:Value} (hf:fits E st t d=true) (hv:a8 E σ st w (MB σ st) d u):
  Mv σ (dN σ st.length (.pointer (some ⟨w.heap.size,0,none⟩))) st (st++[.box false d]) w (w.alloc (.cells u.cells t))∧
   a8 E (dN σ st.length (.pointer (some ⟨w.heap.size,0,none⟩))) (st++[.box false d]) (w.alloc (.cells u.cells t)) (MB (dN σ st.length (.pointer (some ⟨w.heap.size,0,none⟩))) (st++[.box false d])) (.ptr st.length []) (.pointer (some ⟨w.heap.size,0,none⟩)):=by
 have h5: ∀b,b<w.heap.size→(w.alloc (.cells u.cells t)).heap[b]? =w.heap[b]? :=fun b hb=>by
  show(w.heap.push _)[b]? =w.heap[b]?
  simp[Array.getElem?_push,Nat.ne_of_lt hb]
 have hb: ∀b,k9 (.pointer (some ⟨w.heap.size,0,none⟩))=some b→w.heap.size≤b:=fun b h=>by cases h;exact Nat.le_refl _
 have hk:Kept (MB σ st) (MB (dN σ st.length (.pointer (some ⟨w.heap.size,0,none⟩))) (st++[.box false d])) w (w.alloc (.cells u.cells t)):=Ph (by simp) h5 hb
 refine⟨Mv.new hst _ _ _ rfl rfl rfl (by simp) h5 hb ?_,?_⟩
 ·refine .box false d w.heap.size u.cells t (0,0) (heap_alloc_new w _) (fun q=>mD q) ?_
  rcases Dm hf with⟨ty,ht⟩|hs
  ·obtain⟨cs,hvt,rfl⟩:=Dn ht hf hv
   left
   have hc:=toV_cells (ty:=ty) (VT.one hst hvt) (fun ha=>by rw[VT.len S.todq hvt];exact nq ha)
   have h1:=VT.aM (σ':=dN σ st.length (.pointer (some ⟨w.heap.size,0,none⟩))) (st':=st++[.box false d]) hk hvt (fun k hk'=>HT (VT.refs hvt k hk'))
   rw[hc]at h1⊢
   exact⟨ty,h1⟩
  ·right
   have ho:=Fp hs hv
   have hc:u.cells= #[u]:=by cases u<;>first|rfl|(simp[kU]at ho)
   exact⟨N3 hs,u,by rw[hc],ho,a8.aM hk hv (fun k hk'=>HT (a8.refs hv k hk'))⟩
 ·have:=a8.ptr (E:=E) (σ:=dN σ st.length (.pointer (some ⟨w.heap.size,0,none⟩))) (st:=st++[.box false d]) (w:=w.alloc (.cells u.cells t)) (M:=MB (dN σ st.length (.pointer (some ⟨w.heap.size,0,none⟩))) (st++[.box false d])) st.length [] w.heap.size (by rw[dH];rfl) (by simp)
  exact this
theorem vi (t:TypeId) (v:Value):(newVar t v).run P w= .ok ⟨w.heap.size,0,none⟩ (w.alloc (.cells v.cells t)):=by
 simp[newVar,newRow]
theorem Kb (S:Sound P E) (hst:br E σ st w) {t:TypeId} (ht:E.tk t≠ .other): ∃u,(zeroValue t).run P w= .ok u w∧a8 E σ st w (MB σ st) (zeroV E t) u∧fits E st t (zeroV E t)=true:=by
 unfold zeroV fits
 cases hk:E.tk t with
 |data ty=>
  have hz:=nb (σ:=σ) (st:=st) (w:=w) (M:=MB σ st) S.todq depth ty (S.data t ty hk).deep
  refine⟨_,uq S hk w,.data ty _ _ hz,?_⟩
  cases ty with
  |arr n e=>
   obtain⟨z,hz⟩:=uO depth _ (S.data t _ hk).deep
   obtain⟨m,hm⟩: ∃m,depth=m+1:=⟨7,rfl⟩
   rw[hm]at hz⊢
   simp only[fo]at hz
   simp only[iP]
   split at hz
   ·rename_i y hy
    exact tyEqb_refl _
   ·cases hz
  |named i=>exact Nat.beq_refl i
  |slice e=>rfl
  |bool=>rfl
  |str=>rfl
  |int k=>exact tyEqb_refl _
 |ptr=>
  obtain⟨_,i,hi,_,hz⟩:=S.ptr t hk
  exact⟨_,by simp[zeroValue,xD hi,hz],.cQ,rfl⟩
 |func=>
  obtain⟨_,i,hi,_,hz⟩:=S.func t hk
  exact⟨_,by simp[zeroValue,xD hi,hz],.ei,rfl⟩
 |iface=>
  obtain⟨_,i,hi,_,hz⟩:=S.iface t hk
  exact⟨_,by simp[zeroValue,xD hi,hz],.ct,rfl⟩
 |other=>exact absurd hk ht
where
 kEq_refl (k:IntKind):kEq k k=some ⟨rfl⟩:=by cases k<;>rfl
 nEq_refl (n:Nat):ZA n n=some ⟨rfl⟩:=by
  unfold ZA
  split
  ·rfl
  ·rename_i h;rw[Nat.beq_refl]at h;cases h
 tyEq_refl: ∀(t:Ty),wS t t=some ⟨rfl⟩
  | .bool=>rfl
  | .str=>rfl
  | .int k=>by simp[wS,kEq_refl]
  | .named i=>by simp[wS,nEq_refl]
  | .slice e=>by simp[wS,tyEq_refl e]
  | .arr n e=>by simp[wS,nEq_refl,tyEq_refl e]
 tyEqb_refl (t:Ty):jn t t=true:=by simp[jn,tyEq_refl]
end
open Go
section
variable {P:Program} {E:Env} {w w' w'':World} {σ σ' σ'':Sg} {st st' st'':St E.T} {M M':Nat→Prop}
variable {a:Act} {fr fr':Fr E.T}
theorem Lk (hst:br E σ st w) (k:Nat): ∃st1,(match aR st k with|some (.arr _ e xs)=>dk st k (.arr .bc e xs)|_=>st)=st1∧Mv σ σ st st1 w w∧
  ∀l e xs b,aR st k=some (.arr l e xs)→k9 (σ k)=some b→ ¬MB σ st1 b:=by
 refine⟨_,rfl,?_⟩
 split
 ·rename_i lv e xs hk
  have hob:=hst.obj k _ hk
  have hr:cZ E σ (dk st k (.arr .bc e xs)) w (MB σ (dk st k (.arr .bc e xs))) (σ k) (.arr .bc e xs):=by
   have:=cZ.aM (σ':=σ) (st':=dk st k (.arr .bc e xs)) (Kept.weaken (M':=MB σ (dk st k (.arr .bc e xs))) (fun b h=>ua hk (fun h=>by cases h) h)) (fun g _=>rfl) (fun j hj=>by simp[cf]at hj) hob
   generalize σ k=s at this
   cases this with
   |arr l e xs v h=>exact .arr .bc e xs s h
  obtain⟨h1,h2⟩:=Mv.calm hst hk (.arr lv .bc e xs xs) rfl rfl hr
  exact⟨h1,fun l e' xs' b _ hb=>h2 b hb⟩
 ·rename_i hne
  exact⟨Mv.refl hst,fun l e xs b h=>absurd h (hne l e xs)⟩
theorem fS: ∀(ks:List Nat) {st:St E.T},br E σ st w→Mv σ σ st (freeze E st ks) w w∧ ∀k∈ks,∀l e xs b,aR st k=some (.arr l e xs)→k9 (σ k)=some b→ ¬MB σ (freeze E st ks) b
 |[],st,hst=>⟨Mv.refl hst,fun k hk=>by cases hk⟩
 |k::r,st,hst=>by
  obtain⟨st1,h1,m1,n1⟩:=Lk hst k
  obtain⟨m2,n2⟩:=fS r m1.rep
  have he:freeze E st (k::r)=freeze E st1 r:=by
   rw[freeze];exact congrArg (fun s=>freeze E s r) h1
  rw[he]
  refine⟨m1.trans m2,fun j hj l e xs b hh hb hM=> ?_⟩
  have hlt:b<w.heap.size:=lO hst hh rfl hb
  rcases List.mem_cons.1 hj with rfl|hj
  ·exact n1 l e xs b hh hb (m2.aM.may b hlt hM)
  ·obtain⟨ob',h',t',_⟩:=m1.stay.kind j _ hh
   cases t' with
   |arr l l' e xs xs'=>exact n2 j hj l' e xs' b h' hb hM
theorem B4 {ks:List Nat} {k:Nat}:k∈live E st ks↔k∈ks∧ ∃l e xs,aR st k=some (.arr l e xs)∧l.may=true:=by
 unfold live
 rw[List.mem_filter]
 constructor
 ·rintro⟨h1,h2⟩
  refine⟨h1,?_⟩
  split at h2
  ·rename_i l e xs h;exact⟨l,e,xs,h,h2⟩
  ·cases h2
 ·rintro⟨h1,l,e,xs,h,hm⟩
  refine⟨h1,?_⟩
  rw[h]
  exact hm
theorem Jh {ks:List Nat} {k:Nat}:k∈tD E st ks↔k∈ks∧ ∃e xs,aR st k=some (.arr .live e xs):=by
 unfold tD
 rw[List.mem_filter]
 constructor
 ·rintro⟨h1,h2⟩
  refine⟨h1,?_⟩
  split at h2
  ·rename_i l e xs h
   cases l<;>first|exact⟨e,xs,h⟩|cases h2
  ·cases h2
 ·rintro⟨h1,e,xs,h⟩
  refine⟨h1,?_⟩
  rw[h]
  rfl
theorem Ly (hst:br E σ st w) {k:Nat} {e:Ty} {xs:List (I E.T e)} {b:Nat} (h:aR st k=some (.arr .bc e xs)) (hb:k9 (σ k)=some b): ¬MB σ st b:=by
 rintro(hm|⟨p,q,hp,hq,hbp⟩)
 ·exact hst.out k _ b h rfl hb hm
 ·refine hst.apart p k q _ b (fun hpk=> ?_) hp h hq rfl hbp hb
  subst hpk
  rw[h]at hp;cases hp;cases hq
theorem y9 (hst:br E σ st w) {ks:List Nat} {k:Nat} (hk:k∈ks) {l:RM} {e:Ty} {xs:List (I E.T e)} {b:Nat} (h:aR st k=some (.arr l e xs)) (hb:k9 (σ k)=some b): ¬MB σ (freeze E st (live E st ks)) b:=by
 obtain⟨m,n⟩:=fS (live E st ks) hst
 cases l with
 |live=>exact n k (B4.2 ⟨hk,_,e,xs,h,rfl⟩) _ e xs b h hb
 |fix=>exact n k (B4.2 ⟨hk,_,e,xs,h,rfl⟩) _ e xs b h hb
 |bc=>exact fun hM=>Ly hst h hb (m.aM.may b (lO hst h rfl hb) hM)
theorem Qw {t:Ty} {d:az E.T} {x:I E.T t} {cs:List Value} (h:valOf E t d=some x) (hv:VT E σ st w M t d cs):cF E w M t x cs:=by
 cases hv with
 |val t y cs hc=>
  simp only[valOf]at h
  split at h
  ·rename_i p _
   cases p with|up p=>
   cases h;exact hc
  ·cases h
 |bm e a=>cases h
 |own k l e xs hk=>cases h
 |dD e v hv=>cases h
 |agg i fs cs hs=>cases h
mutual
theorem VT.yF (ok:dq E) (hst:br E σ st w) (n:Nat): ∀{t:Ty} {d:az E.T} {cs:List Value},VT E σ st w (MB σ st) t d cs→VT E σ st w (MB σ st) t (gV E st n d) cs
 |_,_,_,.val t x cs h=>by unfold gV;exact .val t x cs h
 |_,_,_,.bm e a=>by unfold gV;exact .bm e a
 |_,_,_,.own k l e xs h=>by
  unfold gV
  rw[h]
  cases l with
  |bc=>
   simp only
   cases Nat.ble n k with
   |true=>exact .val _ _ _ (KJ hst h (fun _ h=>h) (fun b hb=>Ly hst h hb))
   |false=>exact .own k _ e xs h
  |fix=>exact .own k _ e xs h
  |live=>exact .own k _ e xs h
 |_,_,_,.dD e v h=>by unfold gV;exact .dD e v h
 |_,_,_,.agg i fs cs h=>by
  have hs:=iB.yF ok hst n h
  unfold gV
  split
  ·rename_i r hr
   exact .val _ _ _ (.named i _ cs (by rw[ok.pC];exact toHLWith_ok (fun t d x cs=>Qw) hs hr))
  ·exact .agg i _ cs hs
theorem iB.yF (ok:dq E) (hst:br E σ st w) (n:Nat): ∀{ts:List Ty} {ds:List (az E.T)} {cs:List Value},iB E σ st w (MB σ st) ts ds cs→iB E σ st w (MB σ st) ts (sl E st n ds) cs
 |_,_,_,.nil=>by unfold sl;exact .nil
 |_,_,_,.cons t ts v r c1 c2 h h'=>by unfold sl;exact .cons t ts _ _ c1 c2 (VT.yF ok hst n h) (iB.yF ok hst n h')
end
theorem LM (n:Nat) {d:az E.T} (h:Ev E d=true):gV E st n d=d:=by
 cases d<;>first|(cases h;done)|(unfold gV;rfl)
theorem a8.yF (ok:dq E) (hst:br E σ st w) (n:Nat) {d:az E.T} {u:Value} (h:a8 E σ st w (MB σ st) d u):a8 E σ st w (MB σ st) (gV E st n d) u:=by
 cases h with
 |data t d cs h=>exact .data t _ cs (VT.yF ok hst n h)
 |undef=>unfold gV;exact .undef _
 |ptr o p b h hl=>unfold gV;exact .ptr o p b h hl
 |cQ=>unfold gV;exact .cQ
 |eg t x a cs h hm=>unfold gV;exact .eg t x a cs h hm
 |jo vs us h=>unfold gV;exact .jo vs us h
 |fn f vs us h=>unfold gV;exact .fn f vs us h
 |ei=>unfold gV;exact .ei
 |fD t d v h=>unfold gV;exact .fD t d v h
 |ct=>unfold gV;exact .ct
theorem aW.yF (ok:dq E) (hst:br E σ st w) (n:Nat): ∀{ds:List (az E.T)} {us:List Value},aW E σ st w (MB σ st) ds us→aW E σ st w (MB σ st) (sl E st n ds) us
 |_,_,.nil=>by unfold sl;exact .nil
 |_,_,.cons v r u us h h'=>by unfold sl;exact .cons _ _ u us (a8.yF ok hst n h) (aW.yF ok hst n h')
theorem LN (n:Nat) (ob:Obj E.T):dt (LO E st n ob)=dt ob:=by cases ob<;>rfl
theorem Iu (n:Nat) (ob:Obj E.T):dC (LO E st n ob)=dC ob:=by cases ob<;>rfl
theorem P4 (n:Nat) (ob:Obj E.T):mc (LO E st n ob)=mc ob:=by cases ob<;>rfl
theorem P2 (n:Nat) (ob:Obj E.T):qQ ob (LO E st n ob):=by cases ob<;>constructor
theorem cZ.yF (ok:dq E) (hst:br E σ st w) (n:Nat) {v:Value} {ob:Obj E.T} (h:cZ E σ st w (MB σ st) v ob):cZ E σ st w (MB σ st) v (LO E st n ob):=by
 cases h with
 |box ro d b c el fr hh hf hc=>
  refine .box ro _ b c el fr hh hf ?_
  rcases hc with⟨t,ht⟩|⟨hs,u,hu,ho,hv⟩
  ·exact .inl ⟨t,VT.yF ok hst n ht⟩
  ·rw[LM n hs]
   exact .inr ⟨hs,u,hu,ho,hv⟩
 |arr l e xs v h=>exact .arr l e xs v h
 |dead v=>exact .dead v
theorem QJ (n:Nat) (s:St E.T) (k:Nat):ij σ σ st (st.map (LO E s n)) k:=
 ⟨rfl,fun l e xs h=>⟨l,xs,by rw[dA,h];rfl⟩,fun h=>by simpa using h⟩
theorem Sj (n:Nat) {b:Nat} (h:MB σ (st.map (LO E st n)) b):MB σ st b:=by
 rcases h with h|⟨o,ob,ho,hm,hb⟩
 ·exact .inl h
 right
 rw[dA]at ho
 obtain⟨ob0,h0,rfl⟩:=Option.map_eq_some_iff.1 ho
 exact⟨o,ob0,h0,by rwa [LN]at hm,hb⟩
theorem Mv.yF (ok:dq E) (hst:br E σ st w) (n:Nat):Mv σ σ st (m7 E st n) w w:=by
 unfold m7
 refine Mv.mk' hst ⟨rfl,rfl,rfl,Nat.le_refl _,fun _ _ _=>rfl,fun b _ h=>Sj n h⟩ ⟨fun _ _ _ _=>rfl,fun p q hp=>⟨_,by rw[dA,hp];rfl,P2 n q,fun h=>by rw[P4];exact h⟩⟩ ⟨rfl,fun _ _=>rfl⟩ (fun _ _=>rfl) (fun p q b hp hd hb=> ?_) (fun p q hp=> ?_) ?_
 ·rw[dA]at hp
  obtain⟨q0,h0,rfl⟩:=Option.map_eq_some_iff.1 hp
  rw[Iu]at hd
  exact hst.out p q0 b h0 hd hb
 ·rw[dA]at hp
  obtain⟨q0,h0,rfl⟩:=Option.map_eq_some_iff.1 hp
  exact .inr (cZ.aM (Kept.weaken fun b h=>Sj n h) (fun _ _=>rfl) (fun k _=>QJ n st k) (cZ.yF ok hst n (hst.obj p q0 h0)))
 ·intro p q ob1 ob2 b hne hp hq hmu hd hb1 hb2
  rw[dA]at hp hq
  obtain⟨p0,h1,rfl⟩:=Option.map_eq_some_iff.1 hp
  obtain⟨q0,h2,rfl⟩:=Option.map_eq_some_iff.1 hq
  rw[LN]at hmu
  rw[Iu]at hd
  exact hst.apart p q p0 q0 b hne h1 h2 hmu hd hb1 hb2
theorem cj.yF (ok:dq E) (hst:br E σ st w) (n:Nat) (h:cj E σ st w fr a):cj E σ st w {s:=sl E st n fr.s,d:=fr.d} a:=⟨aW.yF ok hst n h.s,h.d⟩
theorem wX.yF (ok:dq E) (hst:br E σ st w) (n:Nat): ∀{ps:List (Nat×az E.T)} {us:List (Nat×Value)},wX E σ st w (MB σ st) ps us→wX E σ st w (MB σ st) (ps.map fun x=>(x.1,gV E st n x.2)) us
 |_,_,.nil=> .nil
 |_,_,.cons j x u ps us h h'=> .cons j _ u _ us (a8.yF ok hst n h) (wX.yF ok hst n h')
theorem DJ.later {K:Act→World→Prop} {Q:Exit→Act→World→Prop} {out:wR E} (m:Mf σ σ' st st' w w') (h:DJ E σ st w K Q a out):DJ E σ' st' w' K Q a out:=by
 cases out with
 |next fr' st2=>exact fun σ2 w2 a2 m2 hf=>h σ2 w2 a2 (m.trans m2) hf
 |panic v fr' st2=>exact fun σ2 w2 u m2 hf hv=>h σ2 w2 u (m.trans m2) hf hv
theorem PT {i j:Nat} {x v:az E.T} (h:mL E i j x=v) (hn:v≠ .undef): ∃gs,nR E x=some (i,gs)∧nth gs j .undef=v:=by
 cases x with
 |val t y=>
  cases t with
  |named i'=>
   simp only[mL]at h
   cases hb:Nat.beq i i' with
   |true=>
    rw[hb]at h
    have:=Nat.eq_of_beq_eq_true hb
    subst this
    exact⟨_,rfl,h⟩
   |false=>rw[hb]at h;exact absurd h.symm hn
  |_=>exact absurd h.symm hn
 |agg i' fs=>
  simp only[mL]at h
  cases hb:Nat.beq i i' with
  |true=>
   rw[hb]at h
   have:=Nat.eq_of_beq_eq_true hb
   subst this
   exact⟨_,rfl,h⟩
  |false=>rw[hb]at h;exact absurd h.symm hn
 |_=>exact absurd h.symm hn
theorem Nw (S:Sound P E) {t:TypeId} {x v:az E.T} {j:Nat} {u:Value} (h:(E0 E t x j).get=some v) (hx:a8 E σ st w M x u):
  ∃y,(Instr.field t u j).run P w= .ok y w∧a8 E σ st w M v y:=by
 unfold E0 at h
 split at h
 ·rename_i i ht
  obtain⟨hj,h⟩:=Tree.aO h
  rw[Nat.blt_eq]at hj
  obtain⟨fs,hu,hsz,hfs⟩:=(S.data t _ ht).desc
  obtain⟨f,hf⟩: ∃f,fs[j]? =some f:=⟨fs[j]'(by omega),Array.getElem?_eq_getElem _⟩
  obtain⟨ty,h1,h2,h3,h4,_⟩:=hfs j f hf
  have hv:mL E i j x=v∧v≠ .undef:=by
   split at h
   ·cases h
   ·rename_i hne
    cases h
    exact⟨rfl,fun h=>hne h⟩
  obtain⟨gs,he,hg⟩:=PT hv.1 hv.2
  cases hx with
  |data t0 d cs hvt=>
   obtain⟨rfl,hvs⟩:=AX hvt he
   have hgl:=iB.length hvs
   have hat:aR gs j=some v:=by rw[←hg];exact nH (by omega)
   obtain⟨t',c,l,r,g1,g2,rfl,g4,_⟩:=iB.at S.todq hvs j v hat
   rw[h1]at g1
   cases g1
   refine⟨toV ty c,?_,.data ty v c g2⟩
   have hoff:f.offset=l.length:=by rw[h3,g4];rfl
   have:=mU S h2 (xs:=(l++c++r).toArray) (l:=l) (c:=c) (r:=r) rfl (VT.len S.todq g2) w
   simp only[Instr.field,Sem.run_bind,bt hu,Result.andThen_ok,hf]
   rw[hoff]
   exact this
  |_=>cases he
 ·cases h
end
open Go
noncomputable section
section
variable {P:Program} {E:Env} {w w' w'':World} {σ σ' σ'':Sg} {st st' st'':St E.T} {M:Nat→Prop}
theorem Ja {fr:Fr E.T} {a:Act} (h:cj E σ st w fr a) (x:Option Operand):J5 E σ st w (MB σ st) (x.map (cd E fr)) (x.map a.eval):=by
 cases x with
 |none=>exact .none
 |some x=>exact .some _ _ (bY h x)
theorem Gv {mx:Bool}: ∀(r:List (az E.T)) {us:List Value} {x v:az E.T} {u:Value},(dfold E mx x r).get=some v→a8 E σ st w M x u→aW E σ st w M r us→
  ∃y,(us.foldlM (match mx with|true=>Builtin.max2|false=>Builtin.min2) u).run P w= .ok y w∧a8 E σ st w M v y
 |[],us,x,v,u,h,hx,hr=>by
  cases hr
  cases h
  exact⟨u,by simp,hx⟩
 |y::r,us,x,v,u,h,hx,hr=>by
  cases hr with
  |cons y r u' us hy hr=>
   simp only[dfold]at h
   obtain⟨z,hz,h2⟩:=Tree.aA h
   obtain⟨q,hq,hv⟩:=RG (P:=P) hz hx hy
   obtain⟨p,hp,hvp⟩:=Gv r h2 hv hr
   refine⟨p,?_,hvp⟩
   rw[List.foldlM_cons]
   cases mx<;>simp only[Sem.run_bind,hq,Result.andThen_ok,hp]<;>exact hp
variable {K:Act→World→Prop} {Q:Exit→Act→World→Prop} {a:Act} {fr:Fr E.T}
theorem b9 {dst:Option Tmp} {v:az E.T} {out:wR E} (h:(dU E fr dst st v).get=some out):out= .next (put E fr dst v) st:=by
 cases h;rfl
theorem lW {α β:Type} (f:α→β) (xs:Array α):xs.map f=(xs.toList.map f).toArray:=by apply Array.ext';simp
theorem SE {t xt:TypeId} {u:Value} {d:TypeDesc} (hu:P.underlying t=some d) (hnd: ∀m,d≠ .interface m):(Instr.typeAssert (.iface t u) xt t true).run P w= .ok (.tuple #[u,.bool true]) w:=by
 unfold Instr.typeAssert
 simp only[Sem.run_bind,bt hu,Result.andThen_ok]
 cases d<;>first|exact absurd rfl (hnd _)|simp
theorem QK {t t' xt:TypeId} {u z:Value} {d:TypeDesc} (hu:P.underlying t=some d) (hnd: ∀m,d≠ .interface m) (hne: ¬t'=t) (hz:(zeroValue t).run P w= .ok z w):
  (Instr.typeAssert (.iface t' u) xt t true).run P w= .ok (.tuple #[z,.bool false]) w:=by
 unfold Instr.typeAssert
 simp only[Sem.run_bind,bt hu,Result.andThen_ok]
 cases d<;>first|exact absurd rfl (hnd _)|simp[hne,hz]
theorem SC {t xt:TypeId} {z:Value} {d:TypeDesc} (hu:P.underlying t=some d) (hnd: ∀m,d≠ .interface m) (hz:(zeroValue t).run P w= .ok z w):
  (Instr.typeAssert .nilIface xt t true).run P w= .ok (.tuple #[z,.bool false]) w:=by
 unfold Instr.typeAssert
 simp only[Sem.run_bind,bt hu,Result.andThen_ok]
 cases d<;>first|exact absurd rfl (hnd _)|simp[hz]
def mN (P:Program) (E:Env) (S:FuncId→Option (Spec E)):Prop:=
 ∀{σ:Sg} {st:St E.T} {w:World} {fr:Fr E.T} {a:Act} {K:Act→World→Prop} {Q:Exit→Act→World→Prop} {o:Oper} {f:Operand} {args:Array Operand} {ats:Array TypeId} {fx:List Nat} {e:sB E.T},
  br E σ st w→cj E σ st w fr a→o.op= .call {callee:= .value f,args:=args,argTypes:=ats}→
  (Bb E S st fx (cd E fr f) (args.toList.map (cd E fr))).get=some e→DJ E σ st w K Q a (cM E fr st o.dst e)→o.wp P a w K Q
theorem Dt (HS:Sound P E) {S:FuncId→Option (Spec E)} (HC:mN P E S) {dr:Bool} {o:Oper} {out:wR E} (hst:br E σ st w) (hfr:cj E σ st w fr a) (h:(pR E S dr fr st o).get=some out) (hp:DJ E σ st w K Q a out):o.wp P a w K Q:=by
 obtain⟨dst,op,type,pos,aft,guard⟩:=o
 cases op with
 |move x=>
  have:=b9 h;subst this
  exact j7 (y:=a.eval x) rfl (hp σ w _ (Mf.refl hst) (fm hfr dst (bY hfr x)))
 |assign x=>
  have:=b9 h;subst this
  exact j7 (y:=a.eval x) rfl (hp σ w _ (Mf.refl hst) (fm hfr dst (bY hfr x)))
 |pick c x y=>
  simp only[pR]at h
  have hc:=bY hfr c
  split at h
  ·rename_i b hb
   rw[hb]at hc
   have hcb:=zn hc
   simp only[Tree.get]at h
   cases b with
   |true=>
    have:=b9 h;subst this
    exact j7 (y:=a.eval x) (by simp[execOp,hcb,asBool]) (hp σ w _ (Mf.refl hst) (fm hfr dst (bY hfr x)))
   |false=>
    have:=b9 h;subst this
    exact j7 (y:=a.eval y) (by simp[execOp,hcb,asBool]) (hp σ w _ (Mf.refl hst) (fm hfr dst (bY hfr y)))
  ·cases h
 |alloc t=>
  simp only[pR]at h
  have ht:E.tk t≠ .other:=by
   intro hk;rw[hk]at h;cases h
  have h':out= .next (put E fr dst (.ptr st.length [])) (st++[.box false (zeroV E t)]):=by
   cases hk:E.tk t<;>rw[hk]at h<;>first|exact absurd hk ht|(cases h;rfl)
  subst h'
  obtain⟨u,hu,hv,hf⟩:=Kb HS hst ht
  obtain⟨m,hvp⟩:=ES HS hst hf hv
  refine j7 (y:= .pointer (some ⟨w.heap.size,0,none⟩)) (w':=w.alloc (.cells u.cells t)) ?_ (hp _ _ _ m.f (fm (hfr.mv m) dst hvp))
  simp[execOp,Instr.alloc,hu,vi]
 |box t x=>
  simp only[pR]at h
  obtain⟨hf,h⟩:=Tree.aO h
  cases h
  obtain⟨m,hvp⟩:=ES HS hst hf (bY hfr x)
  refine j7 (y:= .pointer (some ⟨w.heap.size,0,none⟩)) (w':=w.alloc (.cells (a.eval x).cells t)) ?_ (hp _ _ _ m.f (fm (hfr.mv m) dst hvp))
  simp[execOp,Instr.box,vi]
 |build t ps=>
  simp only[pR]at h
  obtain⟨v,hv,h⟩:=Tree.aA h
  have:=b9 h;subst this
  exact eo hst hfr (PY HS hst (oZ hfr ps.toList) hv) (by rw[←lW];rfl) hp
 |buildSlice t n ps=>
  simp only[pR]at h
  split at h
  ·obtain⟨v,hv,h⟩:=Tree.aA h
   have:=b9 h;subst this
   exact nG hfr (nS HS hst (oZ hfr ps.toList) hv) (by rw[←lW];rfl) hp
  ·obtain⟨v,hv,h⟩:=Tree.aA h
   have:=b9 h;subst this
   exact nG hfr (nS HS hst (oZ hfr ps.toList) hv) (by rw[←lW];rfl) hp
  ·obtain⟨v,hv,h⟩:=Tree.aA h
   have:=b9 h;subst this
   obtain⟨mf,_⟩:=fS (live E st (bh (ps.toList.map fun x=>cd E fr x.2))) hst
   have hfr1:=hfr.mv mf
   have hps:=wX.yF HS.todq mf.rep 0 (oZ hfr1 ps.toList)
   exact nG hfr1 (nS HS mf.rep hps hv) (by rw[←lW];rfl) (DJ.later mf.f hp)
 |field t x j=>
  simp only[pR]at h
  obtain⟨v,hv,h⟩:=Tree.aA h
  have:=b9 h;subst this
  exact eo hst hfr (Nw HS hv (bY hfr x)) rfl hp
 |load t x=>
  simp only[pR]at h
  obtain⟨v,hv,h⟩:=Tree.aA h
  have:=b9 h;subst this
  exact eo hst hfr (LC HS hst hv (bY hfr x)) rfl hp
 |store t x y=>
  simp only[pR]at h
  split at h
  ·obtain⟨st',hv,h⟩:=Tree.aA h
   cases h
   obtain⟨w',hr,m⟩:=Dr HS hst hv (bY hfr x) (bY hfr y)
   exact IG (w':=w') (by simp[execOp,hr]) (hp _ _ _ m.f (fm (hfr.mv m) dst (.undef _)))
  ·obtain⟨st',hv,h⟩:=Tree.aA h
   cases h
   obtain⟨w',hr,m⟩:=Dr HS hst hv (bY hfr x) (bY hfr y)
   exact IG (w':=w') (by simp[execOp,hr]) (hp _ _ _ m.f (fm (hfr.mv m) dst (.undef _)))
  ·obtain⟨st',hv,h⟩:=Tree.aA h
   cases h
   obtain⟨mf,_⟩:=fS (live E st (rowsOf E (cd E fr x) (cd E fr y))) hst
   have hfr1:=hfr.mv mf
   obtain⟨w',hr,m⟩:=Dr HS mf.rep hv (bY hfr1 x) (a8.yF HS.todq mf.rep 0 (bY hfr1 y))
   exact IG (w':=w') (by simp[execOp,hr]) (hp _ _ _ (mf.f.trans m.f) (fm (hfr1.mv m) dst (.undef _)))
 |nilCheck x=>
  simp only[pR]at h
  have hx:=bY hfr x
  split at h
  ·rename_i p q hq
   have:=b9 h;subst this
   refine j7 (y:=a.eval x) (w':=w) ?_ (hp σ w _ (Mf.refl hst) (fm hfr dst (by rw[←hq];exact bY hfr x)))
   rw[hq]at hx
   generalize hu:a.eval x=u at hx
   cases hx with
   |data t d cs hv=>cases hv
   |ptr p q b hb hl=>simp[execOp,hu]
  ·rename_i t y hq
   have:=b9 h;subst this
   refine j7 (y:=a.eval x) (w':=w) ?_ (hp σ w _ (Mf.refl hst) (fm hfr dst (by rw[←hq];exact bY hfr x)))
   rw[hq]at hx
   generalize hu:a.eval x=u at hx
   cases hx with
   |data t d cs hv=>cases hv
   |eg t y b cs hc hm=>simp[execOp,hu]
  ·rename_i f c hq
   have:=b9 h;subst this
   refine j7 (y:=a.eval x) (w':=w) ?_ (hp σ w _ (Mf.refl hst) (fm hfr dst (by rw[←hq];exact bY hfr x)))
   rw[hq]at hx
   generalize hu:a.eval x=u at hx
   cases hx with
   |data t d cs hv=>cases hv
   |fn f vs us hr=>simp[execOp,hu]
  ·cases h
 |binOp op t x y sA=>
  simp only[pR]at h
  split at h
  ·rename_i b hb
   obtain⟨hi,h⟩:=Tree.aO h
   have:=b9 h;subst this
   exact eo hst hfr ⟨_,Td HS hi hb (bY hfr x) (bY hfr y),gy b⟩ rfl hp
  ·obtain⟨v,hv,h⟩:=Tree.aA h
   have:=b9 h;subst this
   exact eo hst hfr (Tk HS hst x y hv (bY hfr x) (bY hfr y)) rfl hp
 |unOp op t x=>
  simp only[pR]at h
  obtain⟨v,hv,h⟩:=Tree.aA h
  have:=b9 h;subst this
  exact eo hst hfr (Vh hv (bY hfr x)) rfl hp
 |convert src dst' x=>
  simp only[pR]at h
  obtain⟨p,hv,h⟩:=Tree.aA h
  have:=b9 h;subst this
  exact nG hfr (LI HS hst hv (bY hfr x)) rfl hp
 |makeInterface t x=>
  simp only[pR]at h
  split at h
  ·rename_i ty hk
   obtain⟨y,hy,h⟩:=Tree.aA h
   rw[Tree.dE]at hy
   obtain⟨hf,h⟩:=Tree.aO h
   have:=b9 h;subst this
   obtain⟨cs,hvt,he⟩:=nu (toData_mono st depth hy) (bY hfr x)
   have hc:=toData_nil HS.todq depth hy hvt
   refine eo hst hfr (v:= .fD t (.val ty y)) (s:=Instr.makeInterface t (a.eval x)) ⟨.iface t (a.eval x),?_,.fD _ _ _ (by rw[he];exact .data ty _ cs (.val ty y cs hc))⟩ rfl hp
   have hd:=(HS.data t ty hk).desc
   unfold Instr.makeInterface
   cases ty with
   |bool=>simp[bt hd]
   |int k=>simp[bt hd]
   |str=>simp[bt hd]
   |slice e=>obtain⟨te,hu,_⟩:=hd;simp[bt hu]
   |arr n e=>obtain⟨te,hu,_⟩:=hd;simp[bt hu]
   |named i=>obtain⟨fs,hu,_⟩:=hd;simp[bt hu]
  ·cases h
 |makeFunc f first captured=>
  cases f with
  |func f=>
   simp only[pR]at h
   obtain⟨hf,h⟩:=Tree.aO h
   have:=b9 h;subst this
   have hfe:first= #[]:=by
    rw[List.isEmpty_iff]at hf
    exact Array.toList_eq_nil_iff.1 hf
   subst hfe
   refine j7 (y:= .func (.func f) #[] (captured.map a.eval)) (w':=w) (by simp[execOp,Instr.makeFunc]) (hp σ w _ (Mf.refl hst) (fm hfr dst ?_))
   have:=a8.fn (E:=E) (σ:=σ) (st:=st) (w:=w) (M:=MB σ st) f _ _ (yx hfr captured.toList)
   rw[lW];exact this
  |_=>cases h
 |makeSlice t l c=>
  simp only[pR]at h
  obtain⟨p,hv,h⟩:=Tree.aA h
  have:=b9 h;subst this
  exact nG hfr (zU HS hst (bY hfr l) (bY hfr c) hv) rfl hp
 |slice t x lo hi mx=>
  simp only[pR]at h
  obtain⟨p,hv,h⟩:=Tree.aA h
  have:=b9 h;subst this
  exact nG hfr (PM HS hst (bY hfr x) (Ja hfr lo) (Ja hfr hi) (Ja hfr mx) hv) rfl hp
 |fieldAddr t x j=>
  simp only[pR]at h
  obtain⟨v,hv,h⟩:=Tree.aA h
  have:=b9 h;subst this
  exact eo hst hfr (Hn HS hv (bY hfr x)) rfl hp
 |indexAddr t x i=>
  simp only[pR]at h
  obtain⟨v,hv,h⟩:=Tree.aA h
  have:=b9 h;subst this
  exact eo hst hfr (Hm HS hst hv (bY hfr x) (bY hfr i)) rfl hp
 |index t x i=>
  simp only[pR]at h
  obtain⟨v,hv,h⟩:=Tree.aA h
  have:=b9 h;subst this
  exact eo hst hfr (PQ HS hv (bY hfr x) (bY hfr i)) rfl hp
 |typeAssert x xt t ok=>
  cases ok with
  |false=>cases h
  |true=>
   simp only[pR]at h
   split at h
   ·rename_i ty hk
    have hx:=bY hfr x
    have hzv:=nb (σ:=σ) (st:=st) (w:=w) (M:=MB σ st) HS.todq depth ty (HS.data t ty hk).deep
    have hzr:=uq HS hk w
    have hund: ∃d,P.underlying t=some d∧ ∀m,d≠ .interface m:=by
     have hd:=(HS.data t ty hk).desc
     cases ty with
     |bool=>exact⟨_,hd,fun _ h=>by cases h⟩
     |int k=>exact⟨_,hd,fun _ h=>by cases h⟩
     |str=>exact⟨_,hd,fun _ h=>by cases h⟩
     |slice e=>obtain⟨te,hu,_⟩:=hd;exact⟨_,hu,fun _ h=>by cases h⟩
     |arr n e=>obtain⟨te,hu,_⟩:=hd;exact⟨_,hu,fun _ h=>by cases h⟩
     |named i=>obtain⟨fs,hu,_⟩:=hd;exact⟨_,hu,fun _ h=>by cases h⟩
    obtain⟨d,hu,hnd⟩:=hund
    have hfail:a8 E σ st w (MB σ st) (.jo [iP E depth ty,.val .bool false]) (.tuple #[toV ty (dY E depth ty),.bool false]):=
     .jo _ [_,_] (.cons _ _ _ _ (.data ty _ _ hzv) (.cons _ _ _ _ (gy false) .nil))
    split at h
    ·rename_i t' v hq
     rw[hq]at hx
     generalize hxu:a.eval x=ux at hx
     cases hx with
     |data t d cs hv=>cases hv
     |fD t' v u hv=>
      cases hb:Nat.beq t' t with
      |true=>
       rw[hb]at h
       have:=b9 h;subst this
       have htt:=Nat.eq_of_beq_eq_true hb;subst htt
       refine eo hst hfr (s:=Instr.typeAssert (a.eval x) xt t' true) ⟨.tuple #[u,.bool true],?_,.jo _ [_,_] (.cons _ _ _ _ hv (.cons _ _ _ _ (gy true) .nil))⟩ rfl hp
       rw[hxu];exact SE hu hnd
      |false=>
       rw[hb]at h
       have:=b9 h;subst this
       refine eo hst hfr (s:=Instr.typeAssert (a.eval x) xt t true) ⟨_,?_,hfail⟩ rfl hp
       have hne: ¬t'=t:=fun h=>by rw[h,Nat.beq_refl]at hb;cases hb
       rw[hxu];exact QK hu hnd hne hzr
    ·rename_i hq
     have:=b9 h;subst this
     refine eo hst hfr (s:=Instr.typeAssert (a.eval x) xt t true) ⟨_,?_,hfail⟩ rfl hp
     rw[hq]at hx
     generalize hxu:a.eval x=ux at hx
     cases hx with
     |data t d cs hv=>cases hv
     |ct=>
      exact SC hu hnd hzr
    ·cases h
   ·cases h
 |extract t i=>
  simp only[pR]at h
  have hx:=bY hfr t
  split at h
  ·rename_i vs hq
   split at h
   ·rename_i v hn
    have:=b9 h;subst this
    rw[hq]at hx
    generalize hu:a.eval t=u at hx
    cases hx with
    |data t d cs hv=>cases hv
    |jo vs us hr=>
     obtain⟨y,hy,hv⟩:=aW.get hr hn
     refine eo hst hfr (s:=Instr.extract (a.eval t) i) ⟨y,?_,hv⟩ rfl hp
     rw[hu]
     simp[Instr.extract,hy]
   ·cases h
  ·cases h
 |panic x=>
  simp only[pR]at h
  have hx:=bY hfr x
  split at h
  ·rename_i t v hq
   cases h
   rw[←hq]at hp
   have:=hp σ w (a.eval x) (Mf.refl hst) hfr hx
   rw[hq]at hx
   generalize hu:a.eval x=u at*
   cases hx with
   |data t d cs hv=>cases hv
   |fD t v u hv=>
    unfold Oper.wp
    simp only[execOp,hu]
    simpa [Instr.panic,goPanic,Sem.run_bind,Oper.upon]using this
  ·cases h
 |defer c=>
  obtain⟨callee,args,ats⟩:=c
  cases callee with
  |value f=>
   simp only[pR]at h
   have hf:=bY hfr f
   split at h
   ·rename_i g cap hq hd
    cases h
    rw[hq]at hf
    generalize hu:a.eval f=u at hf
    cases hf with
    |data t d cs hv=>cases hv
    |fn g cap us hr=>
     unfold Oper.wp
     simp only[execOp,resolve,hu,Deferred.ofValue]
     have hdd:a.defers=[]:=by
      have:=hfr.d
      rw[hd]at this
      generalize a.defers=dd at this
      cases this;rfl
     simp only[Sem.run_bind,Sem.run_pure,Result.andThen_ok,Oper.upon]
     have hfr2:cj E σ st w {fr with d:=[(g,args.toList.map (cd E fr)++cap)]} {a with defers:={target:= .fn (.func g) us.toArray,args:= #[]++args.map a.eval} ::a.defers}:=by
      refine⟨hfr.s,?_⟩
      rw[hdd]
      refine .cons g _ _ _ [] [] ?_ .nil
      have:=aW.append (yx hfr args.toList) hr
      rw[lW]
      simpa using this
     exact hp σ w _ (Mf.refl hst) (fm hfr2 dst (.undef _))
   ·cases h
  |_=>cases h
 |call c=>
  obtain⟨callee,args,ats⟩:=c
  cases callee with
  |value f=>
   simp only[pR]at h
   obtain⟨e,he,h⟩:=Tree.aA h
   cases h
   exact HC hst hfr rfl he hp
  |builtin b=>
   simp only[pR]at h
   unfold Cq at h
   have hargs:=yx hfr args.toList
   have hbi:(execOp a.eval {dst:=dst,op:= .call {callee:= .builtin b,args:=args,argTypes:=ats},type:=type,pos:=pos,after:=aft,guard:=guard}:Sem Next)=
     (do let d←(pure {target:= .builtin b ats type (args.map fun| .const _=>true|_=>false),args:=(args.toList.map a.eval).toArray}:Sem Deferred);invoke d.target d.args):=by
    rw[←lW];rfl
   generalize args.toList.map a.eval=us at hargs hbi
   split at h
   ·rename_i x t ts hx hts
    rw[hx]at hargs
    obtain⟨v,hv,h⟩:=Tree.aA h
    have:=b9 h;subst this
    cases hargs with
    |cons x r u us hu hn=>
     cases hn
     obtain⟨y,hy,hvy⟩:=Tg (ty:=type) HS hst (ts:=ats) (by rw[←Array.getElem?_toList,hts];rfl) hv hu
     refine j7 (y:=y) (w':=w) ?_ (hp σ w _ (Mf.refl hst) (fm hfr dst hvy))
     rw[hbi]
     simp[invoke,builtin,hy]
   ·rename_i x r hx
    rw[hx]at hargs
    obtain⟨v,hv,h⟩:=Tree.aA h
    have:=b9 h;subst this
    cases hargs with
    |cons x r' u us hu hn=>
     obtain⟨y,hy,hvy⟩:=Gv (P:=P) (mx:=false) r hv hu hn
     refine j7 (y:=y) (w':=w) ?_ (hp σ w _ (Mf.refl hst) (fm hfr dst hvy))
     rw[hbi]
     simp only at hy
     simp[invoke,builtin,Builtin.min_,hy]
   ·rename_i x r hx
    rw[hx]at hargs
    obtain⟨v,hv,h⟩:=Tree.aA h
    have:=b9 h;subst this
    cases hargs with
    |cons x r' u us hu hn=>
     obtain⟨y,hy,hvy⟩:=Gv (P:=P) (mx:=true) r hv hu hn
     refine j7 (y:=y) (w':=w) ?_ (hp σ w _ (Mf.refl hst) (fm hfr dst hvy))
     rw[hbi]
     simp only at hy
     simp[invoke,builtin,Builtin.max_,hy]
   ·rename_i s x t tx hx hts
    rw[hx]at hargs
    have hats:ats= #[t,tx]:=by apply Array.ext';simpa using hts
    subst hats
    obtain⟨p,hv,h⟩:=Tree.aA h
    cases hargs with
    |cons s r us u' hs hn=>
     cases hn with
     |cons x r u u' hxr hn=>
      cases hn
      cases s with
      |bm=>
       cases h
       obtain⟨y,w',σ',hr,m,hvy⟩:=JO (ty:=type) HS hst hs hxr hv
       refine j7 (y:=y) (w':=w') ?_ (hp σ' w' _ m.f (fm (hfr.mv m) dst hvy))
       rw[hbi]
       simp[invoke,builtin,hr]
      |own o=>
       cases h
       obtain⟨y,w',hr,m,hvy⟩:=LP (ty:=type) HS hst hs hxr hv
       refine j7 (y:=y) (w':=w') ?_ (hp _ w' _ m.f (fm (hfr.mvx hst m) dst hvy))
       rw[hbi]
       simp[invoke,builtin,hr]
      |_=>cases hv
   ·cases h
  |_=>cases h
 |_=>cases h
end
end
open Go
noncomputable section
section
variable {P:Program} {E:Env} {w w' w'':World} {σ σ' σ'':Sg} {st st' st'':St E.T} {M:Nat→Prop}
theorem Mv.still (hst:br E σ st w) (h1:w'.os=w.os) (h2:w'.tape=w.tape) (h3:w'.output=w.output) (h4:w.heap.size≤w'.heap.size) (h5: ∀b,b<w.heap.size→w'.heap[b]? =w.heap[b]?):Mv σ σ st st w w':=
 Mv.mk' hst ⟨h1,h2,h3,h4,fun b hb _=>h5 b hb,fun _ _ h=>h⟩ (yU.refl _ _) ⟨rfl,fun b h=>h5 b (hst.qC b h)⟩ (fun _ _=>rfl) hst.out (fun p q hp=> .inl ⟨hp,fun g hg hd=>h5 g (lO hst hp hd hg)⟩) hst.apart
theorem Gz (ok:dq E) (hst:br E σ st w) (hM: ∀b,M b→MB σ st b) (σ':Sg) (st':St E.T): ∀(ps:List Ty) {vs ds:List (az E.T)} {us:List Value},zW E st ps vs=some ds→aW E σ st w (MB σ st) vs us→
  (∀k∈bh vs,∀l e xs b,aR st k=some (.arr l e xs)→k9 (σ k)=some b→ ¬M b)→aW E σ' st' w M ds us
 |[],[],ds,us,h,hv,_=>by cases h;cases hv;exact .nil
 |t::ts,v::vs,ds,us,h,hv,hr=>by
  cases hv with
  |cons v vs u us hv hvs=>
   simp only[zW]at h
   split at h
   ·rename_i x hx
    split at h
    ·rename_i r hr'
     cases h
     obtain⟨cs,hvt,rfl⟩:=nu hx hv
     have hc:=toData_ok ok hst hM depth (fun k hk=>hr k (by simp[bh,hk])) hx hvt
     exact .cons _ _ _ _ (.data t _ cs (.val t x cs hc)) (Gz ok hst hM σ' st' ts hr' hvs (fun k hk=>hr k (by simp[bh,hk])))
    ·cases h
   ·cases h
 |[],_::_,ds,us,h,_,_=>by simp[zW]at h
 |_::_,[],ds,us,h,_,_=>by simp[zW]at h
theorem uL (ok:dq E) (hst:br E σ st w) (hM: ∀b,M b→MB σ st b): ∀(ps:List TK) {vs ds:List (az E.T)} {us:List Value},lN E st ps vs=some ds→aW E σ st w (MB σ st) vs us→
  (∀k∈cI E st ps vs,∀l e xs b,aR st k=some (.arr l e xs)→k9 (σ k)=some b→ ¬M b)→aW E σ st w M ds us
 |[],[],ds,us,h,hv,_=>by cases h;cases hv;exact .nil
 |tk::ts,v::vs,ds,us,h,hv,hr=>by
  cases hv with
  |cons v vs u us hv hvs=>
   cases tk with
   |data t=>
    simp only[lN]at h
    split at h
    ·rename_i x hx
     split at h
     ·rename_i r hr'
      cases h
      obtain⟨cs,hvt,rfl⟩:=nu hx hv
      have hc:=toData_ok ok hst hM depth (fun k hk=>hr k (by simp[cI,hk])) hx hvt
      exact .cons _ _ _ _ (.data t _ cs (.val t x cs hc)) (uL ok hst hM ts hr' hvs (fun k hk=>hr k (by simp[cI,hk])))
     ·cases h
    ·cases h
   |other=>cases h
   |_=>
    simp only[lN]at h
    split at h
    ·split at h
     ·rename_i r hr'
      cases h
      exact .cons _ _ _ _ (a8.aM (Kept.weaken hM) hv (fun k _=>ij.refl k)) (uL ok hst hM ts hr' hvs (fun k hk=>hr k (by simpa [cI]using hk)))
     ·cases h
    ·cases h
 |[],_::_,ds,us,h,_,_=>by simp[lN]at h
 |tk::_,[],ds,us,h,_,_=>by cases tk<;>simp[lN]at h
mutual
theorem cF.flat {w':World} {M M':Nat→Prop}: ∀{t:Ty} {x:I E.T t} {cs:List Value},cF E w M t x cs→ ∀(n:Nat),tT E n t=true→cF E w' M' t x cs
 |_,_,_,.bool b,_,_=> .bool b
 |_,_,_,.int k x,_,_=> .int k x
 |_,_,_,.str s h,_,_=> .str s h
 |_,_,_,.named i x cs hf,0,h=>by cases h
 |_,_,_,.named i x cs hf,n+1,h=> .named i x cs (l7.flat hf n (by simpa [tT]using h))
 |_,_,_,.slice e xs a cap cs hl hm hn hc,0,h=>by cases h
 |_,_,_,.slice e xs a cap cs hl hm hn hc,n+1,h=>by cases h
 |_,_,_,.arr m e xs cs hn hl,0,h=>by cases h
 |_,_,_,.arr m e xs cs hn hl,n+1,h=> .arr m e xs cs hn (bE.flat hl n (by simpa [tT]using h))
theorem l7.flat {w':World} {M M':Nat→Prop}: ∀{ts:List Ty} {r:HL E.T ts} {cs:List Value},l7 E w M ts r cs→ ∀(n:Nat),(∀t∈ts,tT E n t=true)→l7 E w' M' ts r cs
 |_,_,_,.nil,_,_=> .nil
 |_,_,_,.cons t ts x r c1 c2 h1 h2,n,h=> .cons t ts x r c1 c2 (cF.flat h1 n (h t (by simp))) (l7.flat h2 n (fun t ht=>h t (by simp[ht])))
theorem bE.flat {w':World} {M M':Nat→Prop}: ∀{e:Ty} {xs:List (I E.T e)} {cs:List Value},bE E w M e xs cs→ ∀(n:Nat),tT E n e=true→bE E w' M' e xs cs
 |_,_,_,.nil e,_,_=> .nil e
 |_,_,_,.cons e x r c1 c2 h1 h2,n,h=> .cons e x r c1 c2 (cF.flat h1 n h) (bE.flat h2 n h)
end
theorem a8.flat {M':Nat→Prop} {d:az E.T} {u:Value} (hf:Ox E d=true) (h:a8 E σ st w M d u):a8 E σ' st' w' M' d u:=by
 cases h with
 |data t d cs h=>
  cases h with
  |val t x cs h=>exact .data t _ cs (.val t x cs (cF.flat h depth hf))
  |_=>cases hf
 |_=>cases hf
theorem aW.flat {M':Nat→Prop}: ∀{ds:List (az E.T)} {us:List Value},aW E σ st w M ds us→ds.all (Ox E)=true→aW E σ' st' w' M' ds us
 |_,_,.nil,_=> .nil
 |_,_,.cons v r u us h h',hf=>by
  simp only[List.all_cons,Bool.and_eq_true]at hf
  exact .cons _ _ _ _ (a8.flat hf.1 h) (aW.flat h' hf.2)
def qp (E:Env) (σ:Sg) (st:St E.T) (w:World):iT E.T→Ending→Prop
 | .ret vs,.returned v=>a8 E σ st w (MB σ st) (CU E vs) v
 | .panic v,.panicked chain=> ∃u,chain=[{v:=u,recovered:=false}]∧a8 E σ st w (MB σ st) v u
 |_,_=>False
theorem qp.map {r:iT E.T} {e:Ending} (h:qp E σ st w r e) (hv: ∀d u,a8 E σ st w (MB σ st) d u→a8 E σ' st' w' (MB σ' st') d u):qp E σ' st' w' r e:=by
 cases r<;>cases e<;>first|exact h.elim|skip
 ·exact hv _ _ h
 ·obtain⟨u,h1,h2⟩:=h;exact⟨u,h1,hv _ _ h2⟩
theorem qp.flat {r:iT E.T} {e:Ending} (hf:vX E r=true) (h:qp E σ st w r e):qp E σ' st' w' r e:=by
 cases r<;>cases e<;>first|exact h.elim|skip
 ·rename_i vs u
  simp only[qp,vX]at h hf⊢
  unfold CU at h⊢
  split
  ·rename_i v
   simp only[List.all_cons,List.all_nil,Bool.and_true]at hf
   exact a8.flat hf h
  ·rename_i hne
   split at h
   ·rename_i v;exact absurd rfl (hne v)
   ·cases h with
    |data t d cs h=>cases h
    |jo vs us h=>exact .jo vs us (aW.flat h hf)
 ·obtain⟨u,h1,h2⟩:=h
  refine⟨u,h1,?_⟩
  rename_i v chain
  cases h2 with
  |fD t d u h=>exact .fD t d u (a8.flat hf h)
  |data t d cs h=>cases h<;>cases hf
  |_=>cases hf
def Enters (P:Program) (f:FuncId):Prop:= ∀(us:Array Value) (w:World),(callFunc f us).run P w= .ok (.enter f us) w
def Hs (E:Env) (σ:Sg) (st st':St E.T) (w:World) (r:iT E.T) (e:Ending) (w':World):Prop:= ∃σ',Mf σ σ' st st' w w'∧qp E σ' st' w' r e
def ub (P:Program) (E:Env) (f:FuncId) (F:List (az E.T)→St E.T→Tree (iT E.T×St E.T)):Prop:=
 ∀{σ:Sg} {st:St E.T} {w:World} {ds:List (az E.T)} {us:List Value} {r:iT E.T} {st':St E.T},br E σ st w→aW E σ st w (MB σ st) ds us→(F ds st).get=some (r,st')→Calls P f us.toArray w (Hs E σ st st' w r)
def J4 (P:Program) (E:Env) (f:FuncId) (F:List (az E.T)→Tree (iT E.T)):Prop:=
 ∀{σ:Sg} {w:World} {ds:List (az E.T)} {us:List Value} {r:iT E.T},br E σ [] w→aW E σ [] w (MB σ ([]:St E.T)) ds us→(F ds).get=some r→Calls P f us.toArray w (Hs E σ [] [] w r)
def oc (P:Program) (E:Env) (f:FuncId):Spec E→Prop
 | .pure _ F=>Enters P f∧J4 P E f F
 | .full _ _ F=>Enters P f∧ub P E f F
variable {K:Act→World→Prop} {Q:Exit→Act→World→Prop} {a:Act} {fr fr1:Fr E.T}
def Bk (E:Env) (σ:Sg) (st:St E.T) (w:World):ud E.T→Ending→Prop
 | .val v,.returned u=>a8 E σ st w (MB σ st) v u
 | .panic v,.panicked chain=> ∃u,chain=[{v:=u,recovered:=false}]∧a8 E σ st w (MB σ st) v u
 |_,_=>False
theorem R9 {dst:Option Tmp} {r:ud E.T} {en:Ending} {e:sB E.T} (he:e.res=r) (hm:Mf σ σ' st (dM E st e) w w') (hfr:cj E σ' (dM E st e) w' (dB E st e.ks fr) a)
  (hr:Bk E σ' (dM E st e) w' r en) (hp:DJ E σ st w K Q a (cM E fr st dst e)):
  match en with
  | .returned v=>K (a.put dst v) w'
  | .panicked chain=>Q (.panic chain) a w'
  | .outgrown=>LetsOut Q:=by
 unfold cM at hp
 rw[he]at hp
 cases r<;>cases en<;>first|exact hr.elim|skip
 ·exact hp σ' w' _ hm (fm hfr dst hr)
 ·obtain⟨u,rfl,hv⟩:=hr
  exact hp σ' w' u hm hfr hv
theorem vl {r:iT E.T} {en:Ending} (h:qp E σ st w r en):Bk E σ st w (we E r) en:=by
 cases r<;>cases en<;>first|exact h.elim|exact h
end
end
open Go
noncomputable section
section
variable {P:Program} {E:Env} {w w' w'':World} {σ σ' σ'':Sg} {st st' st'':St E.T} {M:Nat→Prop}
theorem kV: ∀(ks:List Nat) {st:St E.T} (o:Nat),(∀k∈ks,k<st.length)→aR (zx E ks st) o=if o∈ks then some .dead else aR st o
 |[],st,o,_=>by simp[zx]
 |k::r,st,o,h=>by
  rw[zx,kV r o (fun j hj=>by rw[dL];exact h j (by simp[hj]))]
  by_cases hr:o∈r
  ·rw[if_pos hr,if_pos (by simp[hr])]
  ·rw[if_neg hr,bF]
   by_cases hk:k=o
   ·subst hk
    rw[if_pos ⟨rfl,h k (by simp)⟩,if_pos (by simp)]
   ·rw[if_neg (fun h=>hk h.1),if_neg (by simp[hr];exact fun h=>hk h.symm)]
theorem x6: ∀(ks:List Nat) {st:St E.T},(zx E ks st).length=st.length
 |[],st=>rfl
 |k::r,st=>by rw[zx,x6 r,dL]
theorem DX (old:St E.T): ∀(ks:List Nat) {st:St E.T} (o:Nat),(∀k∈ks,k<st.length∧k<old.length)→aR (iV E old ks st) o=if o∈ks then aR old o else aR st o
 |[],st,o,_=>by simp[iV]
 |k::r,st,o,h=>by
  obtain⟨h1,h2⟩:=h k (by simp)
  have hk:aR old k=some (old[k]):=by rw[cX];exact List.getElem?_eq_getElem h2
  rw[iV,hk]
  rw[DX old r o (fun j hj=>by rw[dL];exact h j (by simp[hj]))]
  by_cases hr:o∈r
  ·rw[if_pos hr,if_pos (by simp[hr])]
  ·rw[if_neg hr,bF]
   by_cases hko:k=o
   ·subst hko
    rw[if_pos ⟨rfl,h1⟩,if_pos (by simp),hk]
   ·rw[if_neg (fun h=>hko h.1),if_neg (by simp[hr];exact fun h=>hko h.symm)]
theorem lY (old:St E.T): ∀(ks:List Nat) {st:St E.T},(iV E old ks st).length=st.length
 |[],st=>rfl
 |k::r,st=>by
  rw[iV]
  split
  ·rw[lY old r,dL]
  ·rw[lY old r]
theorem FN {o k:Nat} {ob:Obj E.T} (h:aR st o=some ob) (hk:k∈cf E ob):k∈iZ E st:=by
 unfold iZ
 rw[List.mem_flatMap]
 refine⟨ob,?_,hk⟩
 rw[cX]at h
 exact List.mem_of_getElem? h
def yW (σ:Sg) (gm:List Nat):Sg:={σ with m:=fun b=>σ.m b∨ ∃k∈gm,k9 (σ k)=some b}
structure G1 (E:Env) (st:St E.T) (gm:List Nat):Prop where
 row: ∀k∈gm,∃e xs,aR st k=some (.arr .live e xs)
 free: ∀k∈gm,k∉iZ E st
theorem G1.lt {gm:List Nat} (h:G1 E st gm): ∀k∈gm,k<st.length:=fun k hk=>by
 obtain⟨e,xs,hh⟩:=h.row k hk;exact bT hh
theorem Cf {gm:List Nat} (h:G1 E st gm) {b:Nat} (hb:MB (yW σ gm) (zx E gm st) b):MB σ st b:=by
 rcases hb with(hb|⟨k,hk,hb⟩)|⟨o,ob,ho,hm,hb⟩
 ·exact .inl hb
 ·obtain⟨e,xs,hh⟩:=h.row k hk
  exact .inr ⟨k,_,hh,rfl,hb⟩
 ·rw[kV gm o h.lt]at ho
  split at ho
  ·cases ho;cases hm
  ·exact .inr ⟨o,ob,ho,hm,hb⟩
theorem Ie {gm:List Nat} (h:G1 E st gm) {k:Nat} (hk:k∉gm):ij σ (yW σ gm) st (zx E gm st) k:=
 ⟨rfl,fun l e xs hh=>⟨l,xs,by rw[kV gm k h.lt,if_neg hk];exact hh⟩,fun hl=>by rw[x6];exact hl⟩
theorem Rx {gm:List Nat} (hst:br E σ st w) (h:G1 E st gm):br E (yW σ gm) (zx E gm st) w:=by
 have hb: ∀{o ob},aR (zx E gm st) o=some ob→dC ob=false→o∉gm∧aR st o=some ob:=by
  intro o ob ho hd
  rw[kV gm o h.lt]at ho
  split at ho
  ·cases ho;cases hd
  ·rename_i hn;exact⟨hn,ho⟩
 refine⟨fun o ob ho=> ?_,fun o o' ob ob' b hne ho ho' hm hd hb1 hb2=> ?_,fun b hb1=> ?_,fun o ob b ho hd hb1=> ?_⟩
 ·cases hd:dC ob with
  |true=>cases ob<;>first|exact .dead _|cases hd
  |false=>
   obtain⟨hn,h1⟩:=hb ho hd
   exact cZ.aM (Kept.weaken fun b hb=>Cf h hb) (fun _ _=>rfl) (fun k hk=>Ie h (fun hkh=>h.free k hkh (FN h1 hk))) (hst.obj o ob h1)
 ·obtain⟨_,h1⟩:=hb ho (by cases ob<;>first|rfl|cases hm)
  obtain⟨_,h2⟩:=hb ho' hd
  exact hst.apart o o' ob ob' b hne h1 h2 hm hd hb1 hb2
 ·rcases hb1 with hb1|⟨k,hk,hb1⟩
  ·exact hst.qC b hb1
  ·obtain⟨e,xs,hh⟩:=h.row k hk
   exact lO hst hh rfl hb1
 ·obtain⟨hn,h1⟩:=hb ho hd
  rintro(hm|⟨k,hk,hbk⟩)
  ·exact hst.out o ob b h1 hd hb1 hm
  ·obtain⟨e,xs,hh⟩:=h.row k hk
   exact hst.apart k o _ ob b (fun hko=>hn (by rw[←hko];exact hk)) hh h1 rfl hd hbk hb1
theorem OV {gm:List Nat} {s1:St E.T} (hst:br E σ st w) (h:G1 E st gm) (m:Mf (yW σ gm) σ' (zx E gm st) s1 w w'):
  ∃σ'':Sg,Mf σ σ'' st (iV E st gm s1) w w'∧(∀d u,a8 E σ' s1 w' (MB σ' s1) d u→a8 E σ'' (iV E st gm s1) w' (MB σ'' (iV E st gm s1)) d u)∧
   ∀k,k<st.length→(k∈gm∨ ∀e xs,aR st k≠some (.arr .live e xs))→ij σ σ'' st (iV E st gm s1) k:=by
 have hlen:st.length≤s1.length:=by have:=m.stay.len;rwa [x6]at this
 have hun: ∀o,aR (iV E st gm s1) o=if o∈gm then aR st o else aR s1 o:=fun o=>DX st gm o (fun k hk=>⟨Nat.lt_of_lt_of_le (h.lt k hk) hlen,h.lt k hk⟩)
 have hdead: ∀k∈gm,aR s1 k=some .dead:=by
  intro k hk
  obtain⟨ob',h1,t,_⟩:=m.stay.kind k .dead (by rw[kV gm k h.lt,if_pos hk])
  cases t;exact h1
 have hname: ∀k∈gm,σ' k=σ k:=fun k hk=>m.stay.same k .dead (by rw[kV gm k h.lt,if_pos hk]) rfl
 have hm':σ'.m=(yW σ gm).m:=m.qC.m
 let σ'':Sg:={σ' with m:=σ.m}
 have hMB1: ∀b,MB σ'' (iV E st gm s1) b→MB σ' s1 b:=by
  rintro b (hb|⟨o,ob,ho,hmu,hb⟩)
  ·exact .inl (by rw[hm'];exact .inl hb)
  ·rw[hun o]at ho
   split at ho
   ·rename_i ho'
    exact .inl (by rw[hm'];exact .inr ⟨o,ho',by rw[←hname o ho'];exact hb⟩)
   ·exact .inr ⟨o,ob,ho,hmu,hb⟩
 have hkept1:Kept (MB σ' s1) (MB σ'' (iV E st gm s1)) w' w':=Kept.weaken hMB1
 have hsame1: ∀k,ij σ' σ'' s1 (iV E st gm s1) k:=fun k=>⟨rfl,fun l e xs hh=>by
  by_cases hk:k∈gm
  ·rw[hdead k hk]at hh;cases hh
  ·exact⟨l,xs,by rw[hun k,if_neg hk];exact hh⟩,fun hl=>by rw[lY];exact hl⟩
 have hkeep:wY (MB σ st) (MB σ'' (iV E st gm s1)) w w':=
  ⟨m.aM.os,m.aM.tape,m.aM.output,m.aM.size,fun b hb hM=>m.aM.block b hb (fun hb'=>hM (Cf h hb')),fun b hb hM=>Cf h (m.aM.may b hb (hMB1 b hM))⟩
 refine⟨σ'',⟨⟨fun o ob ho=> ?_,fun o o' ob ob' b hne ho ho' hmu hd hb1 hb2=> ?_,fun b hb=>Nat.lt_of_lt_of_le (hst.qC b hb) m.aM.size,fun o ob b ho hd hb=> ?_⟩,hkeep,⟨fun o ob ho hl=> ?_,fun o ob ho=> ?_⟩,⟨rfl,fun b hb=>m.qC.gm b (.inl hb)⟩⟩,fun d u hv=>a8.aM hkept1 hv (fun k _=>hsame1 k),fun k hk hor=> ?_⟩
 ·rw[hun o]at ho
  split at ho
  ·rename_i ho'
   obtain⟨e,xs,hh⟩:=h.row o ho'
   rw[hh]at ho;cases ho
   have:=hst.obj o _ hh
   have hno:σ'' o=σ o:=hname o ho'
   rw[hno]
   exact cZ.aM hkeep.kept (fun g hg=>m.qC.gm g (.inr ⟨o,ho',hg⟩)) (fun k hk=>by simp[cf]at hk) this
  ·exact cZ.aM hkept1 (fun _ _=>rfl) (fun k _=>hsame1 k) (m.rep.obj o ob ho)
 ·rw[hun o]at ho
  rw[hun o']at ho'
  by_cases h1:o∈gm
  ·rw[if_pos h1]at ho
   by_cases h2:o'∈gm
   ·rw[if_pos h2]at ho'
    have e1:σ'' o=σ o:=hname o h1
    have e2:σ'' o'=σ o':=hname o' h2
    rw[e1]at hb1;rw[e2]at hb2
    exact hst.apart o o' ob ob' b hne ho ho' hmu hd hb1 hb2
   ·rw[if_neg h2]at ho'
    have e1:σ'' o=σ o:=hname o h1
    rw[e1]at hb1
    exact m.rep.out o' ob' b ho' hd hb2 (by rw[hm'];exact .inr ⟨o,h1,hb1⟩)
  ·rw[if_neg h1]at ho
   by_cases h2:o'∈gm
   ·have e2:σ'' o'=σ o':=hname o' h2
    rw[e2]at hb2
    exact m.rep.out o ob b ho (by cases ob<;>first|rfl|cases hmu) hb1 (by rw[hm'];exact .inr ⟨o',h2,hb2⟩)
   ·rw[if_neg h2]at ho'
    exact m.rep.apart o o' ob ob' b hne ho ho' hmu hd hb1 hb2
 ·rw[hun o]at ho
  split at ho
  ·rename_i ho'
   have e1:σ'' o=σ o:=hname o ho'
   rw[e1]at hb
   exact hst.out o ob b ho hd hb
  ·exact fun hm=>m.rep.out o ob b ho hd hb (by rw[hm'];exact .inl hm)
 ·have ho':o∉gm:=fun hh=>by
   obtain⟨e,xs,h1⟩:=h.row o hh
   rw[ho]at h1;cases h1;cases hl
  exact m.stay.same o ob (by rw[kV gm o h.lt,if_neg ho'];exact ho) hl
 ·by_cases ho':o∈gm
  ·exact⟨ob,by rw[hun o,if_pos ho'];exact ho,qQ.refl ob,id⟩
  ·obtain⟨ob',h1,h2,h3⟩:=m.stay.kind o ob (by rw[kV gm o h.lt,if_neg ho'];exact ho)
   exact⟨ob',by rw[hun o,if_neg ho'];exact h1,h2,h3⟩
 ·by_cases hkh:k∈gm
  ·exact⟨hname k hkh,fun l e xs hh=>⟨l,xs,by rw[hun k,if_pos hkh];exact hh⟩,fun hl=>by rw[lY];omega⟩
  ·have hor:=hor.resolve_left hkh
   have hget:aR st k=some (st[k]):=by rw[cX];exact List.getElem?_eq_getElem hk
   have hnl:mc (st[k])=false:=by
    cases hq:st[k]with
    |arr l e xs=>
     cases l with
     |live=>rw[hq]at hget;exact absurd hget (hor e xs)
     |_=>rfl
    |_=>rfl
   have hhid:aR (zx E gm st) k=some (st[k]):=by rw[kV gm k h.lt,if_neg hkh];exact hget
   refine⟨m.stay.same k _ hhid hnl,fun l e xs hh=> ?_,fun hl=>by rw[lY];omega⟩
   obtain⟨ob',h1,t,_⟩:=m.stay.kind k _ hhid
   rw[hget]at hh
   have hh:=Option.some.inj hh
   rw[hh]at t
   cases t with
   |arr l l' e xs xs'=>exact⟨l',xs',by rw[hun k,if_neg hkh];exact h1⟩
theorem uC (o:Nat):aR (lock E st) o=(aR st o).map (Ol E):=by unfold lock;rw[dA]
theorem Jj {b:Nat} (h:MB σ (lock E st) b):σ.m b:=by
 rcases h with h|⟨o,ob,ho,hm,hb⟩
 ·exact h
 ·rw[uC]at ho
  obtain⟨q,_,rfl⟩:=Option.map_eq_some_iff.1 ho
  cases q<;>cases hm
theorem H5 (k:Nat):ij σ σ st (lock E st) k:=
 ⟨rfl,fun l e xs hh=>⟨.bc,xs,by rw[uC,hh];rfl⟩,fun hl=>by simpa [lock]using hl⟩
theorem Rk (hst:br E σ st w):br E σ (lock E st) w:=by
 refine⟨fun o ob ho=> ?_,fun o o' ob ob' b hne ho ho' hm hd hb1 hb2=> ?_,hst.qC,fun o ob b ho hd hb=> ?_⟩
 ·rw[uC]at ho
  obtain⟨q,hq,rfl⟩:=Option.map_eq_some_iff.1 ho
  have:=cZ.aM (σ':=σ) (st':=lock E st) (M':=MB σ (lock E st)) (Kept.weaken fun b hb=> .inl (Jj hb)) (fun _ _=>rfl) (fun k _=>H5 k) (hst.obj o q hq)
  generalize σ o=s at this
  cases this with
  |box ro d b c el fr hh hf hc=>exact .box true d b c el fr hh hf hc
  |arr l e xs v h=>exact .arr .bc e xs s h
  |dead v=>exact .dead s
 ·rw[uC]at ho
  obtain⟨q,_,rfl⟩:=Option.map_eq_some_iff.1 ho
  cases q<;>cases hm
 ·rw[uC]at ho
  obtain⟨q,hq,rfl⟩:=Option.map_eq_some_iff.1 ho
  exact hst.out o q b hq (by cases q<;>first|rfl|cases hd) hb
end
end
open Go
noncomputable section
section
variable {P:Program} {E:Env} {w w' w'':World} {σ σ' σ'':Sg} {st st' st'':St E.T} {M M':Nat→Prop}
structure Es (ρ:Nat→Nat) (σ σ':Sg) (st st':St E.T) (k:Nat):Prop where
 at_:σ' (ρ k)=σ k
 arr: ∀l e xs,aR st k=some (.arr l e xs)→ ∃l' xs',aR st' (ρ k)=some (.arr l' e xs')
 lt:k<st.length→ρ k<st'.length
mutual
theorem VT.EA {ρ:Nat→Nat} (kp:Kept M M' w w'): ∀{t:Ty} {d:az E.T} {cs:List Value},VT E σ st w M t d cs→(∀k∈D.refs d,Es ρ σ σ' st st' k)→VT E σ' st' w' M' t (rn ρ d) cs
 |_,_,_,.val t x cs h,hs=>by unfold rn;exact .val t x cs (cF.aM kp h)
 |_,_,_,.bm e a,hs=>by unfold rn;exact .bm e a
 |_,_,_,.own k l e xs h,hs=>by
  unfold rn
  have hk:=hs k (by simp[D.refs])
  obtain⟨l',xs',h'⟩:=hk.arr l e xs h
  have:=VT.own (σ:=σ') (w:=w') (M:=M') (ρ k) l' e xs' h'
  rwa [hk.at_]at this
 |_,_,_,.dD e v h,hs=>by unfold rn;exact .dD e v h
 |_,_,_,.agg i fs cs h,hs=>by unfold rn;exact .agg i _ cs (iB.EA kp h (fun k hk=>hs k (by simpa [D.refs]using hk)))
theorem iB.EA {ρ:Nat→Nat} (kp:Kept M M' w w'): ∀{ts:List Ty} {ds:List (az E.T)} {cs:List Value},iB E σ st w M ts ds cs→(∀k∈bh ds,Es ρ σ σ' st st' k)→iB E σ' st' w' M' ts (J9 ρ ds) cs
 |_,_,_,.nil,hs=>by unfold J9;exact .nil
 |_,_,_,.cons t ts v r c1 c2 h h',hs=>by unfold J9;exact .cons t ts _ _ c1 c2 (VT.EA kp h (fun k hk=>hs k (by simp[bh,hk]))) (iB.EA kp h' (fun k hk=>hs k (by simp[bh,hk])))
end
mutual
theorem a8.EA {ρ:Nat→Nat} (kp:Kept M M' w w') (hoff:True): ∀{d:az E.T} {v:Value},a8 E σ st w M d v→(∀k∈D.refs d,Es ρ σ σ' st st' k)→a8 E σ' st' w' M' (rn ρ d) v
 |_,_,.undef v,hs=>by unfold rn;exact .undef v
 |_,_,.data t d cs h,hs=> .data t _ cs (VT.EA kp h hs)
 |_,_,.ptr o p b h hl,hs=>by
  unfold rn
  have hk:=hs o (by simp[D.refs])
  exact .ptr _ p b (by rw[hk.at_];exact h) (hk.lt hl)
 |_,_,.cQ,hs=>by unfold rn;exact .cQ
 |_,_,.eg t x a cs h hm,hs=>by unfold rn;exact .eg t x a cs (cF.aM kp h) (Mem.aM kp hm)
 |_,_,.jo vs us h,hs=>by unfold rn;exact .jo _ us (aW.EA kp hoff h (fun k hk=>hs k (by simpa [D.refs]using hk)))
 |_,_,.fn f vs us h,hs=>by unfold rn;exact .fn f _ us (aW.EA kp hoff h (fun k hk=>hs k (by simpa [D.refs]using hk)))
 |_,_,.ei,hs=>by unfold rn;exact .ei
 |_,_,.fD t d v h,hs=>by unfold rn;exact .fD t _ v (a8.EA kp hoff h (fun k hk=>hs k (by simpa [D.refs]using hk)))
 |_,_,.ct,hs=>by unfold rn;exact .ct
theorem aW.EA {ρ:Nat→Nat} (kp:Kept M M' w w') (hoff:True): ∀{ds:List (az E.T)} {us:List Value},aW E σ st w M ds us→(∀k∈bh ds,Es ρ σ σ' st st' k)→aW E σ' st' w' M' (J9 ρ ds) us
 |_,_,.nil,hs=>by unfold J9;exact .nil
 |_,_,.cons v r u us h h',hs=>by unfold J9;exact .cons _ _ u us (a8.EA kp hoff h (fun k hk=>hs k (by simp[bh,hk]))) (aW.EA kp hoff h' (fun k hk=>hs k (by simp[bh,hk])))
end
theorem SA (ρ:Nat→Nat) {d:az E.T} (h:Ev E d=true):Ev E (rn ρ d)=true:=by
 cases d<;>first|(cases h;done)|(unfold rn;exact h)
theorem cZ.EA {ρ:Nat→Nat} (kp:Kept M M' w w') {v:Value} {ob:Obj E.T} (hb: ∀g,k9 v=some g→w'.heap[g]? =w.heap[g]?) (hs: ∀k∈cf E ob,Es ρ σ σ' st st' k) (h:cZ E σ st w M v ob):
  cZ E σ' st' w' M' v (gN ρ ob):=by
 cases h with
 |box ro d b c el fr hh hf hc=>
  have hg:=hb b rfl
  refine .box ro _ b c el fr (hg.trans hh) (fun q=> ?_) ?_
  ·have:=hf q
   unfold World.frozen? at this⊢
   simp only[hg]
   exact this
  ·rcases hc with⟨t,ht⟩|⟨hs1,u,hu,ho,hv⟩
   ·exact .inl ⟨t,VT.EA kp ht hs⟩
   ·exact .inr ⟨SA ρ hs1,u,hu,ho,a8.EA kp trivial hv hs⟩
 |arr l e xs v h=>exact .arr l e xs v (gz.aM kp hb h)
 |dead v=>exact .dead v
theorem qS (ρ:Nat→Nat) (ob:Obj E.T):dt (gN ρ ob)=dt ob:=by cases ob<;>rfl
theorem vk (ρ:Nat→Nat) (ob:Obj E.T):dC (gN ρ ob)=dC ob:=by cases ob<;>rfl
theorem vY (b:Bool) (ob:Obj E.T):dt (vZ E b ob)=dt ob:=by
 cases ob with
 |arr l e xs=>cases l<;>cases b<;>rfl
 |_=>rfl
theorem Eb (b:Bool) (ob:Obj E.T):dC (vZ E b ob)=dC ob:=by
 cases ob with
 |arr l e xs=>cases l<;>cases b<;>rfl
 |_=>rfl
theorem Nj {b:Bool} {v:Value} {ob:Obj E.T} (h:cZ E σ st w M v ob):cZ E σ st w M v (vZ E b ob):=by
 cases h with
 |box ro d b' c el fr hh hf hc=>exact .box ro d b' c el fr hh hf hc
 |arr l e xs v h=>cases l<;>cases b<;>exact .arr _ e xs v h
 |dead v=>exact .dead v
theorem AT {b:Bool} {ob:Obj E.T} {l:RM} {e:Ty} {xs:List (I E.T e)} (h:ob= .arr l e xs): ∃l',vZ E b ob= .arr l' e xs:=by
 subst h;cases l<;>cases b<;>exact⟨_,rfl⟩
theorem OW {o:Option (Obj E.T)} {v:Value} {ob:Obj E.T} (h:cZ E σ st w M v ob):cZ E σ st w M v (nc E o ob):=by
 unfold nc
 split
 ·cases h with
  |arr l e' xs v h=>exact .arr .live _ _ v h
 ·exact h
theorem Hu (o:Option (Obj E.T)) (ro:Bool) (c:az E.T):nc E o (.box ro c)= .box ro c:=by
 unfold nc
 split
 ·rename_i h;cases h
 ·rfl
theorem DN (o:Option (Obj E.T)):nc E o .dead= .dead:=by
 unfold nc
 split
 ·rename_i h;cases h
 ·rfl
theorem OX (o:Option (Obj E.T)) (ob:Obj E.T):dt (nc E o ob)=dt ob:=by
 unfold nc;split<;>rfl
theorem MA (o:Option (Obj E.T)) (ob:Obj E.T):dC (nc E o ob)=dC ob:=by
 unfold nc;split<;>rfl
theorem CL {o:Option (Obj E.T)} {ob:Obj E.T} {l:RM} {e:Ty} {xs:List (I E.T e)} (h:ob= .arr l e xs): ∃l',nc E o ob= .arr l' e xs:=by
 subst h
 unfold nc
 split
 ·rename_i h;cases h;exact⟨_,rfl⟩
 ·exact⟨l,rfl⟩
theorem Uu {a b:Nat} (h:a<b):Nat.blt a b=true:=by rw[Nat.blt_eq];exact h
theorem GI {a b:Nat} (h:Nat.blt a b=true):a<b:=by rwa [Nat.blt_eq]at h
theorem vT: ∀{R:List Nat} {k:Nat},k∈R→idx R k<R.length∧nth R (idx R k) 0=k
 |[],k,h=>by simp at h
 |j::R,k,h=>by
  simp only[idx]
  cases hb:Nat.beq j k with
  |true=>exact⟨by simp,by simpa [fg,dZ,ed]using Nat.eq_of_beq_eq_true hb⟩
  |false=>
   have hk:k∈R:=by
    rcases List.mem_cons.1 h with rfl|h
    ·rw[Nat.beq_refl]at hb;cases hb
    ·exact h
   obtain⟨h1,h2⟩:=vT hk
   exact⟨by simpa using h1,by simpa [fg,dZ,ed]using h2⟩
theorem sQ: ∀{R:List Nat} {i:Nat},i<R.length→nth R i 0∈R
 |[],i,h=>by simp at h
 |j::R,0,h=>by simp[fg,dZ,ed]
 |j::R,i+1,h=>by simp only[fg,dZ,ed];exact List.mem_cons_of_mem _ (sQ (by simpa using h))
theorem kx {ks:List Nat} {k:Nat}:c9 ks k=false↔k∉ks:=by
 rw[←ez,Bool.not_eq_true]
theorem Ce: ∀{R:List Nat} {i:Nat},FJ R=true→i<R.length→idx R (nth R i 0)=i
 |[],i,_,h=>by simp at h
 |j::R,0,_,h=>by simp[fg,dZ,ed,idx,Nat.beq_refl]
 |j::R,i+1,hn,h=>by
  simp only[FJ,Bool.and_eq_true,Bool.not_eq_true']at hn
  have hi:i<R.length:=by simpa using h
  have hm:=sQ hi
  simp only[fg,dZ,ed,idx]
  cases hb:Nat.beq j (nth R i 0)with
  |true=>
   rw[←Nat.eq_of_beq_eq_true hb]at hm
   exact absurd hm (kx.1 hn.1)
  |false=>simp[Ce hn.2 hi]
theorem KP {R:List Nat} {i:Nat} (h:i<R.length):aR R i=some (nth R i 0):=by
 rw[cX,kt,List.getD_eq_getElem?_getD,List.getElem?_eq_getElem h];rfl
structure ue (E:Env) (st:St E.T) (R:List Nat):Prop where
 nd:FJ R=true
 lt: ∀k∈R,k<st.length
 obj: ∀k∈R,∀ob,aR st k=some ob→ ∀j∈cf E ob,j∈R
theorem zm {R:List Nat} (h:pq E st R=true):ue E st R:=by
 unfold pq at h
 rw[Bool.and_eq_true,List.all_eq_true]at h
 refine⟨h.1,fun k hk=> ?_,fun k hk ob ho j hj=> ?_⟩
 ·have:=h.2 k hk
  rw[Bool.and_eq_true]at this
  exact GI this.1
 ·have:=h.2 k hk
  rw[Bool.and_eq_true,List.all_eq_true]at this
  have h2:=this.2 j (by unfold ju;rw[ho];exact hj)
  exact(ez _ _).1 h2
def rU (σ:Sg) (R:List Nat) (m:Nat→Prop):Sg:={f:=fun i=>σ (nth R i 0),m:=m}
variable {fx R:List Nat}
theorem AF (hc:ue E st R) {i:Nat} {ob:Obj E.T} (h:aR (gT E st fx R) i=some ob):
  ∃ob0,i<R.length∧aR st (nth R i 0)=some ob0∧ob=vZ E (c9 fx (nth R i 0)) (gN (idx R) ob0):=by
 have hi:=bT h
 simp only[gT,List.length_map]at hi
 unfold gT at h
 rw[dA,KP hi]at h
 simp only[Option.map_some,Option.some.injEq]at h
 have hk:=hc.lt _ (sQ hi)
 have hget:aR st (nth R i 0)=some (st[nth R i 0]):=by rw[cX];exact List.getElem?_eq_getElem hk
 rw[hget]at h
 exact⟨_,hi,hget,h.symm⟩
theorem Jl (hc:ue E st R) {k:Nat} (hk:k∈R) {ob0:Obj E.T} (h:aR st k=some ob0):aR (gT E st fx R) (idx R k)=some (vZ E (c9 fx k) (gN (idx R) ob0)):=by
 obtain⟨h1,h2⟩:=vT hk
 unfold gT
 rw[dA,KP h1,h2]
 simp[h]
theorem Om:(gT E st fx R).length=R.length:=by simp[gT]
theorem xY (hc:ue E st R) {m:Nat→Prop} {k:Nat} (hk:k∈R):Es (idx R) σ (rU σ R m) st (gT E st fx R) k:=by
 obtain⟨h1,h2⟩:=vT hk
 refine⟨?_,fun l e xs h=> ?_,fun _=>by rw[Om];exact h1⟩
 ·show σ (nth R (idx R k) 0)=σ k
  rw[h2]
 ·obtain⟨l',hl⟩:=AT (E:=E) (b:=c9 fx k) (ob:=gN (idx R) (.arr l e xs)) rfl
  exact⟨l',xs,by rw[Jl hc hk h,hl]⟩
theorem Jm (hc:ue E st R) {m:Nat→Prop} (hm: ∀b,m b→MB σ st b) {b:Nat} (h:MB (rU σ R m) (gT E st fx R) b):MB σ st b:=by
 rcases h with h|⟨i,ob,hi,hmu,hb⟩
 ·exact hm b h
 ·obtain⟨ob0,_,h2,rfl⟩:=AF hc hi
  rw[vY,qS]at hmu
  exact .inr ⟨_,ob0,h2,hmu,hb⟩
theorem Jk (hst:br E σ st w) (hc:ue E st R) {m:Nat→Prop} (hm: ∀b,m b→MB σ st b) (hlt: ∀b,m b→b<w.heap.size)
  (hout: ∀k∈R,∀ob b,aR st k=some ob→dC ob=false→k9 (σ k)=some b→ ¬m b):br E (rU σ R m) (gT E st fx R) w:=by
 refine⟨fun i ob hi=> ?_,fun i j ob ob' b hne hi hj hmu hd hb1 hb2=> ?_,hlt,fun i ob b hi hd hb=> ?_⟩
 ·obtain⟨ob0,h1,h2,rfl⟩:=AF hc hi
  exact Nj (cZ.EA (Kept.weaken fun b hb=>Jm hc hm hb) (fun _ _=>rfl) (fun k hk=>xY hc (hc.obj _ (sQ h1) ob0 h2 k hk)) (hst.obj _ ob0 h2))
 ·obtain⟨ob1,h1,h2,rfl⟩:=AF hc hi
  obtain⟨ob2,h3,h4,rfl⟩:=AF hc hj
  rw[vY,qS]at hmu
  rw[Eb,vk]at hd
  refine hst.apart _ _ ob1 ob2 b (fun h=>hne ?_) h2 h4 hmu hd hb1 hb2
  have:=congrArg (idx R) h
  rwa [Ce hc.nd h1,Ce hc.nd h3]at this
 ·obtain⟨ob0,h1,h2,rfl⟩:=AF hc hi
  rw[Eb,vk]at hd
  exact hout _ (sQ h1) ob0 b h2 hd hb
def Le (σ:Sg) (st:St E.T) (R:List Nat) (b:Nat):Prop:=σ.m b∨ ∃k ob,k∉R∧aR st k=some ob∧dt ob=true∧k9 (σ k)=some b
theorem KR {ob:Obj E.T} (h:dt ob=true):dC ob=false:=by cases ob<;>first|rfl|cases h
theorem EW {b:Nat} (h:Le σ st R b):MB σ st b:=by
 rcases h with h|⟨k,ob,_,h1,h2,h3⟩
 ·exact .inl h
 ·exact .inr ⟨k,ob,h1,h2,h3⟩
theorem S4 (hst:br E σ st w) (hc:ue E st R):br E (rU σ R (Le σ st R)) (gT E st fx R) w:=by
 refine Jk hst hc (fun b h=>EW h) (fun b h=>Eu hst (EW h)) (fun k hk ob b h1 h2 h3 h4=> ?_)
 rcases h4 with h4|⟨j,ob',hj,h5,h6,h7⟩
 ·exact hst.out k ob b h1 h2 h3 h4
 ·exact hst.apart j k ob' ob b (fun h=>hj (h▸hk)) h5 h1 h6 h2 h7 h3
theorem eG: ∀(l:List (Nat×Obj E.T)) (s:St E.T),(cG E s l).length=s.length
 |[],s=>rfl
 |p::r,s=>by rw[cG,eG r,dL]
mutual
theorem ye (st:St E.T): ∀(d:az E.T),kill E st [] d=d
 | .own k=>by unfold kill;rfl
 | .ptr o p=>by unfold kill;rfl
 | .agg i fs=>by unfold kill;rw[qW st fs]
 | .jo fs=>by unfold kill;rw[qW st fs]
 | .fn f fs=>by unfold kill;rw[qW st fs]
 | .fD t v=>by unfold kill;rw[ye st v]
 | .val t x=>by unfold kill;rfl
 | .bm=>by unfold kill;rfl
 | .cQ=>by unfold kill;rfl
 | .eg t x=>by unfold kill;rfl
 | .ei=>by unfold kill;rfl
 | .ct=>by unfold kill;rfl
 | .dD e=>by unfold kill;rfl
 | .undef=>by unfold kill;rfl
theorem qW (st:St E.T): ∀(ds:List (az E.T)),cY E st [] ds=ds
 |[]=>by unfold cY;rfl
 |d::r=>by unfold cY;rw[ye st d,qW st r]
end
theorem K6 (ob:Obj E.T):bW E st [] ob=ob:=by cases ob<;>simp[bW,ye]
theorem oU (ks:List Nat):Da E st ks=st.map (bW E st ks):=by
 unfold Da
 split
 ·have:(bW E st [])=id:=funext fun ob=>K6 ob
  rw[this,List.map_id]
 ·rfl
theorem gB (ks:List Nat) (fr:Fr E.T):dB E st ks fr=iM E st ks fr:=by
 unfold dB
 split
 ·unfold iM
  rw[qW]
  have:(fun x:FuncId×List (az E.T)=>(x.1,cY E st [] x.2))=id:=funext fun x=>by rw[qW];rfl
  rw[this,List.map_id]
 ·rfl
theorem ra (s news:List (Obj E.T)):Bg E s news=s++news:=by
 unfold Bg
 split
 ·rw[List.append_nil]
 ·rfl
theorem FH {α:Type} (l r:List α) (o:Nat):aR (l++r) o=if o<l.length then aR l o else aR r (o-l.length):=by
 simp only[cX]
 by_cases h:o<l.length
 ·rw[if_pos h,List.getElem?_append_left h]
 ·rw[if_neg h,List.getElem?_append_right (by omega)]
theorem FG: ∀(R:List Nat) (q s:List (Obj E.T)),FJ R=true→R.length≤q.length→(∀k∈R,k<s.length)→ ∀o,
  aR (cG E s (tf E st R q)) o=if o∈R then(aR q (idx R o)).map (nc E (aR st o))else aR s o
 |[],q,s,_,_,_,o=>by cases q<;>simp[tf,cG]
 |k::R,[],s,_,h,_,o=>by simp at h
 |k::R,ob::q,s,hn,hl,hs,o=>by
  simp only[FJ,Bool.and_eq_true,Bool.not_eq_true']at hn
  simp only[tf,cG]
  rw[FG R q _ hn.2 (by simpa using hl) (fun j hj=>by rw[dL];exact hs j (by simp[hj]))]
  have hkR:=kx.1 hn.1
  by_cases ho:o=k
  ·subst ho
   rw[if_neg hkR,if_pos (by simp),bF,if_pos ⟨rfl,hs o (by simp)⟩]
   simp[idx,Nat.beq_refl,dJ,cT,cU]
  ·have hb:Nat.beq k o=false:=by
    cases hb:Nat.beq k o with
    |true=>exact absurd (Nat.eq_of_beq_eq_true hb).symm ho
    |false=>rfl
   by_cases hR:o∈R
   ·rw[if_pos hR,if_pos (by simp[hR])]
    simp[idx,hb,dJ,cT,cU]
   ·rw[if_neg hR,if_neg (by simp[hR,ho]),bF,if_neg (fun h=>ho h.1.symm)]
def xZ (E:Env) (st:St E.T) (fx R:List Nat):List Nat:=(tD E st R).filter fun k=> !(c9 fx k)
theorem H6 {k:Nat}:k∈xZ E st fx R↔k∈R∧(∃e xs,aR st k=some (.arr .live e xs))∧k∉fx:=by
 unfold xZ
 rw[List.mem_filter,Jh]
 constructor
 ·rintro⟨⟨h1,h2⟩,h3⟩
  refine⟨h1,h2,fun h=> ?_⟩
  rw[(ez fx k).2 h]at h3;cases h3
 ·rintro⟨h1,h2,h3⟩
  exact⟨⟨h1,h2⟩,by rw[kx.2 h3];rfl⟩
def kM (E:Env) (st:St E.T) (fx R:List Nat) (s2:St E.T):St E.T:=
 cG E (st.map (bW E st (xZ E st fx R))) (tf E st R (s2.map (gN (back st.length R.length R))))++(s2.map (gN (back st.length R.length R))).drop R.length
theorem Mg (hc:ue E st R) {s2:St E.T} (hl:R.length≤s2.length) (o:Nat):aR (kM E st fx R s2) o=
  if o∈R then(aR s2 (idx R o)).map (fun ob=>nc E (aR st o) (gN (back st.length R.length R) ob))
  else if o<st.length then(aR st o).map (bW E st (xZ E st fx R))else(aR s2 (o-st.length+R.length)).map (gN (back st.length R.length R)):=by
 unfold kM
 rw[FH,eG,List.length_map,FG R _ _ hc.nd (by simpa using hl) (fun k hk=>by simpa using hc.lt k hk)]
 by_cases hR:o∈R
 ·rw[if_pos (hc.lt o hR),if_pos hR,if_pos hR,dA,Option.map_map]
  rfl
 ·rw[if_neg hR,if_neg hR]
  by_cases ho:o<st.length
  ·rw[if_pos ho,if_pos ho,dA]
  ·rw[if_neg ho,if_neg ho,cX,List.getElem?_drop,←cX,dA,Nat.add_comm]
theorem JW (hc:ue E st R) {s2:St E.T}:(kM E st fx R s2).length=st.length+(s2.length-R.length):=by
 unfold kM
 rw[List.length_append,eG,List.length_map,List.length_drop,List.length_map]
def mM (σ σ2:Sg) (n:Nat) (R:List Nat):Sg:={f:=fun k=>bif c9 R k then σ2 (idx R k)else bif Nat.blt k n then σ k else σ2 (k-n+R.length),m:=σ.m}
theorem GQ {σ2:Sg} {n k:Nat} (h:k∈R):mM σ σ2 n R k=σ2 (idx R k):=by
 show(bif c9 R k then _ else _)=_
 rw[(ez R k).2 h];rfl
theorem GO {σ2:Sg} {n k:Nat} (h:k∉R) (hn:k<n):mM σ σ2 n R k=σ k:=by
 show(bif c9 R k then _ else _)=_
 rw[kx.2 h,Uu hn];rfl
theorem GP {σ2:Sg} {n k:Nat} (h:k∉R) (hn: ¬k<n):mM σ σ2 n R k=σ2 (k-n+R.length):=by
 show(bif c9 R k then _ else _)=_
 rw[kx.2 h]
 cases hb:Nat.blt k n with
 |true=>exact absurd (GI hb) hn
 |false=>rfl
theorem Ts {n r i:Nat} (h:i<r):back n r R i=nth R i 0:=by unfold back;rw[Uu h];rfl
theorem Tu {n r i:Nat} (h: ¬i<r):back n r R i=i-r+n:=by
 unfold back
 cases hb:Nat.blt i r with
 |true=>exact absurd (GI hb) h
 |false=>rfl
theorem Rl (hst:br E σ st w) (hc:ue E st R) {s2:St E.T} {σ2:Sg} (m:Mf (rU σ R (Le σ st R)) σ2 (gT E st fx R) s2 w w'):
  Mf σ (mM σ σ2 st.length R) st (kM E st fx R s2) w w'∧
   (∀d u,a8 E σ2 s2 w' (MB σ2 s2) d u→a8 E (mM σ σ2 st.length R) (kM E st fx R s2) w' (MB (mM σ σ2 st.length R) (kM E st fx R s2)) (rn (back st.length R.length R) d) u)∧
   ∀k,k<st.length→k∉xZ E st fx R→ij σ (mM σ σ2 st.length R) st (kM E st fx R s2) k:=by
 have hl:R.length≤s2.length:=by have:=m.stay.len;rwa [Om]at this
 have hat:=fun o=>Mg (fx:=fx) hc hl o
 have hlen:=JW (fx:=fx) (s2:=s2) hc
 generalize hst':kM E st fx R s2=st' at*
 have hm2:σ2.m=Le σ st R:=m.qC.m
 have hRn: ∀k∈R,k<st.length:=hc.lt
 have sameR: ∀j,Es (back st.length R.length R) σ2 (mM σ σ2 st.length R) s2 st' j:=by
  intro j
  by_cases hj:j<R.length
  ·have hmem:=sQ hj
   have hb:back st.length R.length R j=nth R j 0:=Ts hj
   refine⟨?_,fun l e xs h=> ?_,fun _=>by rw[hb,hlen];have:=hRn _ hmem;omega⟩
   ·rw[hb,GQ hmem,Ce hc.nd hj]
   ·rw[hb,hat,if_pos hmem,Ce hc.nd hj,h]
    obtain⟨l',hl'⟩:=CL (E:=E) (o:=aR st (nth R j 0)) (ob:=gN (back st.length R.length R) (.arr l e xs)) rfl
    exact⟨l',xs,by rw[←hl'];rfl⟩
  ·have hb:back st.length R.length R j=j-R.length+st.length:=Tu hj
   have h1: ¬(j-R.length+st.length)<st.length:=by omega
   have h2:j-R.length+st.length∉R:=fun h=>h1 (hRn _ h)
   have h3:j-R.length+st.length-st.length+R.length=j:=by omega
   refine⟨?_,fun l e xs h=> ?_,fun h=>by rw[hb,hlen];omega⟩
   ·rw[hb,GP h2 h1,h3]
   ·exact⟨l,xs,by rw[hb,hat,if_neg h2,if_neg h1,h3,h];rfl⟩
 have sameO: ∀k,k<st.length→k∉xZ E st fx R→ij σ (mM σ σ2 st.length R) st st' k:=by
  intro k hk hks
  by_cases hR:k∈R
  ·have hget:aR st k=some (st[k]):=by rw[cX];exact List.getElem?_eq_getElem hk
   have hloc:=Jl (fx:=fx) hc hR hget
   have hnl:mc (vZ E (c9 fx k) (gN (idx R) st[k]))=false:=by
    generalize st[k]=ob at hget
    cases ob with
    |arr l e xs=>
     cases l with
     |live=>
      by_cases hf:k∈fx
      ·rw[(ez fx k).2 hf];rfl
      ·exact absurd (H6.2 ⟨hR,⟨e,xs,hget⟩,hf⟩) hks
     |fix=>rfl
     |bc=>rfl
    |_=>rfl
   refine⟨?_,fun l e xs hh=> ?_,fun _=>by rw[hlen];omega⟩
   ·rw[GQ hR,m.stay.same _ _ hloc hnl]
    show σ (nth R (idx R k) 0)=σ k
    rw[(vT hR).2]
   ·obtain⟨l1,h1⟩:=AT (E:=E) (b:=c9 fx k) (ob:=gN (idx R) (.arr l e xs)) rfl
    have hloc':=Jl (fx:=fx) hc hR hh
    rw[h1]at hloc'
    obtain⟨ob',h2,t,_⟩:=m.stay.kind _ _ hloc'
    cases t with
    |arr l0 l2 e xs xs'=>
     rw[hat,if_pos hR,h2]
     obtain⟨l',hl'⟩:=CL (E:=E) (o:=aR st k) (ob:=gN (back st.length R.length R) (.arr l2 e xs')) rfl
     exact⟨l',xs',by rw[←hl'];rfl⟩
  ·refine⟨GO hR hk,fun l e xs hh=>⟨l,xs,?_⟩,fun _=>by rw[hlen];omega⟩
   rw[hat,if_neg hR,if_pos hk,hh];rfl
 have split: ∀o ob,aR st' o=some ob→(∃j ob2,aR s2 j=some ob2∧mM σ σ2 st.length R o=σ2 j∧dt ob=dt ob2∧dC ob=dC ob2∧(o∈R∧j=idx R o∧ob=nc E (aR st o) (gN (back st.length R.length R) ob2)∨ ¬o<st.length∧j=o-st.length+R.length∧ob=gN (back st.length R.length R) ob2))∨
   (o∉R∧o<st.length∧ ∃ob0,aR st o=some ob0∧ob=bW E st (xZ E st fx R) ob0∧mM σ σ2 st.length R o=σ o):=by
  intro o ob ho
  rw[hat]at ho
  by_cases hR:o∈R
  ·rw[if_pos hR]at ho
   obtain⟨ob2,h1,rfl⟩:=Option.map_eq_some_iff.1 ho
   exact .inl ⟨_,ob2,h1,GQ hR,by rw[OX,qS],by rw[MA,vk],.inl ⟨hR,rfl,rfl⟩⟩
  ·rw[if_neg hR]at ho
   by_cases hn:o<st.length
   ·rw[if_pos hn]at ho
    obtain⟨ob0,h1,rfl⟩:=Option.map_eq_some_iff.1 ho
    exact .inr ⟨hR,hn,ob0,h1,rfl,GO hR hn⟩
   ·rw[if_neg hn]at ho
    obtain⟨ob2,h1,rfl⟩:=Option.map_eq_some_iff.1 ho
    exact .inl ⟨_,ob2,h1,GP hR hn,by rw[qS],by rw[vk],.inr ⟨hn,rfl,rfl⟩⟩
 have locM: ∀{b},MB (rU σ R (Le σ st R)) (gT E st fx R) b→MB σ st b:=fun h=>Jm hc (fun b h=>EW h) h
 have hMB2: ∀b,MB (mM σ σ2 st.length R) st' b→MB σ2 s2 b:=by
  rintro b (hb|⟨o,ob,ho,hmu,hb⟩)
  ·exact .inl (by rw[hm2];exact .inl hb)
  ·rcases split o ob ho with⟨j,ob2,h1,h2,h3,h4,_⟩|⟨hR,hn,ob0,h1,rfl,h2⟩
   ·exact .inr ⟨j,ob2,h1,by rw[←h3];exact hmu,by rw[←h2];exact hb⟩
   ·rw[sX]at hmu
    rw[h2]at hb
    exact .inl (by rw[hm2];exact .inr ⟨o,ob0,hR,h1,hmu,hb⟩)
 have hMB: ∀b,b<w.heap.size→MB (mM σ σ2 st.length R) st' b→MB σ st b:=fun b hb h=>locM (m.aM.may b hb (hMB2 b h))
 have hkeep:wY (MB σ st) (MB (mM σ σ2 st.length R) st') w w':=
  ⟨m.aM.os,m.aM.tape,m.aM.output,m.aM.size,fun b hb hM=>m.aM.block b hb (fun h=>hM (locM h)),hMB⟩
 have hidB: ∀{o ob0 b},o∉R→aR st o=some ob0→dC ob0=false→k9 (σ o)=some b→w'.heap[b]? =w.heap[b]? :=by
  intro o ob0 b hR h1 hd hb
  by_cases hM:MB (rU σ R (Le σ st R)) (gT E st fx R) b
  ·rcases hM with hM|⟨i,ob1,hi,hmu,hbi⟩
   ·exact m.qC.gm b hM
   ·obtain⟨ob2,h3,h4,rfl⟩:=AF hc hi
    rw[vY,qS]at hmu
    exact(hst.apart _ o ob2 ob0 b (fun h=>hR (h▸sQ h3)) h4 h1 hmu hd hbi hb).elim
  ·exact m.aM.block b (lO hst h1 hd hb) hM
 refine⟨⟨⟨fun o ob ho=> ?_,fun o o' ob ob' b hne ho ho' hmu hd hb1 hb2=> ?_,fun b hb=>Nat.lt_of_lt_of_le (hst.qC b hb) m.aM.size,fun o ob b ho hd hb=> ?_⟩,hkeep,⟨fun o ob ho hlv=> ?_,fun o ob ho=> ?_⟩,⟨rfl,fun b hb=>m.qC.gm b (.inl hb)⟩⟩,fun d u hv=>a8.EA (Kept.weaken hMB2) trivial hv (fun k _=>sameR k),sameO⟩
 ·rcases split o ob ho with⟨j,ob2,h1,h2,_,_,h5⟩|⟨hR,hn,ob0,h1,rfl,h2⟩
  ·have:=cZ.EA (ρ:=back st.length R.length R) (σ':=mM σ σ2 st.length R) (st':=st') (Kept.weaken hMB2) (fun _ _=>rfl) (fun k _=>sameR k) (m.rep.obj j ob2 h1)
   rw[←h2]at this
   rcases h5 with⟨_,_,rfl⟩|⟨_,_,rfl⟩
   ·exact OW this
   ·exact this
  ·rw[h2]
   cases hd:dC ob0 with
   |true=>
    cases ob0 with
    |dead=>exact .dead _
    |box ro c=>cases hd
    |arr l e xs=>cases hd
   |false=>
    have hk:=cZ.kill hst (xZ E st fx R) (hst.obj o ob0 h1)
    refine cZ.aM hkeep.kept (fun g hg=>hidB hR h1 hd hg) (fun k hk'=> ?_) hk
    have h3:k∉xZ E st fx R∧k∈cf E ob0:=by
     cases ob0 with
     |box ro c=>obtain⟨a,b⟩:=qT _ c k hk';exact⟨b,a⟩
     |arr l e xs=>simp[bW,cf]at hk'
     |dead=>simp[bW,cf]at hk'
    exact sameO k (Au hst h1 k h3.2) h3.1
 ·have inside: ∀{j ob2 b},aR s2 j=some ob2→dC ob2=false→k9 (σ2 j)=some b→ ∀{p ob0},p∉R→aR st p=some ob0→dC ob0=false→k9 (σ p)=some b→(dt ob2=true∨dt ob0=true)→False:=by
   intro j ob2 b h1 hd1 hb1 p ob0 hp h2 hd2 hb2 hor
   by_cases hmo:dt ob0=true
   ·exact m.rep.out j ob2 b h1 hd1 hb1 (by rw[hm2];exact .inr ⟨p,ob0,hp,h2,hmo,hb2⟩)
   ·have hm':=hor.resolve_right hmo
    have hlt:=lO hst h2 hd2 hb2
    have hM:=m.aM.may b hlt (.inr ⟨j,ob2,h1,hm',hb1⟩)
    rcases hM with hM|⟨i,ob3,hi,hmu3,hb3⟩
    ·rcases hM with hM|⟨k,ob4,hk,h4,hm4,hb4⟩
     ·exact hst.out p ob0 b h2 hd2 hb2 hM
     ·by_cases hkp:k=p
      ·subst hkp;rw[h2]at h4;cases h4;exact hmo hm4
      ·exact hst.apart k p ob4 ob0 b hkp h4 h2 hm4 hd2 hb4 hb2
    ·obtain⟨ob4,h3,h4,rfl⟩:=AF hc hi
     rw[vY,qS]at hmu3
     exact hst.apart _ p ob4 ob0 b (fun h=>hp (h▸sQ h3)) h4 h2 hmu3 hd2 hb3 hb2
  rcases split o ob ho with⟨j,ob2,h1,h2,h3,h4,h5⟩|⟨hR,hn,ob0,h1,rfl,h2⟩
  ·rcases split o' ob' ho' with⟨j',ob2',h1',h2',h3',h4',h5'⟩|⟨hR',hn',ob0',h1',rfl,h2'⟩
   ·refine m.rep.apart j j' ob2 ob2' b (fun hjj=>hne ?_) h1 h1' (by rw[←h3];exact hmu) (by rw[←h4'];exact hd) (by rw[←h2];exact hb1) (by rw[←h2'];exact hb2)
    rcases h5 with⟨ha,hb,_⟩|⟨ha,hb,_⟩
    ·have e1:=vT ha
     rcases h5' with⟨ha',hb',_⟩|⟨ha',hb',_⟩
     ·have e2:=vT ha'
      rw[←e1.2,←e2.2,←hb,←hb',hjj]
     ·omega
    ·rcases h5' with⟨ha',hb',_⟩|⟨ha',hb',_⟩
     ·have e2:=vT ha'
      omega
     ·omega
   ·rw[nM]at hd
    exact inside h1 (by rw[←h4];exact KR hmu) (by rw[←h2];exact hb1) hR' h1' hd (by rw[←h2'];exact hb2) (.inl (by rw[←h3];exact hmu))
  ·rw[sX]at hmu
   rcases split o' ob' ho' with⟨j',ob2',h1',h2',h3',h4',h5'⟩|⟨hR',hn',ob0',h1',rfl,h2'⟩
   ·exact inside h1' (by rw[←h4'];exact hd) (by rw[←h2'];exact hb2) hR h1 (KR hmu) (by rw[←h2];exact hb1) (.inr hmu)
   ·rw[nM]at hd
    exact hst.apart o o' ob0 ob0' b hne h1 h1' hmu hd (by rw[←h2];exact hb1) (by rw[←h2'];exact hb2)
 ·rcases split o ob ho with⟨j,ob2,h1,h2,h3,h4,h5⟩|⟨hR,hn,ob0,h1,rfl,h2⟩
  ·exact fun hm=>m.rep.out j ob2 b h1 (by rw[←h4];exact hd) (by rw[←h2];exact hb) (by rw[hm2];exact .inl hm)
  ·rw[nM]at hd
   exact hst.out o ob0 b h1 hd (by rw[←h2];exact hb)
 ·have hks:o∉xZ E st fx R:=fun h=>by
   obtain⟨_,⟨e,xs,h2⟩,_⟩:=H6.1 h
   rw[ho]at h2;cases h2;cases hlv
  exact(sameO o (bT ho) hks).at_
 ·by_cases hR:o∈R
  ·have hloc:=Jl (fx:=fx) hc hR ho
   obtain⟨ob',h1,t,hlv⟩:=m.stay.kind _ _ hloc
   refine⟨nc E (aR st o) (gN (back st.length R.length R) ob'),by rw[hat,if_pos hR,h1];rfl,?_,?_⟩
   ·cases ob with
    |box ro c=>cases t;rw[gN,Hu];exact .box _ _ _ _
    |dead=>cases t;show qQ _ (nc E _ .dead);rw[DN];exact .dead
    |arr l e xs=>
     obtain⟨l1,h2⟩:=AT (E:=E) (b:=c9 fx o) (ob:=gN (idx R) (.arr l e xs)) rfl
     rw[h2]at t
     cases t with
     |arr l0 l2 e xs xs'=>
      obtain⟨l',hl'⟩:=CL (E:=E) (o:=aR st o) (ob:=gN (back st.length R.length R) (.arr l2 e xs')) rfl
      rw[hl']
      exact .arr _ _ _ _ _
   ·intro hn
    cases ob with
    |box ro c=>cases t;rw[gN,Hu];rfl
    |dead=>cases t;show mc (nc E _ .dead)=false;rw[DN];rfl
    |arr l e xs=>
     have h2:vZ E (c9 fx o) (gN (idx R) (.arr l e xs))= .arr l e xs:=by
      cases l<;>first|rfl|cases hn
     rw[h2]at t hlv
     cases t with
     |arr l0 l2 e xs xs'=>
      have h3:=hlv hn
      rw[ho]
      cases l<;>cases l2<;>first|rfl|(cases h3;done)|(cases hn;done)
  ·exact⟨_,by rw[hat,if_neg hR,if_pos (bT ho),ho];rfl,B6 _ _,fun h=>by rw[B7];exact h⟩
end
end
open Go
noncomputable section
section
variable {P:Program} {E:Env} {w w' w'':World} {σ σ' σ'':Sg} {st st' st'':St E.T} {M:Nat→Prop}
variable {K:Act→World→Prop} {Q:Exit→Act→World→Prop} {a:Act} {fr fr1:Fr E.T}
theorem vW {a:Act} (hfr:cj E σ st w fr a) (kp:Kept (MB σ st) (MB σ' st') w w') (hs: ∀k∈jh E fr,ij σ σ' st st' k):cj E σ' st' w' fr a:=
 ⟨aW.aM kp hfr.s (fun k hk=>hs k (by unfold jh;exact List.mem_append_left _ hk)),fP.aM kp hfr.d (fun k hk=>hs k (by unfold jh;exact List.mem_append_right _ hk))⟩
theorem Gb (hst:br E σ st w) (ks:List Nat) {a:Act} (hfr:cj E σ st w fr a):cj E σ st w (iM E st ks fr) a:=
 ⟨aW.kill hst ks hfr.s,fP.kill hst ks hfr.d⟩
theorem Dk {a:Act} (hfr:cj E σ st w fr a): ∀k∈jh E fr,k<st.length:=by
 intro k hk
 unfold jh at hk
 rcases List.mem_append.1 hk with hk|hk
 ·exact aW.refs hfr.s k hk
 ·exact fP.refs hfr.d k hk
theorem Cp (ks:List Nat): ∀(ds:List (FuncId×List (az E.T))) (k:Nat),k∈(ds.map fun x=>(x.1,cY E st ks x.2)).flatMap (fun x=>bh x.2)→k∈ds.flatMap (fun x=>bh x.2)∧k∉ks
 |[],k,h=>by simp at h
 |d::ds,k,h=>by
  rw[List.map_cons,List.flatMap_cons]at h
  rw[List.flatMap_cons]
  rcases List.mem_append.1 h with h|h
  ·obtain⟨h1,h2⟩:=kr ks _ k h
   exact⟨List.mem_append_left _ h1,h2⟩
  ·obtain⟨h1,h2⟩:=Cp ks ds k h
   exact⟨List.mem_append_right _ h1,h2⟩
theorem Ea (ks:List Nat) {k:Nat} (h:k∈jh E (iM E st ks fr)):k∈jh E fr∧k∉ks:=by
 unfold jh iM at h
 rcases List.mem_append.1 h with h|h
 ·obtain⟨h1,h2⟩:=kr ks _ k h
  exact⟨by unfold jh;exact List.mem_append_left _ h1,h2⟩
 ·obtain⟨h1,h2⟩:=Cp ks _ k h
  exact⟨by unfold jh;exact List.mem_append_right _ h1,h2⟩
theorem Hi {bs l:List Nat} {k:Nat}:k∈l.filter (c9 bs)↔k∈l∧k∈bs:=by
 rw[List.mem_filter,ez]
theorem nK {bs l:List Nat} {k:Nat}:k∈(l.filter fun k=> !(c9 bs k))↔k∈l∧k∉bs:=by
 rw[List.mem_filter]
 constructor
 ·rintro⟨h1,h2⟩
  refine⟨h1,fun h=> ?_⟩
  rw[(ez bs k).2 h]at h2;cases h2
 ·rintro⟨h1,h2⟩
  refine⟨h1,?_⟩
  cases hb:c9 bs k with
  |true=>exact absurd ((ez bs k).1 hb) h2
  |false=>rfl
def Mm (K:Act→World→Prop) (Q:Exit→Act→World→Prop) (a:Act) (dst:Option Tmp):Ending→World→Prop
 | .returned v,w=>K (a.put dst v) w
 | .panicked chain,w=>Q (.panic chain) a w
 | .outgrown,_=>LetsOut Q
theorem du: ∀(ks:List Nat) (s:St E.T),cG E s (frozen E s ks)=freeze E s ks
 |[],s=>rfl
 |k::r,s=>by
  have key: ∀(s0 s1:St E.T) (ks:List Nat),(∀j,(∃l e xs,aR s0 j=some (.arr l e xs)∧ ∃l',aR s1 j=some (.arr l' e xs))∨aR s0 j=aR s1 j)→frozen E s0 ks=frozen E s1 ks:=by
   intro s0 s1 ks h
   induction ks with
   |nil=>rfl
   |cons k ks ih=>
    simp only[frozen]
    rcases h k with⟨l,e,xs,h1,l',h2⟩|h1
    ·rw[h1,h2,ih]
    ·rw[h1,ih]
  rw[freeze]
  cases hk:aR s k with
  |none=>
   simp only[frozen,hk]
   exact du r s
  |some ob=>
   cases ob with
   |arr l e xs=>
    simp only[frozen,hk,cG]
    rw[key s (dk s k (.arr .bc e xs)) r (fun j=> ?_)]
    ·exact du r _
    ·by_cases hj:j=k
     ·subst hj
      exact .inl ⟨l,e,xs,hk,.bc,by rw[bF,if_pos ⟨rfl,bT hk⟩]⟩
     ·exact .inr (by rw[bF,if_neg (fun h=>hj h.1.symm)])
   |box ro c=>
    simp only[frozen,hk]
    exact du r s
   |dead=>
    simp only[frozen,hk]
    exact du r s
theorem Ad: ∀(a b:List (Nat×Obj E.T)) (s:St E.T),cG E s (a++b)=cG E (cG E s a) b
 |[],b,s=>rfl
 |p::a,b,s=>by simp only[List.cons_append,cG];exact Ad a b _
theorem S6 {e:sB E.T} {a:Act} (hst:br E σ st w) (hfr:cj E σ st w fr a) (kp:Kept (MB σ st) (MB σ' st') w w') (hs: ∀k,k<st.length→k∉e.ks→ij σ σ' st st' k):cj E σ' st' w' (dB E st e.ks fr) a:=by
 rw[gB]
 refine vW (Gb hst e.ks hfr) kp (fun k hk=> ?_)
 obtain⟨h1,h2⟩:=Ea _ hk
 exact hs k (Dk hfr k h1) h2
theorem Kw {R:List Nat} {ds:List (az E.T)} (h:(bh ds).all (c9 R)=true): ∀k∈bh ds,k∈R:=by
 intro k hk
 rw[List.all_eq_true]at h
 exact(ez R k).1 (h k hk)
theorem GH (hst:br E σ st w) {f:FuncId} {F:List (az E.T)→St E.T→Tree (iT E.T×St E.T)} (hF:ub P E f F) {fx:List Nat} {ds:List (az E.T)} {us:List Value} (hds:aW E σ st w (MB σ st) ds us) {e:sB E.T}
  (h:(wG E st fx ds F).get=some e):Calls P f us.toArray w fun en w'=> ∃σ',Mf σ σ' st (dM E st e) w w'∧(∀k,k<st.length→k∉e.ks→ij σ σ' st (dM E st e) k)∧Bk E σ' (dM E st e) w' e.res en:=by
 unfold wG at h
 simp only at h
 generalize reach E st 1000 (bh ds) []=R at h
 obtain⟨hb,h⟩:=Tree.aO h
 rw[Bool.and_eq_true]at hb
 have hc:=zm hb.1
 have hr:=Kw hb.2
 obtain⟨p,hp,h⟩:=Tree.aA h
 cases h
 obtain⟨r,s2⟩:=p
 have hds':aW E (rU σ R (Le σ st R)) (gT E st fx R) w (MB (rU σ R (Le σ st R)) (gT E st fx R)) (J9 (idx R) ds) us:=
  aW.EA (Kept.weaken fun b hb=>Jm hc (fun b h=>EW h) hb) trivial hds (fun k hk=>xY hc (hr k hk))
 refine Calls.mono (hF (S4 hst hc) hds' hp) (fun en w' hb=> ?_)
 obtain⟨σ2,m,hres⟩:=hb
 obtain⟨m',hv,hsame⟩:=Rl hst hc m
 have hst': ∀{x:ud E.T},dM E st {res:=x,iO:=tf E st R (s2.map (gN (back st.length R.length R))),ks:=(tD E st R).filter (fun k=> !(c9 fx k)),news:=(s2.map (gN (back st.length R.length R))).drop R.length}=kM E st fx R s2:=by
  intro x
  unfold dM kM xZ
  rw[ra,oU]
 refine⟨_,by rw[hst'];exact m',fun k hk hks=>by rw[hst'];exact hsame k hk hks,?_⟩
 have:=vl hres
 rw[hst']
 cases hr:we E r with
 |val v=>
  rw[hr]at this
  cases en<;>first|exact this.elim|skip
  exact hv _ _ this
 |panic v=>
  rw[hr]at this
  cases en<;>first|exact this.elim|skip
  obtain⟨u,h1,h2⟩:=this
  exact⟨u,h1,hv _ _ h2⟩
theorem wF {f:FuncId} {us:List Value} {dst:Option Tmp} {e:sB E.T} (hst:br E σ st w) (hfr:cj E σ st w fr a) (hp:DJ E σ st w K Q a (cM E fr st dst e))
  (h:Calls P f us.toArray w fun en w'=> ∃σ',Mf σ σ' st (dM E st e) w w'∧(∀k,k<st.length→k∉e.ks→ij σ σ' st (dM E st e) k)∧Bk E σ' (dM E st e) w' e.res en):Calls P f us.toArray w (Mm K Q a dst):=by
 refine Calls.mono h (fun en w' hb=> ?_)
 obtain⟨σ',m,hs,hr⟩:=hb
 have:=R9 (dst:=dst) rfl m (S6 hst hfr m.aM.kept hs) hr hp
 cases en<;>exact this
theorem E3 {M:Nat→Prop} (hM: ∀b,M b→b<w.heap.size):br E {f:=σ.f,m:=M} ([]:St E.T) w:=
 ⟨fun o ob h=>by simp[dJ,cT,cU]at h,fun o o' ob ob' b _ h=>by simp[dJ,cT,cU]at h,hM,fun o ob b h=>by simp[dJ,cT,cU]at h⟩
theorem Bi {b:Nat}:MB σ ([]:St E.T) b↔σ.m b:=by
 constructor
 ·rintro(h|⟨o,ob,h,_⟩)
  ·exact h
  ·simp[dJ,cT,cU]at h
 ·exact .inl
theorem SG {d:az E.T} {u:Value} (h:a8 E σ' ([]:St E.T) w M d u) (hM: ∀b,MB σ st b→M b):a8 E σ st w (MB σ st) d u:=
 a8.aM (Kept.weaken hM) h (fun k hk=>absurd (a8.refs h k hk) (Nat.not_lt_zero k))
theorem R2 (HS:Sound P E) (hst:br E σ st w) {f:FuncId} {ps:List Ty} {F:List (az E.T)→Tree (iT E.T)} (hF:J4 P E f F) {vs ds:List (az E.T)} {us:List Value} (hvs:aW E σ st w (MB σ st) vs us)
  (hds:zW E st ps vs=some ds) {r:iT E.T} (hr:(F ds).get=some r) {e:sB E.T} (he:e={res:=we E r,iO:=(match live E st (bh vs)with|[]=>[]|ks=>bif vX E r then[]else frozen E st ks),ks:=[],news:=[]}):
  Calls P f us.toArray w fun en w'=> ∃σ',Mf σ σ' st (dM E st e) w w'∧(∀k,k<st.length→k∉e.ks→ij σ σ' st (dM E st e) k)∧Bk E σ' (dM E st e) w' e.res en:=by
 obtain⟨mf,_⟩:=fS (live E st (bh vs)) hst
 have heff: ∀(iO:List (Nat×Obj E.T)),dM E st {res:=we E r,iO:=iO,ks:=[],news:=[]}=cG E st iO:=fun iO=>rfl
 have frozenCase:e={res:=we E r,iO:=frozen E st (live E st (bh vs)),ks:=[],news:=[]}→Calls P f us.toArray w fun en w'=> ∃σ',Mf σ σ' st (dM E st e) w w'∧(∀k,k<st.length→k∉e.ks→ij σ σ' st (dM E st e) k)∧Bk E σ' (dM E st e) w' e.res en:=by
  intro he
  subst he
  rw[heff,du]
  have hM: ∀b,MB σ (freeze E st (live E st (bh vs))) b→MB σ st b:=fun b hb=>mf.aM.may b (Eu mf.rep hb) hb
  have hd:=Gz HS.todq hst hM {f:=σ.f,m:=MB σ (freeze E st (live E st (bh vs)))} [] ps hds hvs (fun k hk l e xs b hh hb=>y9 hst hk hh hb)
  have ha:=E3 (E:=E) (σ:=σ) (w:=w) (M:=MB σ (freeze E st (live E st (bh vs)))) (fun b hb=>Eu mf.rep hb)
  refine Calls.mono (hF ha (aW.aM (Kept.weaken fun b hb=>Bi.1 hb) hd (fun k hk=>ij.refl k)) hr) (fun en w' hb=> ?_)
  obtain⟨σ',m,hres⟩:=hb
  have hsame: ∀b,b<w.heap.size→w'.heap[b]? =w.heap[b]? :=by
   intro b hb
   by_cases hm:MB σ (freeze E st (live E st (bh vs))) b
   ·exact m.qC.gm b hm
   ·exact m.aM.block b hb (fun h=>hm (Bi.1 h))
  have mv:Mv σ σ (freeze E st (live E st (bh vs))) (freeze E st (live E st (bh vs))) w w':=Mv.still mf.rep m.aM.os m.aM.tape m.aM.output m.aM.size hsame
  have m2:=mf.trans mv
  have:=vl (qp.map (σ':=σ) (st':=freeze E st (live E st (bh vs))) (w':=w') hres (fun d u hv=>SG hv (fun b hb=> .inl (by rw[m.qC.m];exact hb))))
  exact⟨σ,m2.f,fun k hk _=>m2.same k hk,this⟩
 by_cases hk:live E st (bh vs)=[]
 ·refine frozenCase ?_
  rw[he,hk]
  rfl
 ·have he':e={res:=we E r,iO:=bif vX E r then[]else frozen E st (live E st (bh vs)),ks:=[],news:=[]}:=by
   rw[he]
   cases hl:live E st (bh vs)with
   |nil=>exact absurd hl hk
   |cons k ks=>rfl
  cases hfl:vX E r with
  |false=>rw[hfl]at he';exact frozenCase he'
  |true=>
   rw[hfl]at he'
   subst he'
   rw[heff]
   simp only[cond_true,cG]
   have hd:=Gz (M:=fun _=>False) HS.todq hst (fun b hb=>hb.elim) {f:=σ.f,m:=fun _=>False} [] ps hds hvs (fun k hk l e xs b hh hb h=>h)
   have ha:=E3 (E:=E) (σ:=σ) (w:=w) (M:=fun _=>False) (fun b hb=>hb.elim)
   refine Calls.mono (hF ha (aW.aM (Kept.weaken fun b hb=>Bi.1 hb) hd (fun k hk=>ij.refl k)) hr) (fun en w' hb=> ?_)
   obtain⟨σ',m,hres⟩:=hb
   have mv:Mv σ σ st st w w':=Mv.still hst m.aM.os m.aM.tape m.aM.output m.aM.size (fun b hb=>m.aM.block b hb (fun h=>Bi.1 h))
   exact⟨σ,mv.f,fun k hk _=>mv.same k hk,vl (qp.flat hfl hres)⟩
theorem Qa (hst:br E σ st w) {f:FuncId} {F:List (az E.T)→St E.T→Tree (iT E.T×St E.T)} (hF:ub P E f F) {ds:List (az E.T)} {us:List Value} (hds:aW E σ st w σ.m ds us) {e:sB E.T}
  (h:(DE E st ds F).get=some e):Calls P f us.toArray w fun en w'=> ∃σ',Mf σ σ' st (dM E st e) w w'∧(∀k,k<st.length→k∉e.ks→ij σ σ' st (dM E st e) k)∧Bk E σ' (dM E st e) w' e.res en:=by
 unfold DE at h
 simp only at h
 generalize reach E st 1000 (bh ds) []=R at h
 obtain⟨hb,h⟩:=Tree.aO h
 rw[Bool.and_eq_true]at hb
 have hc:=zm hb.1
 have hr:=Kw hb.2
 obtain⟨p,hp,h⟩:=Tree.aA h
 obtain⟨hfl,h⟩:=Tree.aO h
 cases h
 obtain⟨r,s2⟩:=p
 have hrep:=Jk (fx:=[]) hst hc (m:=σ.m) (fun b h=> .inl h) hst.qC (fun k hk ob b h1 h2 h3=>hst.out k ob b h1 h2 h3)
 have hd1:aW E (rU σ R σ.m) (gT E st [] R) w σ.m (J9 (idx R) ds) us:=aW.EA (Kept.weaken fun b hb=>hb) trivial hds (fun k hk=>xY hc (hr k hk))
 have hd2:aW E (rU σ R σ.m) (lock E (gT E st [] R)) w (MB (rU σ R σ.m) (lock E (gT E st [] R))) (J9 (idx R) ds) us:=aW.aM (Kept.weaken fun b hb=>Jj hb) hd1 (fun k _=>H5 k)
 refine Calls.mono (hF (Rk hrep) hd2 hp) (fun en w' hb=> ?_)
 obtain⟨σ',m,hres⟩:=hb
 have hsame: ∀b,b<w.heap.size→w'.heap[b]? =w.heap[b]? :=by
  intro b hb
  by_cases hm:σ.m b
  ·exact m.qC.gm b hm
  ·exact m.aM.block b hb (fun h=>hm (Jj (σ:=rU σ R σ.m) h))
 have mv:Mv σ σ st st w w':=Mv.still hst m.aM.os m.aM.tape m.aM.output m.aM.size hsame
 exact⟨σ,mv.f,fun k hk _=>mv.same k hk,vl (qp.flat hfl hres)⟩
def DI (s s':St E.T):Prop:= ∀j,(∃l e xs,aR s j=some (.arr l e xs)∧ ∃l' xs',aR s' j=some (.arr l' e xs'))∨aR s j=aR s' j
mutual
theorem FZ {s s':St E.T} (h:DI s s') (ks:List Nat): ∀(d:az E.T),kill E s ks d=kill E s' ks d
 | .own k=>by
  unfold kill
  rcases h k with⟨l,e,xs,h1,l',xs',h2⟩|h1
  ·rw[h1,h2]
  ·rw[h1]
 | .ptr o p=>by unfold kill;rfl
 | .agg i fs=>by unfold kill;rw[qX h ks fs]
 | .jo fs=>by unfold kill;rw[qX h ks fs]
 | .fn f fs=>by unfold kill;rw[qX h ks fs]
 | .fD t v=>by unfold kill;rw[FZ h ks v]
 | .val t x=>by unfold kill;rfl
 | .bm=>by unfold kill;rfl
 | .cQ=>by unfold kill;rfl
 | .eg t x=>by unfold kill;rfl
 | .ei=>by unfold kill;rfl
 | .ct=>by unfold kill;rfl
 | .dD e=>by unfold kill;rfl
 | .undef=>by unfold kill;rfl
theorem qX {s s':St E.T} (h:DI s s') (ks:List Nat): ∀(ds:List (az E.T)),cY E s ks ds=cY E s' ks ds
 |[]=>by unfold cY;rfl
 |d::r=>by unfold cY;rw[FZ h ks d,qX h ks r]
end
theorem K7 {s s':St E.T} {ks:List Nat} (h:DI s s') (ob:Obj E.T):bW E s ks ob=bW E s' ks ob:=by
 cases ob<;>simp[bW,FZ h]
theorem M6 {s s':St E.T} {ks:List Nat} (h:DI s s'):iM E s ks fr=iM E s' ks fr:=by
 unfold iM
 rw[qX h]
 have:(fun x:FuncId×List (az E.T)=>(x.1,cY E s ks x.2))=(fun x=>(x.1,cY E s' ks x.2)):=funext fun x=>by rw[qX h]
 rw[this]
theorem Ik: ∀(ks:List Nat) {s:St E.T},DI s (freeze E s ks)
 |[],s=>fun j=> .inr rfl
 |k::r,s=>by
  intro j
  rw[freeze]
  have ih:=fun s=>Ik r (s:=s) j
  cases hk:aR s k with
  |none=>exact ih s
  |some ob=>
   cases ob with
   |box ro c=>exact ih s
   |dead=>exact ih s
   |arr l e xs=>
    simp only
    have hj:(∃l e xs,aR s j=some (.arr l e xs)∧aR (dk s k (.arr .bc e xs)) j=some (.arr .bc e xs))∨aR s j=aR (dk s k (.arr .bc e xs)) j:=by
     by_cases hj:k=j
     ·subst hj;exact .inl ⟨l,e,xs,hk,by rw[bF,if_pos ⟨rfl,bT hk⟩]⟩
     ·exact .inr (by rw[bF,if_neg (fun h=>hj h.1)])
    rcases hj with⟨l2,e2,xs2,h1,h2⟩|h1
    ·rcases ih (dk s k (.arr .bc e xs))with⟨l0,e0,xs0,h3,l1,xs1,h4⟩|h3
     ·by_cases hjk:k=j
      ·subst hjk
       rw[bF,if_pos ⟨rfl,bT hk⟩]at h3;cases h3
       exact .inl ⟨_,_,_,hk,_,_,h4⟩
      ·rw[bF,if_neg (fun h=>hjk h.1)]at h3
       exact .inl ⟨_,_,_,h3,_,_,h4⟩
     ·by_cases hjk:k=j
      ·subst hjk
       rw[bF,if_pos ⟨rfl,bT hk⟩]at h3
       exact .inl ⟨_,_,_,hk,_,_,h3.symm⟩
      ·rw[bF,if_neg (fun h=>hjk h.1)]at h3
       exact .inr h3
    ·rcases ih (dk s k (.arr .bc e xs))with⟨l0,e0,xs0,h3,l1,xs1,h4⟩|h3
     ·rw[←h1]at h3
      exact .inl ⟨_,_,_,h3,_,_,h4⟩
     ·exact .inr (h1.trans h3)
theorem rS {s1:St E.T} {ks:List Nat} (s0:St E.T): ∀(L:List Nat) (s:St E.T),cG E (s.map (bW E s1 ks)) (frozen E s0 L)=(cG E s (frozen E s0 L)).map (bW E s1 ks)
 |[],s=>rfl
 |k::r,s=>by
  simp only[frozen]
  cases hk:aR s0 k with
  |none=>exact rS s0 r s
  |some ob=>
   cases ob with
   |box ro c=>exact rS s0 r s
   |dead=>exact rS s0 r s
   |arr l e xs=>
    simp only[cG]
    rw[←rS s0 r,EU]
    rfl
theorem GG (HS:Sound P E) {S:FuncId→Option (Spec E)} (hS: ∀f s,S f=some s→oc P E f s):mN P E S:=by
 intro hst hfr ho h hp
 rename_i σ st w fr a K Q o f args ats fx e
 have hargs:=yx hfr args.toList
 have hf:=bY hfr f
 unfold Bb at h
 split at h
 ·rename_i g cap hq
  rw[hq]at hf
  generalize hu:a.eval f=u at hf
  cases hf with
  |data t d cs hv=>cases hv
  |fn g cap cus hcap=>
   have hwp: ∀(us:List Value),us=args.toList.map a.eval++cus→Enters P g→Calls P g us.toArray w (Mm K Q a o.dst)→o.wp P a w K Q:=by
    intro us hus hent hc
    unfold Oper.wp
    have hrun:(execOp a.eval o).run P w= .ok (.enter g us.toArray) w:=by
     unfold execOp
     simp only[ho,resolve,hu,Deferred.ofValue,Sem.run_bind,Sem.run_pure,Result.andThen_ok,invoke]
     rw[show((#[]:Array Value)++args.map a.eval++cus.toArray)=us.toArray by rw[hus,lW];simp]
     exact hent us.toArray w
    rw[hrun]
    exact Calls.mono hc (fun e w' hh=>by cases e<;>exact hh)
   have hvs:=aW.append hargs hcap
   generalize hus:args.toList.map a.eval++cus=us at hvs
   generalize hvs':args.toList.map (cd E fr)++cap=vs at h hvs
   split at h
   ·rename_i ps F hs
    obtain⟨hent,hF⟩:=hS g _ hs
    split at h
    ·rename_i ds hds
     obtain⟨r,hr,h⟩:=Tree.aA h
     exact hwp us hus.symm hent (wF hst hfr hp (R2 HS hst hF hvs hds hr (Option.some.inj h).symm))
    ·cases h
   ·rename_i ps flat F hs
    obtain⟨hent,hF⟩:=hS g _ hs
    split at h
    ·rename_i ds hds
     split at h
     ·
      have hd:=uL HS.todq hst (M:=σ.m) (fun b hb=> .inl hb) ps hds hvs (fun k hk l e xs b hh hb=>hst.out k _ b hh rfl hb)
      exact hwp us hus.symm hent (wF hst hfr hp (Qa hst hF hd h))
     ·split at h
      ·rename_i hl
       have hd:=uL HS.todq hst (fun b hb=>hb) ps hds hvs (fun k hk l e xs b hh hb=>by
        have:=y9 hst hk hh hb
        rw[hl]at this
        exact this)
       exact hwp us hus.symm hent (wF hst hfr hp (GH hst hF hd h))
      ·rename_i ks hl
       obtain⟨e1,h1,h2⟩:=Tree.aA h
       cases h2
       rw[du]at h1
       obtain⟨mf,_⟩:=fS (live E st (cI E st ps vs)) hst
       have hM: ∀b,MB σ (freeze E st (live E st (cI E st ps vs))) b→MB σ st b:=fun b hb=>mf.aM.may b (Eu mf.rep hb) hb
       have hd:=uL HS.todq hst hM ps hds hvs (fun k hk l e xs b hh hb=>y9 hst hk hh hb)
       have hd':aW E σ (freeze E st (live E st (cI E st ps vs))) w (MB σ (freeze E st (live E st (cI E st ps vs)))) ds us:=aW.aM (Kept.refl') hd (fun k hk=>mf.same k (aW.refs hd k hk))
       have hc:=GH mf.rep hF hd' h1
       have hfz:DI st (freeze E st (live E st (cI E st ps vs))):=Ik _
       have heff:dM E st {e1 with iO:=frozen E st (live E st (cI E st ps vs))++e1.iO}=dM E (freeze E st (live E st (cI E st ps vs))) e1:=by
        unfold dM
        simp only[Ad]
        rw[oU,oU,funext (fun ob=>K7 (ks:=e1.ks) hfz ob),rS,du]
       have hfrk:dB E st e1.ks fr=dB E (freeze E st (live E st (cI E st ps vs))) e1.ks fr:=by
        rw[gB,gB]
        exact M6 hfz
       refine hwp us hus.symm hent (wF (e:=e1) mf.rep (hfr.mv mf) ?_ hc)
       have hap:cM E fr st o.dst {e1 with iO:=frozen E st (live E st (cI E st ps vs))++e1.iO}=cM E fr (freeze E st (live E st (cI E st ps vs))) o.dst e1:=by
        unfold cM
        simp only[heff,hfrk]
       rw[hap]at hp
       generalize cM E fr (freeze E st (live E st (cI E st ps vs))) o.dst e1=out at hp⊢
       cases out with
       |next fr' st'=>exact fun σ' w' a' m hfr'=>hp σ' w' a' (mf.f.trans m) hfr'
       |panic v fr' st'=>exact fun σ' w' u m hfr' hv=>hp σ' w' u (mf.f.trans m) hfr' hv
    ·cases h
   ·cases h
 ·cases h
where
 Kept.refl' {M:Nat→Prop} {w:World}:Kept M M w w:=Kept.weaken fun _ h=>h
end
end
open Go
noncomputable section
section
variable {P:Program} {E:Env} {w w' w'':World} {σ σ' σ'':Sg} {st st' st'':St E.T} {M:Nat→Prop}
variable {K:Act→World→Prop} {Q:Exit→Act→World→Prop} {a:Act} {fr fr1:Fr E.T}
def GX (E:Env) (σ:Sg) (st:St E.T) (w:World) (Q:Exit→Act→World→Prop):oA E→Prop
 | .done fr' st'=> ∀σ' w' a',Mf σ σ' st st' w w'→cj E σ' st' w' fr' a'→Q .normal a' w'
 | .panic v fr' st'=> ∀σ' w' a' u,Mf σ σ' st st' w w'→cj E σ' st' w' fr' a'→a8 E σ' st' w' (MB σ' st') v u→Q (.panic [{v:=u,recovered:=false}]) a' w'
theorem GX.later {out:oA E} (m:Mf σ σ' st st' w w') (h:GX E σ st w Q out):GX E σ' st' w' Q out:=by
 cases out with
 |done fr' st'=>exact fun σ'' w'' a' m'=>h σ'' w'' a' (m.trans m')
 |panic v fr' st'=>exact fun σ'' w'' a' u m'=>h σ'' w'' a' u (m.trans m')
theorem Hz {l:List (az E.T)} {t:Nat} {b:Bool} (h:nth l t .undef= .val .bool b):dk l t (.val .bool b)=l:=by
 induction l generalizing t with
 |nil=>rfl
 |cons x r ih=>
  cases t with
  |zero=>simp only[fg,dZ,ed]at h;subst h;rfl
  |succ t=>simp only[fg,dZ,ed]at h;simp only[jJ,gF,gG];rw[ih h]
theorem rO {α:Type} {t:Tmp} {yes no:Fr E.T→Tree α} {r:α} (h:(Ar E fr t yes no).get=some r):
  ∃b,nth fr.s t .undef= .val .bool b∧((b=true∧(yes fr).get=some r)∨(b=false∧(no fr).get=some r)):=by
 unfold Ar at h
 split at h
 ·rename_i b hb
  refine⟨b,hb,?_⟩
  cases b with
  |true=>
   simp only[Tree.get,cond_true]at h
   rw[Hz hb]at h
   exact .inl ⟨rfl,h⟩
  |false=>
   simp only[Tree.get,cond_false]at h
   rw[Hz hb]at h
   exact .inr ⟨rfl,h⟩
 ·cases h
theorem CO (hfr:cj E σ st w fr a) {t:Nat} {b:Bool} (h:nth fr.s t .undef= .val .bool b):a.tmps[t]? =some (.bool b):=by
 have hv:=bY hfr (.tmp t)
 simp only[cd]at hv
 rw[h]at hv
 have:=zn hv
 simp only[Act.eval]at this
 rw[Array.getD_eq_getD_getElem?]at this
 cases hq:a.tmps[t]? with
 |none=>rw[hq]at this;cases this
 |some v=>rw[hq]at this;simp at this;rw[this]
theorem HA {ops:Array Oper} (hfr:cj E σ st w fr a) {j t:Nat} (ht:pM ops.toList j=some t) (h:nth fr.s t .undef= .jo []):yielded ops a.tmps j=none:=by
 have hv:=bY hfr (.tmp t)
 simp only[cd]at hv
 rw[h]at hv
 unfold pM at ht
 split at ht
 ·rename_i oj hj
  rw[cX,Array.getElem?_toList]at hj
  unfold yielded
  rw[hj]
  simp only[Option.bind_some,ht]
  cases hq:a.tmps[t]? with
  |none=>rfl
  |some u=>
   have he:a.eval (.tmp t)=u:=by
    simp only[Act.eval]
    rw[Array.getD_eq_getD_getElem?,hq];rfl
   rw[he]at hv
   cases hv with
   |data _ _ _ h'=>cases h'
   |jo _ _ h'=>cases h';rfl
 ·cases ht
theorem Ry {ops:Array Oper} {o:Oper} (hfr:cj E σ st w fr a) {α:Type} {go pass:Fr E.T→Tree α} {r:α}
  (h:(guarded E ops.toList o.guard fr go pass).get=some r):
  (Region.wanted o (yielded ops a.tmps)=true∧(go fr).get=some r)∨(Region.wanted o (yielded ops a.tmps)=false∧(pass fr).get=some r):=by
 unfold Region.wanted
 unfold guarded at h
 split at h
 ·rename_i hg;rw[hg];exact .inl ⟨rfl,h⟩
 ·rename_i j b hg
  rw[hg]
  split at h
  ·rename_i t ht
   have hy: ∀{c:Bool},nth fr.s t .undef= .val .bool c→yielded ops a.tmps j=some c:=by
    intro c hc
    have hs:=CO hfr hc
    unfold pM at ht
    split at ht
    ·rename_i oj hj
     rw[cX,Array.getElem?_toList]at hj
     unfold yielded
     rw[hj]
     simp only[Option.bind_some,ht,hs]
    ·cases ht
   split at h
   ·rename_i hn
    exact .inr ⟨by show(yielded ops a.tmps j==some b)=false;rw[HA hfr ht hn];rfl,h⟩
   ·cases b with
    |true=>
     obtain⟨c,hc,hor⟩:=rO h
     have hyc:=hy hc
     rcases hor with⟨rfl,h⟩|⟨rfl,h⟩
     ·exact .inl ⟨by simp[hyc],h⟩
     ·exact .inr ⟨by simp[hyc],h⟩
    |false=>
     obtain⟨c,hc,hor⟩:=rO h
     have hyc:=hy hc
     rcases hor with⟨rfl,h⟩|⟨rfl,h⟩
     ·exact .inr ⟨by simp[hyc],h⟩
     ·exact .inl ⟨by simp[hyc],h⟩
  ·cases h
theorem RF (HS:Sound P E) {S:FuncId→Option (Spec E)} (HC:mN P E S) {b:Bool} {o:Oper} {K:Act→World→Prop} {fr:Fr E.T} {st:St E.T} {a:Act} {w:World} {σ:Sg} {out:wR E} (hst:br E σ st w) (hfr:cj E σ st w fr a)
  (h:(bif b then Ns E fr st o else pR E S false fr st o).get=some out) (hp:DJ E σ st w K Q a out):o.wp P a w K Q:=by
 cases b with
 |false=>exact Dt HS HC hst hfr h hp
 |true=>
  obtain⟨dst,op,type,pos,aft,guard⟩:=o
  simp only[cond_true,Ns]at h
  split at h
  ·rename_i t n ps
   obtain⟨v,hv,h⟩:=Tree.aA h
   split at h
   ·cases h
    exact nG hfr (JN HS hst (oZ hfr ps.toList) hv) (by rw[←lW];rfl) hp
   ·cases h
  ·cases h
theorem EZ (HS:Sound P E) {S:FuncId→Option (Spec E)} (HC:mN P E S) {ops:Array Oper}: ∀(l:List Oper) (i:Nat) {fr:Fr E.T} {st:St E.T} {a:Act} {w:World} {σ:Sg} {out:oA E},ops.toList.drop i=l→
  br E σ st w→cj E σ st w fr a→(Nr E S ops.toList l fr st).get=some out→GX E σ st w Q out→wpOps P ops Q (List.range' i l.length) a w
 |[],i,fr,st,a,w,σ,out,hl,hst,hfr,h,hp=>by
  cases h
  exact hp σ w a (Mf.refl hst) hfr
 |o::r,i,fr,st,a,w,σ,out,hl,hst,hfr,h,hp=>by
  have hi:ops[i]? =some o:=by
   rw[←Array.getElem?_toList]
   have:=congrArg (·[0]?) hl
   simpa [List.getElem?_drop]using this
  have hr:ops.toList.drop (i+1)=r:=by
   have:=congrArg (List.drop 1) hl
   simpa [List.drop_drop,Nat.add_comm]using this
  rw[List.length_cons,List.range'_succ]
  simp only[wpOps,hi]
  simp only[Nr]at h
  rcases Ry hfr h with⟨hw,h1⟩|⟨hw,h1⟩
  ·rw[if_pos hw]
   left
   obtain⟨oo,ho,h2⟩:=Tree.aA h1
   refine RF HS HC hst hfr ho ?_
   cases oo with
   |next fr' st'=>
    intro σ' w' a' m hfr'
    exact EZ HS HC r (i+1) hr m.rep hfr' h2 (hp.later m)
   |panic v fr' st'=>
    cases h2
    intro σ' w' u m hfr' hv
    exact hp σ' w' a u m hfr' hv
  ·rw[if_neg (by rw[hw];simp)]
   exact EZ HS HC r (i+1) hr hst (fm hfr o.dst (.jo [] [] .nil)) h1 hp
theorem Pc (HS:Sound P E) {S:FuncId→Option (Spec E)} (HC:mN P E S) {id:Nat} {ops:Array Oper} {out:oA E} (hst:br E σ st w) (hfr:cj E σ st w fr a)
  (h:(Nr E S ops.toList ops.toList fr st).get=some out) (hp:GX E σ st w Q out):(Code.region id ops false).wp P Q a w:=by
 refine wp_region ?_
 have:=EZ (Q:=Q) HS HC (ops:=ops) ops.toList 0 rfl hst hfr h hp
 rwa [Array.length_toList,←List.range_eq_range']at this
end
end
end Go.Proofs.YtlejgahbbfeagaaGreatDoor.D

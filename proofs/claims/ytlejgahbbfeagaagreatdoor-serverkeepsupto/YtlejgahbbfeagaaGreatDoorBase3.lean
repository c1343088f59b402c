/- Append onto a row of one's own: who named it by its old name names it no more. Append onto a row of one's own. One operation, in the machine and in the evaluator. One operation, in the machine and in the evaluator: all but calls. Rows that are written no more; values told anew: rows that are data, records that are joined. One operation: each that is no call. Calls: what is handed over, what comes back. Calls: rows that the callee does not see, rows that it may look at only. Calls: what a callee sees, under names of its own. Calls. Regions in the order of the text. -/
import Derived.Test.YtlejgahbbfeagaaGreatDoorBase2
set_option linter.unusedVariables false
set_option linter.unusedSimpArgs false
namespace Go.Proofs.YtlejgahbbfeagaaGreatDoor.D
open Go
section
variable {P:Program} {E:Env} {w w':World} {σ σ':Sg} {st st':St E.T} {M:Nat→Prop}
theorem dx {α β:Type} (f:α→β) (l:List α) (m:Nat):aR (l.map f) m=(aR l m).map f:=by simp[cT]
theorem ss (ks:List Nat) (ob:Obj E.T):dn (bT E st ks ob)=dn ob:=by cases ob<;>rfl
theorem nD (ks:List Nat) (ob:Obj E.T):dz (bT E st ks ob)=dz ob:=by cases ob<;>rfl
theorem BD (ks:List Nat) (ob:Obj E.T):mb (bT E st ks ob)=mb ob:=by cases ob<;>rfl
theorem BC (ks:List Nat) (ob:Obj E.T):qy ob (bT E st ks ob):=by cases ob<;>constructor
theorem Of (ks:List Nat) {d:az E.T} (h:D0 E d=true):D0 E (kill E st ks d)=true:=by
 cases d<;>first|(cases h;done)|(unfold kill;exact h)|skip
 rename_i o p
 unfold kill
 cases cX ks o<;>rfl
theorem cW.kill (hst:bm E σ st w) (ks:List Nat) {v:Value} {ob:Obj E.T} (h:cW E σ st w M v ob):cW E σ st w M v (bT E st ks ob):=by
 cases h with
 |box ro d b c el fr hh hf hc=>
  refine .box ro _ b c el fr hh hf ?_
  rcases hc with⟨t,ht⟩|⟨hs,u,hu,ho,hv⟩
  ·exact .inl ⟨t,VT.kill hst ks ht⟩
  ·exact .inr ⟨Of ks hs,u,hu,ho,aZ.kill hst ks hv⟩
 |arr l e xs v h=>exact .arr l e xs v h
 |dead v=>exact .dead v
theorem PV (ks:List Nat) (k:Nat):ib σ σ st (st.map (bT E st ks)) k:=
 ⟨rfl,fun l e xs h=>⟨l,xs,by rw[dx,h];rfl⟩,fun h=>by simpa using h⟩
theorem NN (ks:List Nat) {b:Nat} (h:MB σ (st.map (bT E st ks)) b):MB σ st b:=by
 rcases h with h|⟨o,ob,ho,hm,hb⟩
 ·exact .inl h
 right
 rw[dx]at ho
 obtain⟨ob0,h0,rfl⟩:=Option.map_eq_some_iff.1 ho
 exact⟨o,ob0,h0,by rwa [ss]at hm,hb⟩
theorem Mv.kill (hst:bm E σ st w) (ks:List Nat):Mv σ σ st (st.map (bT E st ks)) w w:=by
 refine Mv.mk' hst ⟨rfl,rfl,rfl,Nat.le_refl _,fun _ _ _=>rfl,fun b _ h=>NN ks h⟩ ⟨fun _ _ _ _=>rfl,fun p q hp=>⟨_,by rw[dx,hp];rfl,BC ks q,fun h=>by rw[BD];exact h⟩⟩ ⟨rfl,fun _ _=>rfl⟩ (fun _ _=>rfl) (fun p q b hp hd hb=> ?_) (fun p q hp=> ?_) ?_
 ·rw[dx]at hp
  obtain⟨q0,h0,rfl⟩:=Option.map_eq_some_iff.1 hp
  rw[nD]at hd
  exact hst.out p q0 b h0 hd hb
 ·rw[dx]at hp
  obtain⟨q0,h0,rfl⟩:=Option.map_eq_some_iff.1 hp
  exact .inr (cW.aH (Kept.weaken fun b h=>NN ks h) (fun _ _=>rfl) (fun k _=>PV ks k) (cW.kill hst ks (hst.obj p q0 h0)))
 ·intro p q ob1 ob2 b hne hp hq hmu hd hb1 hb2
  rw[dx]at hp hq
  obtain⟨p0,h1,rfl⟩:=Option.map_eq_some_iff.1 hp
  obtain⟨q0,h2,rfl⟩:=Option.map_eq_some_iff.1 hq
  rw[ss]at hmu
  rw[nD]at hd
  exact hst.apart p q p0 q0 b hne h1 h2 hmu hd hb1 hb2
structure Gs {E:Env} (ks:List Nat) (σ σ':Sg) (st st':St E.T) (w w':World):Prop where
 rep:bm E σ' st' w'
 aH:wC (MB σ st) (MB σ' st') w w'
 stay:yv σ σ' st st'
 qh:Pv σ σ' w w'
 name: ∀k,k<st.length→k∉ks→σ' k=σ k
theorem Mv.x {ks:List Nat} (h:Mv (E:=E) σ σ' st st' w w'):Gs ks σ σ' st st' w w':=⟨h.rep,h.aH,h.stay,h.qh,fun k hk _=>h.name k hk⟩
theorem Gs.trans {ks:List Nat} {σ'':Sg} {st'':St E.T} {w'':World} (h:Gs (E:=E) ks σ σ' st st' w w') (k:Gs ks σ' σ'' st' st'' w' w''):Gs ks σ σ'' st st'' w w'':=
 ⟨k.rep,h.aH.trans k.aH,h.stay.trans k.stay,h.qh.trans k.qh,fun o ho hn=>(k.name o (Nat.lt_of_lt_of_le ho h.stay.len) hn).trans (h.name o ho hn)⟩
theorem Gs.same {ks:List Nat} (h:Gs (E:=E) ks σ σ' st st' w w') (k:Nat) (hk:k<st.length) (hn:k∉ks):ib σ σ' st st' k:=by
 refine⟨h.name k hk hn,fun l e xs hh=> ?_,fun _=>Nat.lt_of_lt_of_le hk h.stay.len⟩
 obtain⟨ob',h',t',_⟩:=h.stay.kind k _ hh
 cases t' with
 |arr l l' e xs xs'=>exact⟨l',xs',h'⟩
theorem Gs.Yi {ks:List Nat} (h:Gs (E:=E) ks σ σ' st st' w w') (hst:bm E σ st w) {d:az E.T} {v:Value} (hv:aZ E σ st w (MB σ st) d v):aZ E σ' st' w' (MB σ' st') (D.kill E st ks d) v:=by
 have hk:=aZ.kill hst ks hv
 exact aZ.aH h.aH.kept hk fun k hk'=>h.same k (aZ.refs hk k hk') (qA ks d k hk').2
theorem Gs.Jy {ks:List Nat} (h:Gs (E:=E) ks σ σ' st st' w w') (hst:bm E σ st w) {ds:List (az E.T)} {vs:List Value} (hv:aW E σ st w (MB σ st) ds vs):aW E σ' st' w' (MB σ' st') (cU E st ks ds) vs:=by
 have hk:=aW.kill hst ks hv
 exact aW.aH h.aH.kept hk fun k hk'=>h.same k (aW.refs hk k hk') (kn ks ds k hk').2
theorem Vv {o:Nat} {y:Value} {ob ob':Obj E.T} (ho:aR st o=some ob) (hm:dn ob=true) {b:Nat} (h:MB (dL σ o y) (df st o ob') b):MB σ st b∨lf y=some b:=by
 rcases h with h|⟨p,q,hp,hq,hb⟩
 ·exact .inl (.inl h)
 rw[bE]at hp
 by_cases hpo:p=o
 ·subst hpo
  rw[dD]at hb
  exact .inr hb
 ·rw[dC hpo]at hb
  rw[if_neg (fun h=>hpo h.1.symm)]at hp
  exact .inl (.inr ⟨p,q,hp,hq,hb⟩)
theorem Gs.swap (hst:bm E σ st w) {o:Nat} {e:Ty} {xs xs':List (I E.T e)} (ho:aR st o=some (.arr .live e xs)) (hno: ∀p ob,aR st p=some ob→o∉cd E ob) (y:Value)
  (h1:w'.os=w.os) (h2:w'.tape=w.tape) (h3:w'.output=w.output) (h4:w.heap.size≤w'.heap.size) (h5: ∀b,b<w.heap.size→lf (σ o)≠some b→w'.heap[b]? =w.heap[b]?)
  (hy: ∀b,lf y=some b→w.heap.size≤b∨lf (σ o)=some b)
  (hob:Kept (MB σ st) (MB (dL σ o y) (df st o (.arr .live e xs'))) w w'→gy E w' (MB (dL σ o y) (df st o (.arr .live e xs'))) e xs' y):
  Gs [o] σ (dL σ o y) st (df st o (.arr .live e xs')) w w':=by
 have hlt:=bM ho
 have hmay: ∀b,b<w.heap.size→MB (dL σ o y) (df st o (.arr .live e xs')) b→MB σ st b:=by
  intro b hb h
  rcases Vv ho rfl h with h|h
  ·exact h
  ·rcases hy b h with h|h
   ·omega
   ·exact .inr ⟨o,_,ho,rfl,h⟩
 have hblock: ∀b,b<w.heap.size→ ¬MB σ st b→w'.heap[b]? =w.heap[b]? :=fun b hb hM=>h5 b hb (fun h=>hM (.inr ⟨o,_,ho,rfl,h⟩))
 have hkept:Kept (MB σ st) (MB (dL σ o y) (df st o (.arr .live e xs'))) w w':=⟨h4,hblock,hmay⟩
 have hsame: ∀k,k≠o→ib σ (dL σ o y) st (df st o (.arr .live e xs')) k:=by
  intro k hk
  refine⟨dC hk,fun l e' zs h=>⟨l,zs,?_⟩,fun h=>by rw[dH];exact h⟩
  rw[bE,if_neg (fun h=>hk h.1.symm)];exact h
 refine⟨⟨fun p q hp=> ?_,?_,fun b hb=>Nat.lt_of_lt_of_le (hst.qh b hb) h4,fun p q b hp hd hb=> ?_⟩,⟨h1,h2,h3,h4,hblock,hmay⟩,⟨fun p q hp hl=> ?_,fun p q hp=> ?_⟩,⟨rfl,fun b hb=>h5 b (hst.qh b hb) (fun h=>hst.out o _ b ho rfl h hb)⟩,fun k hk hn=>dC (by simpa using hn)⟩
 ·rw[bE]at hp
  by_cases hpo:p=o
  ·subst hpo
   rw[if_pos ⟨rfl,hlt⟩]at hp;cases hp
   rw[dD]
   exact .arr .live e xs' y (hob hkept)
  ·rw[if_neg (fun h=>hpo h.1.symm)]at hp
   rw[dC hpo]
   cases hd:dz q with
   |true=>cases q<;>first|exact .dead _|cases hd
   |false=>
    refine cW.aH hkept (fun g hg=>h5 g (lO hst hp hd hg) (fun hbo=> ?_)) (fun k hk=>hsame k (fun h=>by subst h;exact hno p q hp hk)) (hst.obj p q hp)
    exact hst.apart o p _ q g (fun h=>hpo h.symm) ho hp rfl hd hbo hg
 ·intro p q ob1 ob2 b hne hp hq hmu hd hb1 hb2
  rw[bE]at hp hq
  by_cases hpo:p=o
  ·subst hpo
   rw[if_pos ⟨rfl,hlt⟩]at hp;cases hp
   rw[if_neg (fun h=>hne h.1)]at hq
   rw[dD]at hb1
   rw[dC (fun h=>hne h.symm)]at hb2
   rcases hy b hb1 with h|h
   ·have:=lO hst hq hd hb2;omega
   ·exact hst.apart p q _ ob2 b hne ho hq rfl hd h hb2
  ·rw[if_neg (fun h=>hpo h.1.symm)]at hp
   rw[dC hpo]at hb1
   by_cases hqo:q=o
   ·subst hqo
    rw[if_pos ⟨rfl,hlt⟩]at hq;cases hq
    rw[dD]at hb2
    rcases hy b hb2 with h|h
    ·have:=lO hst hp (by cases ob1<;>first|rfl|cases hmu) hb1;omega
    ·exact hst.apart p q ob1 _ b hne hp ho hmu rfl hb1 h
   ·rw[if_neg (fun h=>hqo h.1.symm)]at hq
    rw[dC hqo]at hb2
    exact hst.apart p q ob1 ob2 b hne hp hq hmu hd hb1 hb2
 ·rw[bE]at hp
  by_cases hpo:p=o
  ·subst hpo
   rw[dD]at hb
   intro hm
   rcases hy b hb with h|h
   ·have:=hst.qh b hm;omega
   ·exact hst.out p _ b ho rfl h hm
  ·rw[if_neg (fun h=>hpo h.1.symm)]at hp
   rw[dC hpo]at hb
   exact hst.out p q b hp hd hb
 ·refine dC (fun h=> ?_)
  subst h
  rw[ho]at hp;cases hp;cases hl
 ·by_cases hpo:p=o
  ·subst hpo
   rw[ho]at hp;cases hp
   exact⟨_,by rw[bE,if_pos ⟨rfl,hlt⟩],.arr .live .live e xs xs',fun h=>h⟩
  ·exact⟨q,by rw[bE,if_neg (fun h=>hpo h.1.symm)];exact hp,qy.refl q,id⟩
end
open Go
section
variable {P:Program} {E:Env} {w w':World} {σ σ':Sg} {st st':St E.T} {M:Nat→Prop}
theorem Ep {α β:Type} (f:α→β) (l:List α) (n:Nat) (a:α):(df l n a).map f=df (l.map f) n (f a):=by simp[EG,List.map_set]
theorem K3 (S:Sound P E) (hst:bm E σ st w) {st':St E.T} {t tx ty:TypeId} {o:Nat} {x v:az E.T} {us u:Value} (hs:aZ E σ st w (MB σ st) (.own o) us) (hx:aZ E σ st w (MB σ st) x u) (h:(nL E st t tx (.own o) x).get=some (v,st')):
  ∃y w',(Builtin.append_ #[t,tx] ty #[us,u]).run P w= .ok y w'∧Gs [o] σ (dL σ o y) st (st'.map (bT E st [o])) w w'∧aZ E (dL σ o y) (st'.map (bT E st [o])) w' (MB (dL σ o y) (st'.map (bT E st [o]))) v y:=by
 simp only[nL]at h
 split at h
 ·rename_i e xs ho
  obtain⟨h0,h⟩:=Tree.aO h
  have ht:=kZ h0
  obtain⟨te,hu,hte⟩:=(S.data _ _ ht).desc
  obtain⟨i,hi,hsz,hby,hz⟩:=(S.data _ _ hte).info
  obtain⟨ys,cs,h1,hl,hsrc⟩:=yq S hst hte hi h hx
  obtain⟨h2,h3⟩:=fN h1
  rw[decide_eq_true_eq]at h2
  cases h3
  have hus:=uQ hs
  subst hus
  have hmap:(df st o (.arr .live e (xs++ys))).map (bT E st [o])=df (st.map (bT E st [o])) o (.arr .live e (xs++ys)):=Ep _ _ _ _
  rw[hmap]
  have m0:=Mv.kill hst [o]
  have ho1:aR (st.map (bT E st [o])) o=some (.arr .live e xs):=by rw[dx,ho];rfl
  have hno: ∀p ob,aR (st.map (bT E st [o])) p=some ob→o∉cd E ob:=by
   intro p ob hp
   rw[dx]at hp
   obtain⟨q0,_,rfl⟩:=Option.map_eq_some_iff.1 hp
   cases q0 with
   |box ro c=>intro hk;exact(qA [o] c o hk).2 (by simp)
   |arr l e zs=>simp[bT,cd]
   |dead=>simp[bT,cd]
  generalize hst1:st.map (bT E st [o])=st1 at*
  have hlen:(xs++ys).length=xs.length+ys.length:=List.length_append
  have fin: ∀(y:Value) (w':World),(Builtin.append_ #[t,tx] ty #[σ o,u]).run P w= .ok y w'→w'.os=w.os→w'.tape=w.tape→w'.output=w.output→w.heap.size≤w'.heap.size→(∀b,b<w.heap.size→lf (σ o)≠some b→w'.heap[b]? =w.heap[b]?)→
    (∀b,lf y=some b→w.heap.size≤b∨lf (σ o)=some b)→(∀M',Kept (MB σ st1) M' w w'→gy E w' M' e (xs++ys) y)→
    ∃y w',(Builtin.append_ #[t,tx] ty #[σ o,u]).run P w= .ok y w'∧Gs [o] σ (dL σ o y) st (df st1 o (.arr .live e (xs++ys))) w w'∧
     aZ E (dL σ o y) (df st1 o (.arr .live e (xs++ys))) w' (MB (dL σ o y) (df st1 o (.arr .live e (xs++ys)))) (.own o) y:=by
   intro y w' hrun e1 e2 e3 e4 e5 e6 e7
   refine⟨y,w',hrun,Gs.trans m0.x (Gs.swap m0.rep ho1 hno y e1 e2 e3 e4 e5 e6 (e7 _)),?_⟩
   have hv:=aZ.data _ _ _ (VT.own (E:=E) (σ:=dL σ o y) (st:=df st1 o (.arr .live e (xs++ys))) (w:=w') (M:=MB (dL σ o y) (df st1 o (.arr .live e (xs++ys)))) o .live e (xs++ys) (by rw[bE,if_pos ⟨rfl,bM ho1⟩]))
   rw[dD]at hv
   exact hv
  have hl1:bD E w (MB σ st1) e ys cs:=bD.aH m0.aH.kept hl
  have grow: ∀(base:Option Addr) (sCap:Nat) (olds:List Value),σ o= .slice base xs.length sCap→bD E w (MB σ st1) e xs olds→(Builtin.firstCells i.size xs.length (.slice base xs.length sCap)).run P w.drew= .ok olds.toArray w.drew→sCap<xs.length+ys.length→
    ∃y w',(Builtin.append_ #[t,tx] ty #[σ o,u]).run P w= .ok y w'∧Gs [o] σ (dL σ o y) st (df st1 o (.arr .live e (xs++ys))) w w'∧
     aZ E (dL σ o y) (df st1 o (.arr .live e (xs++ys))) w' (MB (dL σ o y) (df st1 o (.arr .live e (xs++ys)))) (.own o) y:=by
   intro base sCap olds hσ hlo hold hg
   have hrun:=yr (P:=P) t ty te hu hi hz hby base hold hsrc hg h2
   rw[←hσ]at hrun
   have hge:=tQ w (xs.length+ys.length) sCap te
   generalize grownCap w (xs.length+ys.length) sCap te=cap at*
   refine fin _ _ hrun rfl rfl rfl (by simp) (fun b hb _=> ?_) (fun b hb=> .inl (by rw[jZ hb];exact Nat.le_refl _)) (fun M' hk=> ?_)
   ·show(w.heap.push _)[b]? =w.heap[b]?
    simp[Array.getElem?_push,Nat.ne_of_lt hb]
   ·exact yJ S hte hst (bD.append (bD.aH hk hlo) (bD.aH hk hl1)) (by rw[hlen];exact h2) (by rw[hlen];exact hge) (by rw[hlen];exact heap_alloc_new w.drew _) (fun q=>mw (w:=w.drew) q) hlen.symm
  have hob:=m0.rep.obj o _ ho1
  generalize hσ:σ o=s at*
  cases hob with
  |arr l e xs _ hown=>
   rcases hown.2 with⟨⟨a,rfl⟩,rfl⟩|⟨g,cap,c,el,fr,olds,rfl,hcap,hh,hcz,hfz,hlo,hq,hord⟩
   ·by_cases hy0:ys.length=0
    ·have hy:ys=[]:=List.eq_nil_of_length_eq_zero hy0
     subst hy
     cases hl
     have hrun:=Lk (P:=P) t ty te hu hi a (Nat.le_refl 0) hsrc
     exact fin _ _ hrun rfl rfl rfl (Nat.le_refl _) (fun _ _ _=>rfl) (fun b hb=> .inr hb) (fun M' _=>⟨Nat.zero_le _,.inl ⟨⟨a,rfl⟩,rfl⟩⟩)
    ·refine grow a 0 [] rfl (.nil e) ?_ (by simp;omega)
     cases a<;>simp[Builtin.firstCells,loadCells,loadCellsFrom]
   ·have hll:=bD.len S.todk hlo
    have hly:=bD.len S.todk hl1
    by_cases hroom:xs.length+ys.length≤cap+1
    ·have hcz2:(xs.length+ys.length)*E.size e≤c.size:=Nat.le_trans (Nat.mul_le_mul_right _ hroom) hcz
     rw[Nat.add_mul]at hcz2
     have hcz3:(xs.length+ys.length)*E.size e≤(cap+1)*E.size e:=Nat.mul_le_mul_right _ hroom
     rw[Nat.add_mul]at hcz3
     have hrun:=Lj (P:=P) t ty te hu hi hsrc hroom hh (off:=0) (by rw[hsz,hly];omega) (by rw[hsz,hly];intro q _ h;exact hfz q (fun _=>by omega))
     rw[hsz,Nat.zero_add]at hrun
     have hb:=(Array.getElem?_eq_some_iff.1 hh).1
     refine fin _ _ hrun rfl rfl rfl (by rw[iH];exact Nat.le_refl _) (fun b _ hne=>ns (fun h=>hne (by rw[h];rfl))) (fun b hb=> .inr (by rw[jZ hb];rfl)) (fun M' hk=> ?_)
     refine gy.mk' E _ _ (by rw[hlen];exact h2) (by rw[hlen];exact hroom) (kT hb) (by rw[gD];exact hcz) (fun q hq=>by rw[An hh];exact hfz q hq) (bD.append (bD.aH hk hlo) (bD.aH hk hl1)) (fun q v hv=> ?_) hlen.symm
     rw[qk _ _ _ _ (by rw[hly];omega)]
     by_cases hql:q<olds.length
     ·rw[if_neg (by omega)]
      rw[List.getElem?_append_left hql]at hv
      exact hq q v hv
     ·rw[List.getElem?_append_right (by omega)]at hv
      have:=(List.getElem?_eq_some_iff.1 hv).1
      rw[if_pos (by omega),←hll];exact hv
    ·refine grow _ _ olds rfl hlo ?_ (by omega)
     refine run_firstCells_some (P:=P) w.drew i.size xs.length _ xs.length (cap+1) olds (by rw[hll,hsz]) (fun j v hv=> ?_)
     rw[dP]
     show w.cell? ⟨g,0+j,none⟩=some v
     simp[World.cell?,hh,hq j v hv]
 ·cases h
end
open Go
noncomputable section
section
variable {P:Program} {E:Env} {w w' w'':World} {σ σ' σ'':Sg} {st st' st'':St E.T} {M:Nat→Prop}
structure Mf {E:Env} (σ σ':Sg) (st st':St E.T) (w w':World):Prop where
 rep:bm E σ' st' w'
 aH:wC (MB σ st) (MB σ' st') w w'
 stay:yv σ σ' st st'
 qh:Pv σ σ' w w'
theorem Mf.refl (h:bm E σ st w):Mf σ σ st st w w:=⟨h,wC.refl _ _,yv.refl _ _,Pv.refl _ _⟩
theorem Mf.trans (h:Mf (E:=E) σ σ' st st' w w') (k:Mf σ' σ'' st' st'' w' w''):Mf σ σ'' st st'' w w'':=⟨k.rep,h.aH.trans k.aH,h.stay.trans k.stay,h.qh.trans k.qh⟩
theorem Gs.f {ks:List Nat} (h:Gs (E:=E) ks σ σ' st st' w w'):Mf σ σ' st st' w w':=⟨h.rep,h.aH,h.stay,h.qh⟩
theorem Mv.f (h:Mv (E:=E) σ σ' st st' w w'):Mf σ σ' st st' w w':=⟨h.rep,h.aH,h.stay,h.qh⟩
inductive fR (E:Env) (σ:Sg) (st:St E.T) (w:World) (M:Nat→Prop):List (FuncId×List (az E.T))→List Deferred→Prop where
 |nil:fR E σ st w M [] []
 |cons (g:FuncId) (as:List (az E.T)) (args cap:Array Value) (ds:List (FuncId×List (az E.T))) (dds:List Deferred) (h:aW E σ st w M as (args++cap).toList) (h':fR E σ st w M ds dds):
   fR E σ st w M ((g,as) ::ds) ({target:= .fn (.func g) cap,args:=args} ::dds)
structure cf (E:Env) (σ:Sg) (st:St E.T) (w:World) (fr:Fr E.T) (a:Act):Prop where
 s:aW E σ st w (MB σ st) fr.s a.tmps.toList
 d:fR E σ st w (MB σ st) fr.d a.defers
theorem aW.length: ∀{ds:List (az E.T)} {us:List Value},aW E σ st w M ds us→ds.length=us.length
 |_,_,.nil=>rfl
 |_,_,.cons v r u us h h'=>by simp[aW.length h']
theorem aW.nth: ∀{ds:List (az E.T)} {us:List Value},aW E σ st w M ds us→ ∀(t:Nat) (u0:Value),aZ E σ st w M (D.nth ds t .undef) (us.getD t u0)
 |_,_,.nil,t,u0=> .undef _
 |_,_,.cons v r u us h h',0,u0=>h
 |_,_,.cons v r u us h h',t+1,u0=>by simpa [ff,dW,dX]using aW.nth h' t u0
theorem aW.set: ∀{ds:List (az E.T)} {us:List Value},aW E σ st w M ds us→ ∀(t:Nat) {v:az E.T} {u:Value},aZ E σ st w M v u→aW E σ st w M (df ds t v) (us.set t u)
 |_,_,.nil,t,_,_,_=> .nil
 |_,_,.cons v r u us h h',0,_,_,hv=> .cons _ _ _ _ hv h'
 |_,_,.cons v r u us h h',t+1,_,_,hv=> .cons _ _ _ _ h (aW.set h' t hv)
theorem aW.append: ∀{ds:List (az E.T)} {us:List Value},aW E σ st w M ds us→ ∀{ds':List (az E.T)} {us':List Value},aW E σ st w M ds' us'→aW E σ st w M (ds++ds') (us++us')
 |_,_,.nil,_,_,h=>h
 |_,_,.cons v r u us h h',_,_,k=> .cons _ _ _ _ h (aW.append h' k)
theorem aW.get: ∀{ds:List (az E.T)} {us:List Value},aW E σ st w M ds us→ ∀{t:Nat} {v:az E.T},aR ds t=some v→ ∃u,us[t]? =some u∧aZ E σ st w M v u
 |_,_,.nil,t,v,h=>by simp[dF,cP,cQ]at h
 |_,_,.cons v r u us h h',0,_,hv=>by cases hv;exact⟨u,rfl,h⟩
 |_,_,.cons v r u us h h',t+1,_,hv=>by obtain⟨u,h1,h2⟩:=aW.get h' (t:=t) hv;exact⟨u,by simpa using h1,h2⟩
theorem O4 (v:Value):aZ E σ st w M (MJ E v) v:=by
 unfold MJ
 split
 ·exact gx _
 ·rename_i n
  cases h:decide (0≤n)&&decide (n<256)with
  |false=>exact .undef _
  |true=>
   simp only[Bool.and_eq_true,decide_eq_true_eq]at h
   exact VF .u8 n (fun _=>h)
 ·rename_i k n hk
  exact VF k n (fun h=>(hk h).elim)
 ·rename_i s
  cases h:Nat.ble s.data.toList.length dK with
  |false=>exact .undef _
  |true=>exact mkStr s (Nat.le_of_ble_eq_true h)
 ·exact .cM
 ·exact .data _ _ _ (.bj (.bool) none)
 ·exact .ea
 ·exact .cr
 ·exact .undef _
theorem bU {fr:Fr E.T} {a:Act} (h:cf E σ st w fr a) (x:Operand):aZ E σ st w (MB σ st) (bY E fr x) (a.eval x):=by
 cases x with
 |tmp t=>
  have:=aW.nth h.s t undef
  simp only[bY,Act.eval]
  have he:a.tmps.toList.getD t undef=a.tmps.getD t undef:=by simp[Array.getD_eq_getD_getElem?,List.getD_eq_getElem?_getD]
  rwa [he]at this
 |const v=>exact O4 v
 |global g=>exact .undef _
 |func f=>exact .fn f [] [] .nil
theorem xZ {fr:Fr E.T} {a:Act} (h:cf E σ st w fr a): ∀(xs:List Operand),aW E σ st w (MB σ st) (xs.map (bY E fr)) (xs.map a.eval)
 |[]=> .nil
 |x::r=> .cons _ _ _ _ (bU h x) (xZ h r)
theorem oJ {fr:Fr E.T} {a:Act} (h:cf E σ st w fr a): ∀(xs:List (Nat×Operand)),wB E σ st w (MB σ st) (xs.map fun x=>(x.1,bY E fr x.2)) (xs.map fun x=>(x.1,a.eval x.2))
 |[]=> .nil
 |x::r=> .cons _ _ _ _ _ (bU h x.2) (oJ h r)
theorem fo {fr:Fr E.T} {a:Act} (h:cf E σ st w fr a) (dst:Option Tmp) {v:az E.T} {u:Value} (hv:aZ E σ st w (MB σ st) v u):cf E σ st w (put E fr dst v) (a.put dst u):=by
 cases dst with
 |none=>exact h
 |some t=>exact⟨by simpa [put,Act.put]using aW.set h.s t hv,h.d⟩
theorem fR.aH {M':Nat→Prop} (kp:Kept M M' w w'): ∀{ds:List (FuncId×List (az E.T))} {dds:List Deferred},fR E σ st w M ds dds→(∀k∈ds.flatMap fun x=>bg x.2,ib σ σ' st st' k)→fR E σ' st' w' M' ds dds
 |_,_,.nil,_=> .nil
 |_,_,.cons g as args cap ds dds h h',hs=> .cons g as args cap ds dds (aW.aH kp h (fun k hk=>hs k (by simp[hk]))) (fR.aH kp h' (fun k hk=>hs k (by
   rw[List.flatMap_cons];exact List.mem_append_right _ hk)))
theorem fR.refs: ∀{ds:List (FuncId×List (az E.T))} {dds:List Deferred},fR E σ st w M ds dds→ ∀k∈ds.flatMap fun x=>bg x.2,k<st.length
 |_,_,.nil,k,hk=>by simp at hk
 |_,_,.cons g as args cap ds dds h h',k,hk=>by
  rw[List.flatMap_cons]at hk
  rcases List.mem_append.1 hk with hk|hk
  ·exact aW.refs h k hk
  ·exact fR.refs h' k hk
theorem fR.kill (hst:bm E σ st w) (ks:List Nat): ∀{ds:List (FuncId×List (az E.T))} {dds:List Deferred},fR E σ st w M ds dds→fR E σ st w M (ds.map fun x=>(x.1,cU E st ks x.2)) dds
 |_,_,.nil=> .nil
 |_,_,.cons g as args cap ds dds h h'=> .cons g _ args cap _ dds (aW.kill hst ks h) (fR.kill hst ks h')
theorem cf.mv {fr:Fr E.T} {a:Act} (h:cf E σ st w fr a) (m:Mv σ σ' st st' w w'):cf E σ' st' w' fr a:=
 ⟨m.Jy h.s,fR.aH m.aH.kept h.d fun k hk=>m.same k (fR.refs h.d k hk)⟩
theorem DN (ks:List Nat): ∀(ds:List (FuncId×List (az E.T))) (k:Nat),k∈(ds.map fun x=>(x.1,cU E st ks x.2)).flatMap (fun x=>bg x.2)→k∉ks
 |[],k,h=>by simp at h
 |d::ds,k,h=>by
  rw[List.map_cons,List.flatMap_cons]at h
  rcases List.mem_append.1 h with h|h
  ·exact(kn ks _ k h).2
  ·exact DN ks ds k h
theorem cf.mvx {fr:Fr E.T} {a:Act} {ks:List Nat} (hst:bm E σ st w) (h:cf E σ st w fr a) (m:Gs ks σ σ' st st' w w'):cf E σ' st' w' (iK E st ks fr) a:=by
 refine⟨m.Jy hst h.s,?_⟩
 have hk:=fR.kill hst ks h.d
 exact fR.aH m.aH.kept hk fun k hk'=>m.same k (fR.refs hk k hk') (DN ks _ k hk')
variable {K:Act→World→Prop} {Q:Exit→Act→World→Prop} {o:Oper} {a:Act} {fr:Fr E.T}
theorem j2 {y:Value} (h:(execOp a.eval o).run P w= .ok (.value y) w') (hk:K (a.put o.dst y) w'):o.wp P a w K Q:=by
 unfold Oper.wp;rw[h];exact hk
theorem H3 (h:(execOp a.eval o).run P w= .ok .skip w') (hk:K (a.put o.dst undef) w'):o.wp P a w K Q:=by
 unfold Oper.wp;rw[h];exact hk
def Dg (E:Env) (σ:Sg) (st:St E.T) (w:World) (K:Act→World→Prop) (Q:Exit→Act→World→Prop) (a:Act):wv E→Prop
 | .next fr' st'=> ∀σ' w' a',Mf σ σ' st st' w w'→cf E σ' st' w' fr' a'→K a' w'
 | .panic v fr' st'=> ∀σ' w' u,Mf σ σ' st st' w w'→cf E σ' st' w' fr' a→aZ E σ' st' w' (MB σ' st') v u→Q (.panic [{v:=u,recovered:=false}]) a w'
theorem nt (hfr:cf E σ st w fr a) {v:az E.T} {st':St E.T} {s:Sem Value} (hg:qi P E σ st w s v st') (he:execOp a.eval o=(do pure (.value (←s)):Sem Next)) (hp:Dg E σ st w K Q a (.next (put E fr o.dst v) st')):o.wp P a w K Q:=by
 obtain⟨y,w',σ',hr,hm,hv⟩:=hg
 refine j2 (y:=y) (w':=w') (by rw[he];simp[hr]) ?_
 exact hp σ' w' _ hm.f (fo (hfr.mv hm) o.dst hv)
theorem ee (hst:bm E σ st w) (hfr:cf E σ st w fr a) {v:az E.T} {s:Sem Value} (hg: ∃y,s.run P w= .ok y w∧aZ E σ st w (MB σ st) v y) (he:execOp a.eval o=(do pure (.value (←s)):Sem Next)) (hp:Dg E σ st w K Q a (.next (put E fr o.dst v) st)):o.wp P a w K Q:=
 nt hfr (qi.still hst hg) he hp
end
end
open Go
section
variable {P:Program} {E:Env} {w w' w'':World} {σ σ' σ'':Sg} {st st' st'':St E.T} {M:Nat→Prop}
theorem Hb {v:Value} {ob:Obj E.T} {k:Nat} (hk:k<st.length):ib σ (dL σ st.length v) st (st++[ob]) k:=
 ⟨dC (Nat.ne_of_lt hk),fun l e xs h=>⟨l,xs,by rw[ej,if_neg (Nat.ne_of_lt hk)];exact h⟩,fun _=>by simp;omega⟩
theorem Oq {v:Value} {ob:Obj E.T} (h4:w.heap.size≤w'.heap.size) (h5: ∀b,b<w.heap.size→w'.heap[b]? =w.heap[b]?) (hv: ∀b,lf v=some b→w.heap.size≤b):Kept (MB σ st) (MB (dL σ st.length v) (st++[ob])) w w':=
 ⟨h4,fun b hb _=>h5 b hb,fun b hb h=>by
  rcases EA h with h|h
  ·exact h
  ·have:=hv b h;omega⟩
theorem En (S:Sound P E) (hst:bm E σ st w) {t:TypeId} {d:az E.T} {u:Value} (hf:fits E st t d=true) (hv:aZ E σ st w (MB σ st) d u):
  Mv σ (dL σ st.length (.pointer (some ⟨w.heap.size,0,none⟩))) st (st++[.box false d]) w (w.alloc (.cells u.cells t))∧
   aZ E (dL σ st.length (.pointer (some ⟨w.heap.size,0,none⟩))) (st++[.box false d]) (w.alloc (.cells u.cells t)) (MB (dL σ st.length (.pointer (some ⟨w.heap.size,0,none⟩))) (st++[.box false d])) (.ptr st.length []) (.pointer (some ⟨w.heap.size,0,none⟩)):=by
 have h5: ∀b,b<w.heap.size→(w.alloc (.cells u.cells t)).heap[b]? =w.heap[b]? :=fun b hb=>by
  show(w.heap.push _)[b]? =w.heap[b]?
  simp[Array.getElem?_push,Nat.ne_of_lt hb]
 have hb: ∀b,lf (.pointer (some ⟨w.heap.size,0,none⟩))=some b→w.heap.size≤b:=fun b h=>by cases h;exact Nat.le_refl _
 have hk:Kept (MB σ st) (MB (dL σ st.length (.pointer (some ⟨w.heap.size,0,none⟩))) (st++[.box false d])) w (w.alloc (.cells u.cells t)):=Oq (by simp) h5 hb
 refine⟨Mv.new hst _ _ _ rfl rfl rfl (by simp) h5 hb ?_,?_⟩
 ·refine .box false d w.heap.size u.cells t (0,0) (heap_alloc_new w _) (fun q=>mw q) ?_
  rcases CS hf with⟨ty,ht⟩|hs
  ·obtain⟨cs,hvt,rfl⟩:=CT ht hf hv
   left
   have hc:=toV_cells (ty:=ty) (VT.one hst hvt) (fun ha=>by rw[VT.len S.todk hvt];exact nh ha)
   have h1:=VT.aH (σ':=dL σ st.length (.pointer (some ⟨w.heap.size,0,none⟩))) (st':=st++[.box false d]) hk hvt (fun k hk'=>Hb (VT.refs hvt k hk'))
   rw[hc]at h1⊢
   exact⟨ty,h1⟩
  ·right
   have ho:=ES hs hv
   have hc:u.cells= #[u]:=by cases u<;>first|rfl|(simp[kV]at ho)
   exact⟨Nb hs,u,by rw[hc],ho,aZ.aH hk hv (fun k hk'=>Hb (aZ.refs hv k hk'))⟩
 ·have:=aZ.ptr (E:=E) (σ:=dL σ st.length (.pointer (some ⟨w.heap.size,0,none⟩))) (st:=st++[.box false d]) (w:=w.alloc (.cells u.cells t)) (M:=MB (dL σ st.length (.pointer (some ⟨w.heap.size,0,none⟩))) (st++[.box false d])) st.length [] w.heap.size (by rw[dD];rfl) (by simp)
  exact this
theorem uD (t:TypeId) (v:Value):(newVar t v).run P w= .ok ⟨w.heap.size,0,none⟩ (w.alloc (.cells v.cells t)):=by
 simp[newVar,newRow]
theorem Ju (S:Sound P E) (hst:bm E σ st w) {t:TypeId} (ht:E.tk t≠ .other): ∃u,(zeroValue t).run P w= .ok u w∧aZ E σ st w (MB σ st) (zeroV E t) u∧fits E st t (zeroV E t)=true:=by
 unfold zeroV fits
 cases hk:E.tk t with
 |data ty=>
  have hz:=mZ (σ:=σ) (st:=st) (w:=w) (M:=MB σ st) S.todk depth ty (S.data t ty hk).deep
  refine⟨_,tJ S hk w,.data ty _ _ hz,?_⟩
  cases ty with
  |arr n e=>
   obtain⟨z,hz⟩:=ue depth _ (S.data t _ hk).deep
   obtain⟨m,hm⟩: ∃m,depth=m+1:=⟨7,rfl⟩
   rw[hm]at hz⊢
   simp only[fp]at hz
   simp only[iN]
   split at hz
   ·rename_i y hy
    exact tyEqb_refl _
   ·cases hz
  |named i=>exact Nat.beq_refl i
  |slice e=>rfl
  |bool=>rfl
  |str=>rfl
  |int k=>exact tyEqb_refl _
 |ptr=>
  obtain⟨_,i,hi,_,hz⟩:=S.ptr t hk
  exact⟨_,by simp[zeroValue,w9 hi,hz],.cM,rfl⟩
 |func=>
  obtain⟨_,i,hi,_,hz⟩:=S.func t hk
  exact⟨_,by simp[zeroValue,w9 hi,hz],.ea,rfl⟩
 |iface=>
  obtain⟨_,i,hi,_,hz⟩:=S.iface t hk
  exact⟨_,by simp[zeroValue,w9 hi,hz],.cr,rfl⟩
 |other=>exact absurd hk ht
where
 kEq_refl (k:IntKind):kEq k k=some ⟨rfl⟩:=by cases k<;>rfl
 nEq_refl (n:Nat):Y3 n n=some ⟨rfl⟩:=by
  unfold Y3
  split
  ·rfl
  ·rename_i h;rw[Nat.beq_refl]at h;cases h
 tyEq_refl: ∀(t:Ty),wx t t=some ⟨rfl⟩
  | .bool=>rfl
  | .str=>rfl
  | .int k=>by simp[wx,kEq_refl]
  | .named i=>by simp[wx,nEq_refl]
  | .slice e=>by simp[wx,tyEq_refl e]
  | .arr n e=>by simp[wx,nEq_refl,tyEq_refl e]
 tyEqb_refl (t:Ty):jj t t=true:=by simp[jj,tyEq_refl]
end
open Go
section
variable {P:Program} {E:Env} {w w' w'':World} {σ σ' σ'':Sg} {st st' st'':St E.T} {M M':Nat→Prop}
variable {a:Act} {fr fr':Fr E.T}
theorem Kz (hst:bm E σ st w) (k:Nat): ∃st1,(match aR st k with|some (.arr _ e xs)=>df st k (.arr .ba e xs)|_=>st)=st1∧Mv σ σ st st1 w w∧
  ∀l e xs b,aR st k=some (.arr l e xs)→lf (σ k)=some b→ ¬MB σ st1 b:=by
 refine⟨_,rfl,?_⟩
 split
 ·rename_i lv e xs hk
  have hob:=hst.obj k _ hk
  have hr:cW E σ (df st k (.arr .ba e xs)) w (MB σ (df st k (.arr .ba e xs))) (σ k) (.arr .ba e xs):=by
   have:=cW.aH (σ':=σ) (st':=df st k (.arr .ba e xs)) (Kept.weaken (M':=MB σ (df st k (.arr .ba e xs))) (fun b h=>tt hk (fun h=>by cases h) h)) (fun g _=>rfl) (fun j hj=>by simp[cd]at hj) hob
   generalize σ k=s at this
   cases this with
   |arr l e xs v h=>exact .arr .ba e xs s h
  obtain⟨h1,h2⟩:=Mv.calm hst hk (.arr lv .ba e xs xs) rfl rfl hr
  exact⟨h1,fun l e' xs' b _ hb=>h2 b hb⟩
 ·rename_i hne
  exact⟨Mv.refl hst,fun l e xs b h=>absurd h (hne l e xs)⟩
theorem fS: ∀(ks:List Nat) {st:St E.T},bm E σ st w→Mv σ σ st (freeze E st ks) w w∧ ∀k∈ks,∀l e xs b,aR st k=some (.arr l e xs)→lf (σ k)=some b→ ¬MB σ (freeze E st ks) b
 |[],st,hst=>⟨Mv.refl hst,fun k hk=>by cases hk⟩
 |k::r,st,hst=>by
  obtain⟨st1,h1,m1,n1⟩:=Kz hst k
  obtain⟨m2,n2⟩:=fS r m1.rep
  have he:freeze E st (k::r)=freeze E st1 r:=by
   rw[freeze];exact congrArg (fun s=>freeze E s r) h1
  rw[he]
  refine⟨m1.trans m2,fun j hj l e xs b hh hb hM=> ?_⟩
  have hlt:b<w.heap.size:=lO hst hh rfl hb
  rcases List.mem_cons.1 hj with rfl|hj
  ·exact n1 l e xs b hh hb (m2.aH.may b hlt hM)
  ·obtain⟨ob',h',t',_⟩:=m1.stay.kind j _ hh
   cases t' with
   |arr l l' e xs xs'=>exact n2 j hj l' e xs' b h' hb hM
theorem BA {ks:List Nat} {k:Nat}:k∈live E st ks↔k∈ks∧ ∃l e xs,aR st k=some (.arr l e xs)∧l.may=true:=by
 unfold live
 rw[List.mem_filter]
 constructor
 ·rintro⟨h1,h2⟩
  refine⟨h1,?_⟩
  split at h2
  ·rename_i l e xs h;exact⟨l,e,xs,h,h2⟩
  ·cases h2
 ·rintro⟨h1,l,e,xs,h,hm⟩
  refine⟨h1,?_⟩
  rw[h]
  exact hm
theorem IC {ks:List Nat} {k:Nat}:k∈sU E st ks↔k∈ks∧ ∃e xs,aR st k=some (.arr .live e xs):=by
 unfold sU
 rw[List.mem_filter]
 constructor
 ·rintro⟨h1,h2⟩
  refine⟨h1,?_⟩
  split at h2
  ·rename_i l e xs h
   cases l<;>first|exact⟨e,xs,h⟩|cases h2
  ·cases h2
 ·rintro⟨h1,e,xs,h⟩
  refine⟨h1,?_⟩
  rw[h]
  rfl
theorem KO (hst:bm E σ st w) {k:Nat} {e:Ty} {xs:List (I E.T e)} {b:Nat} (h:aR st k=some (.arr .ba e xs)) (hb:lf (σ k)=some b): ¬MB σ st b:=by
 rintro(hm|⟨p,q,hp,hq,hbp⟩)
 ·exact hst.out k _ b h rfl hb hm
 ·refine hst.apart p k q _ b (fun hpk=> ?_) hp h hq rfl hbp hb
  subst hpk
  rw[h]at hp;cases hp;cases hq
theorem yE (hst:bm E σ st w) {ks:List Nat} {k:Nat} (hk:k∈ks) {l:RM} {e:Ty} {xs:List (I E.T e)} {b:Nat} (h:aR st k=some (.arr l e xs)) (hb:lf (σ k)=some b): ¬MB σ (freeze E st (live E st ks)) b:=by
 obtain⟨m,n⟩:=fS (live E st ks) hst
 cases l with
 |live=>exact n k (BA.2 ⟨hk,_,e,xs,h,rfl⟩) _ e xs b h hb
 |fix=>exact n k (BA.2 ⟨hk,_,e,xs,h,rfl⟩) _ e xs b h hb
 |ba=>exact fun hM=>KO hst h hb (m.aH.may b (lO hst h rfl hb) hM)
theorem PI {t:Ty} {d:az E.T} {x:I E.T t} {cs:List Value} (h:valOf E t d=some x) (hv:VT E σ st w M t d cs):cx E w M t x cs:=by
 cases hv with
 |val t y cs hc=>
  simp only[valOf]at h
  split at h
  ·rename_i p _
   cases p with|up p=>
   cases h;exact hc
  ·cases h
 |bj e a=>cases h
 |own k l e xs hk=>cases h
 |dA e v hv=>cases h
 |agg i fs cs hs=>cases h
mutual
theorem VT.ye (ok:dk E) (hst:bm E σ st w) (n:Nat): ∀{t:Ty} {d:az E.T} {cs:List Value},VT E σ st w (MB σ st) t d cs→VT E σ st w (MB σ st) t (gN E st n d) cs
 |_,_,_,.val t x cs h=>by unfold gN;exact .val t x cs h
 |_,_,_,.bj e a=>by unfold gN;exact .bj e a
 |_,_,_,.own k l e xs h=>by
  unfold gN
  rw[h]
  cases l with
  |ba=>
   simp only
   cases Nat.ble n k with
   |true=>exact .val _ _ _ (JV hst h (fun _ h=>h) (fun b hb=>KO hst h hb))
   |false=>exact .own k _ e xs h
  |fix=>exact .own k _ e xs h
  |live=>exact .own k _ e xs h
 |_,_,_,.dA e v h=>by unfold gN;exact .dA e v h
 |_,_,_,.agg i fs cs h=>by
  have hs:=iw.ye ok hst n h
  unfold gN
  split
  ·rename_i r hr
   exact .val _ _ _ (.named i _ cs (by rw[ok.pe];exact toHLWith_ok (fun t d x cs=>PI) hs hr))
  ·exact .agg i _ cs hs
theorem iw.ye (ok:dk E) (hst:bm E σ st w) (n:Nat): ∀{ts:List Ty} {ds:List (az E.T)} {cs:List Value},iw E σ st w (MB σ st) ts ds cs→iw E σ st w (MB σ st) ts (rI E st n ds) cs
 |_,_,_,.nil=>by unfold rI;exact .nil
 |_,_,_,.cons t ts v r c1 c2 h h'=>by unfold rI;exact .cons t ts _ _ c1 c2 (VT.ye ok hst n h) (iw.ye ok hst n h')
end
theorem K0 (n:Nat) {d:az E.T} (h:D0 E d=true):gN E st n d=d:=by
 cases d<;>first|(cases h;done)|(unfold gN;rfl)
theorem aZ.ye (ok:dk E) (hst:bm E σ st w) (n:Nat) {d:az E.T} {u:Value} (h:aZ E σ st w (MB σ st) d u):aZ E σ st w (MB σ st) (gN E st n d) u:=by
 cases h with
 |data t d cs h=>exact .data t _ cs (VT.ye ok hst n h)
 |undef=>unfold gN;exact .undef _
 |ptr o p b h hl=>unfold gN;exact .ptr o p b h hl
 |cM=>unfold gN;exact .cM
 |dZ t x a cs h hm=>unfold gN;exact .dZ t x a cs h hm
 |jk vs us h=>unfold gN;exact .jk vs us h
 |fn f vs us h=>unfold gN;exact .fn f vs us h
 |ea=>unfold gN;exact .ea
 |fG t d v h=>unfold gN;exact .fG t d v h
 |cr=>unfold gN;exact .cr
theorem aW.ye (ok:dk E) (hst:bm E σ st w) (n:Nat): ∀{ds:List (az E.T)} {us:List Value},aW E σ st w (MB σ st) ds us→aW E σ st w (MB σ st) (rI E st n ds) us
 |_,_,.nil=>by unfold rI;exact .nil
 |_,_,.cons v r u us h h'=>by unfold rI;exact .cons _ _ u us (aZ.ye ok hst n h) (aW.ye ok hst n h')
theorem K1 (n:Nat) (ob:Obj E.T):dn (K2 E st n ob)=dn ob:=by cases ob<;>rfl
theorem HP (n:Nat) (ob:Obj E.T):dz (K2 E st n ob)=dz ob:=by cases ob<;>rfl
theorem Pd (n:Nat) (ob:Obj E.T):mb (K2 E st n ob)=mb ob:=by cases ob<;>rfl
theorem Pc (n:Nat) (ob:Obj E.T):qy ob (K2 E st n ob):=by cases ob<;>constructor
theorem cW.ye (ok:dk E) (hst:bm E σ st w) (n:Nat) {v:Value} {ob:Obj E.T} (h:cW E σ st w (MB σ st) v ob):cW E σ st w (MB σ st) v (K2 E st n ob):=by
 cases h with
 |box ro d b c el fr hh hf hc=>
  refine .box ro _ b c el fr hh hf ?_
  rcases hc with⟨t,ht⟩|⟨hs,u,hu,ho,hv⟩
  ·exact .inl ⟨t,VT.ye ok hst n ht⟩
  ·rw[K0 n hs]
   exact .inr ⟨hs,u,hu,ho,hv⟩
 |arr l e xs v h=>exact .arr l e xs v h
 |dead v=>exact .dead v
theorem PW (n:Nat) (s:St E.T) (k:Nat):ib σ σ st (st.map (K2 E s n)) k:=
 ⟨rfl,fun l e xs h=>⟨l,xs,by rw[dx,h];rfl⟩,fun h=>by simpa using h⟩
theorem Rx (n:Nat) {b:Nat} (h:MB σ (st.map (K2 E st n)) b):MB σ st b:=by
 rcases h with h|⟨o,ob,ho,hm,hb⟩
 ·exact .inl h
 right
 rw[dx]at ho
 obtain⟨ob0,h0,rfl⟩:=Option.map_eq_some_iff.1 ho
 exact⟨o,ob0,h0,by rwa [K1]at hm,hb⟩
theorem Mv.ye (ok:dk E) (hst:bm E σ st w) (n:Nat):Mv σ σ st (mV E st n) w w:=by
 unfold mV
 refine Mv.mk' hst ⟨rfl,rfl,rfl,Nat.le_refl _,fun _ _ _=>rfl,fun b _ h=>Rx n h⟩ ⟨fun _ _ _ _=>rfl,fun p q hp=>⟨_,by rw[dx,hp];rfl,Pc n q,fun h=>by rw[Pd];exact h⟩⟩ ⟨rfl,fun _ _=>rfl⟩ (fun _ _=>rfl) (fun p q b hp hd hb=> ?_) (fun p q hp=> ?_) ?_
 ·rw[dx]at hp
  obtain⟨q0,h0,rfl⟩:=Option.map_eq_some_iff.1 hp
  rw[HP]at hd
  exact hst.out p q0 b h0 hd hb
 ·rw[dx]at hp
  obtain⟨q0,h0,rfl⟩:=Option.map_eq_some_iff.1 hp
  exact .inr (cW.aH (Kept.weaken fun b h=>Rx n h) (fun _ _=>rfl) (fun k _=>PW n st k) (cW.ye ok hst n (hst.obj p q0 h0)))
 ·intro p q ob1 ob2 b hne hp hq hmu hd hb1 hb2
  rw[dx]at hp hq
  obtain⟨p0,h1,rfl⟩:=Option.map_eq_some_iff.1 hp
  obtain⟨q0,h2,rfl⟩:=Option.map_eq_some_iff.1 hq
  rw[K1]at hmu
  rw[HP]at hd
  exact hst.apart p q p0 q0 b hne h1 h2 hmu hd hb1 hb2
theorem cf.ye (ok:dk E) (hst:bm E σ st w) (n:Nat) (h:cf E σ st w fr a):cf E σ st w {s:=rI E st n fr.s,d:=fr.d} a:=⟨aW.ye ok hst n h.s,h.d⟩
theorem wB.ye (ok:dk E) (hst:bm E σ st w) (n:Nat): ∀{ps:List (Nat×az E.T)} {us:List (Nat×Value)},wB E σ st w (MB σ st) ps us→wB E σ st w (MB σ st) (ps.map fun x=>(x.1,gN E st n x.2)) us
 |_,_,.nil=> .nil
 |_,_,.cons j x u ps us h h'=> .cons j _ u _ us (aZ.ye ok hst n h) (wB.ye ok hst n h')
theorem Dg.later {K:Act→World→Prop} {Q:Exit→Act→World→Prop} {out:wv E} (m:Mf σ σ' st st' w w') (h:Dg E σ st w K Q a out):Dg E σ' st' w' K Q a out:=by
 cases out with
 |next fr' st2=>exact fun σ2 w2 a2 m2 hf=>h σ2 w2 a2 (m.trans m2) hf
 |panic v fr' st2=>exact fun σ2 w2 u m2 hf hv=>h σ2 w2 u (m.trans m2) hf hv
theorem O2 {i j:Nat} {x v:az E.T} (h:mH E i j x=v) (hn:v≠ .undef): ∃gs,nI E x=some (i,gs)∧nth gs j .undef=v:=by
 cases x with
 |val t y=>
  cases t with
  |named i'=>
   simp only[mH]at h
   cases hb:Nat.beq i i' with
   |true=>
    rw[hb]at h
    have:=Nat.eq_of_beq_eq_true hb
    subst this
    exact⟨_,rfl,h⟩
   |false=>rw[hb]at h;exact absurd h.symm hn
  |_=>exact absurd h.symm hn
 |agg i' fs=>
  simp only[mH]at h
  cases hb:Nat.beq i i' with
  |true=>
   rw[hb]at h
   have:=Nat.eq_of_beq_eq_true hb
   subst this
   exact⟨_,rfl,h⟩
  |false=>rw[hb]at h;exact absurd h.symm hn
 |_=>exact absurd h.symm hn
theorem MG (S:Sound P E) {t:TypeId} {x v:az E.T} {j:Nat} {u:Value} (h:(Ew E t x j).get=some v) (hx:aZ E σ st w M x u):
  ∃y,(Instr.field t u j).run P w= .ok y w∧aZ E σ st w M v y:=by
 unfold Ew at h
 split at h
 ·rename_i i ht
  obtain⟨hj,h⟩:=Tree.aO h
  rw[Nat.blt_eq]at hj
  obtain⟨fs,hu,hsz,hfs⟩:=(S.data t _ ht).desc
  obtain⟨f,hf⟩: ∃f,fs[j]? =some f:=⟨fs[j]'(by omega),Array.getElem?_eq_getElem _⟩
  obtain⟨ty,h1,h2,h3,h4,_⟩:=hfs j f hf
  have hv:mH E i j x=v∧v≠ .undef:=by
   split at h
   ·cases h
   ·rename_i hne
    cases h
    exact⟨rfl,fun h=>hne h⟩
  obtain⟨gs,he,hg⟩:=O2 hv.1 hv.2
  cases hx with
  |data t0 d cs hvt=>
   obtain⟨rfl,hvs⟩:=Au hvt he
   have hgl:=iw.length hvs
   have hat:aR gs j=some v:=by rw[←hg];exact nu (by omega)
   obtain⟨t',c,l,r,g1,g2,rfl,g4,_⟩:=iw.at S.todk hvs j v hat
   rw[h1]at g1
   cases g1
   refine⟨toV ty c,?_,.data ty v c g2⟩
   have hoff:f.offset=l.length:=by rw[h3,g4];rfl
   have:=mQ S h2 (xs:=(l++c++r).toArray) (l:=l) (c:=c) (r:=r) rfl (VT.len S.todk g2) w
   simp only[Instr.field,Sem.run_bind,bq hu,Result.andThen_ok,hf]
   rw[hoff]
   exact this
  |_=>cases he
 ·cases h
end
open Go
noncomputable section
section
variable {P:Program} {E:Env} {w w' w'':World} {σ σ' σ'':Sg} {st st' st'':St E.T} {M:Nat→Prop}
theorem Iv {fr:Fr E.T} {a:Act} (h:cf E σ st w fr a) (x:Option Operand):Jo E σ st w (MB σ st) (x.map (bY E fr)) (x.map a.eval):=by
 cases x with
 |none=>exact .none
 |some x=>exact .some _ _ (bU h x)
theorem FT {mx:Bool}: ∀(r:List (az E.T)) {us:List Value} {x v:az E.T} {u:Value},(dfold E mx x r).get=some v→aZ E σ st w M x u→aW E σ st w M r us→
  ∃y,(us.foldlM (match mx with|true=>Builtin.max2|false=>Builtin.min2) u).run P w= .ok y w∧aZ E σ st w M v y
 |[],us,x,v,u,h,hx,hr=>by
  cases hr
  cases h
  exact⟨u,by simp,hx⟩
 |y::r,us,x,v,u,h,hx,hr=>by
  cases hr with
  |cons y r u' us hy hr=>
   simp only[dfold]at h
   obtain⟨z,hz,h2⟩:=Tree.aB h
   obtain⟨q,hq,hv⟩:=QW (P:=P) hz hx hy
   obtain⟨p,hp,hvp⟩:=FT r h2 hv hr
   refine⟨p,?_,hvp⟩
   rw[List.foldlM_cons]
   cases mx<;>simp only[Sem.run_bind,hq,Result.andThen_ok,hp]<;>exact hp
variable {K:Act→World→Prop} {Q:Exit→Act→World→Prop} {a:Act} {fr:Fr E.T}
theorem bW {dst:Option Tmp} {v:az E.T} {out:wv E} (h:(dQ E fr dst st v).get=some out):out= .next (put E fr dst v) st:=by
 cases h;rfl
theorem lX {α β:Type} (f:α→β) (xs:Array α):xs.map f=(xs.toList.map f).toArray:=by apply Array.ext';simp
theorem RT {t xt:TypeId} {u:Value} {d:TypeDesc} (hu:P.underlying t=some d) (hnd: ∀m,d≠ .interface m):(Instr.typeAssert (.iface t u) xt t true).run P w= .ok (.tuple #[u,.bool true]) w:=by
 unfold Instr.typeAssert
 simp only[Sem.run_bind,bq hu,Result.andThen_ok]
 cases d<;>first|exact absurd rfl (hnd _)|simp
theorem PX {t t' xt:TypeId} {u z:Value} {d:TypeDesc} (hu:P.underlying t=some d) (hnd: ∀m,d≠ .interface m) (hne: ¬t'=t) (hz:(zeroValue t).run P w= .ok z w):
  (Instr.typeAssert (.iface t' u) xt t true).run P w= .ok (.tuple #[z,.bool false]) w:=by
 unfold Instr.typeAssert
 simp only[Sem.run_bind,bq hu,Result.andThen_ok]
 cases d<;>first|exact absurd rfl (hnd _)|simp[hne,hz]
theorem RS {t xt:TypeId} {z:Value} {d:TypeDesc} (hu:P.underlying t=some d) (hnd: ∀m,d≠ .interface m) (hz:(zeroValue t).run P w= .ok z w):
  (Instr.typeAssert .nilIface xt t true).run P w= .ok (.tuple #[z,.bool false]) w:=by
 unfold Instr.typeAssert
 simp only[Sem.run_bind,bq hu,Result.andThen_ok]
 cases d<;>first|exact absurd rfl (hnd _)|simp[hz]
def mJ (P:Program) (E:Env) (S:FuncId→Option (Spec E)):Prop:=
 ∀{σ:Sg} {st:St E.T} {w:World} {fr:Fr E.T} {a:Act} {K:Act→World→Prop} {Q:Exit→Act→World→Prop} {o:Oper} {f:Operand} {args:Array Operand} {ats:Array TypeId} {fx:List Nat} {e:rT E.T},
  bm E σ st w→cf E σ st w fr a→o.op= .call {callee:= .value f,args:=args,argTypes:=ats}→
  (AH E S st fx (bY E fr f) (args.toList.map (bY E fr))).get=some e→Dg E σ st w K Q a (cI E fr st o.dst e)→o.wp P a w K Q
theorem CX (HS:Sound P E) {S:FuncId→Option (Spec E)} (HC:mJ P E S) {dr:Bool} {o:Oper} {out:wv E} (hst:bm E σ st w) (hfr:cf E σ st w fr a) (h:(pB E S dr fr st o).get=some out) (hp:Dg E σ st w K Q a out):o.wp P a w K Q:=by
 obtain⟨dst,op,type,pos,aft,guard⟩:=o
 cases op with
 |move x=>
  have:=bW h;subst this
  exact j2 (y:=a.eval x) rfl (hp σ w _ (Mf.refl hst) (fo hfr dst (bU hfr x)))
 |assign x=>
  have:=bW h;subst this
  exact j2 (y:=a.eval x) rfl (hp σ w _ (Mf.refl hst) (fo hfr dst (bU hfr x)))
 |pick c x y=>
  simp only[pB]at h
  have hc:=bU hfr c
  split at h
  ·rename_i b hb
   rw[hb]at hc
   have hcb:=yR hc
   simp only[Tree.get]at h
   cases b with
   |true=>
    have:=bW h;subst this
    exact j2 (y:=a.eval x) (by simp[execOp,hcb,asBool]) (hp σ w _ (Mf.refl hst) (fo hfr dst (bU hfr x)))
   |false=>
    have:=bW h;subst this
    exact j2 (y:=a.eval y) (by simp[execOp,hcb,asBool]) (hp σ w _ (Mf.refl hst) (fo hfr dst (bU hfr y)))
  ·cases h
 |alloc t=>
  simp only[pB]at h
  have ht:E.tk t≠ .other:=by
   intro hk;rw[hk]at h;cases h
  have h':out= .next (put E fr dst (.ptr st.length [])) (st++[.box false (zeroV E t)]):=by
   cases hk:E.tk t<;>rw[hk]at h<;>first|exact absurd hk ht|(cases h;rfl)
  subst h'
  obtain⟨u,hu,hv,hf⟩:=Ju HS hst ht
  obtain⟨m,hvp⟩:=En HS hst hf hv
  refine j2 (y:= .pointer (some ⟨w.heap.size,0,none⟩)) (w':=w.alloc (.cells u.cells t)) ?_ (hp _ _ _ m.f (fo (hfr.mv m) dst hvp))
  simp[execOp,Instr.alloc,hu,uD]
 |box t x=>
  simp only[pB]at h
  obtain⟨hf,h⟩:=Tree.aO h
  cases h
  obtain⟨m,hvp⟩:=En HS hst hf (bU hfr x)
  refine j2 (y:= .pointer (some ⟨w.heap.size,0,none⟩)) (w':=w.alloc (.cells (a.eval x).cells t)) ?_ (hp _ _ _ m.f (fo (hfr.mv m) dst hvp))
  simp[execOp,Instr.box,uD]
 |build t ps=>
  simp only[pB]at h
  obtain⟨v,hv,h⟩:=Tree.aB h
  have:=bW h;subst this
  exact ee hst hfr (O7 HS hst (oJ hfr ps.toList) hv) (by rw[←lX];rfl) hp
 |buildSlice t n ps=>
  simp only[pB]at h
  split at h
  ·obtain⟨v,hv,h⟩:=Tree.aB h
   have:=bW h;subst this
   exact nt hfr (nJ HS hst (oJ hfr ps.toList) hv) (by rw[←lX];rfl) hp
  ·obtain⟨v,hv,h⟩:=Tree.aB h
   have:=bW h;subst this
   exact nt hfr (nJ HS hst (oJ hfr ps.toList) hv) (by rw[←lX];rfl) hp
  ·obtain⟨v,hv,h⟩:=Tree.aB h
   have:=bW h;subst this
   obtain⟨mf,_⟩:=fS (live E st (bg (ps.toList.map fun x=>bY E fr x.2))) hst
   have hfr1:=hfr.mv mf
   have hps:=wB.ye HS.todk mf.rep 0 (oJ hfr1 ps.toList)
   exact nt hfr1 (nJ HS mf.rep hps hv) (by rw[←lX];rfl) (Dg.later mf.f hp)
 |field t x j=>
  simp only[pB]at h
  obtain⟨v,hv,h⟩:=Tree.aB h
  have:=bW h;subst this
  exact ee hst hfr (MG HS hv (bU hfr x)) rfl hp
 |load t x=>
  simp only[pB]at h
  obtain⟨v,hv,h⟩:=Tree.aB h
  have:=bW h;subst this
  exact ee hst hfr (KR HS hst hv (bU hfr x)) rfl hp
 |store t x y=>
  simp only[pB]at h
  split at h
  ·obtain⟨st',hv,h⟩:=Tree.aB h
   cases h
   obtain⟨w',hr,m⟩:=CV HS hst hv (bU hfr x) (bU hfr y)
   exact H3 (w':=w') (by simp[execOp,hr]) (hp _ _ _ m.f (fo (hfr.mv m) dst (.undef _)))
  ·obtain⟨st',hv,h⟩:=Tree.aB h
   cases h
   obtain⟨w',hr,m⟩:=CV HS hst hv (bU hfr x) (bU hfr y)
   exact H3 (w':=w') (by simp[execOp,hr]) (hp _ _ _ m.f (fo (hfr.mv m) dst (.undef _)))
  ·obtain⟨st',hv,h⟩:=Tree.aB h
   cases h
   obtain⟨mf,_⟩:=fS (live E st (rowsOf E (bY E fr x) (bY E fr y))) hst
   have hfr1:=hfr.mv mf
   obtain⟨w',hr,m⟩:=CV HS mf.rep hv (bU hfr1 x) (aZ.ye HS.todk mf.rep 0 (bU hfr1 y))
   exact H3 (w':=w') (by simp[execOp,hr]) (hp _ _ _ (mf.f.trans m.f) (fo (hfr1.mv m) dst (.undef _)))
 |nilCheck x=>
  simp only[pB]at h
  have hx:=bU hfr x
  split at h
  ·rename_i p q hq
   have:=bW h;subst this
   refine j2 (y:=a.eval x) (w':=w) ?_ (hp σ w _ (Mf.refl hst) (fo hfr dst (by rw[←hq];exact bU hfr x)))
   rw[hq]at hx
   generalize hu:a.eval x=u at hx
   cases hx with
   |data t d cs hv=>cases hv
   |ptr p q b hb hl=>simp[execOp,hu]
  ·rename_i t y hq
   have:=bW h;subst this
   refine j2 (y:=a.eval x) (w':=w) ?_ (hp σ w _ (Mf.refl hst) (fo hfr dst (by rw[←hq];exact bU hfr x)))
   rw[hq]at hx
   generalize hu:a.eval x=u at hx
   cases hx with
   |data t d cs hv=>cases hv
   |dZ t y b cs hc hm=>simp[execOp,hu]
  ·rename_i f c hq
   have:=bW h;subst this
   refine j2 (y:=a.eval x) (w':=w) ?_ (hp σ w _ (Mf.refl hst) (fo hfr dst (by rw[←hq];exact bU hfr x)))
   rw[hq]at hx
   generalize hu:a.eval x=u at hx
   cases hx with
   |data t d cs hv=>cases hv
   |fn f vs us hr=>simp[execOp,hu]
  ·cases h
 |binOp op t x y rS=>
  simp only[pB]at h
  split at h
  ·rename_i b hb
   obtain⟨hi,h⟩:=Tree.aO h
   have:=bW h;subst this
   exact ee hst hfr ⟨_,Sy HS hi hb (bU hfr x) (bU hfr y),gx b⟩ rfl hp
  ·obtain⟨v,hv,h⟩:=Tree.aB h
   have:=bW h;subst this
   exact ee hst hfr (SG HS hst x y hv (bU hfr x) (bU hfr y)) rfl hp
 |unOp op t x=>
  simp only[pB]at h
  obtain⟨v,hv,h⟩:=Tree.aB h
  have:=bW h;subst this
  exact ee hst hfr (UP hv (bU hfr x)) rfl hp
 |convert src dst' x=>
  simp only[pB]at h
  obtain⟨p,hv,h⟩:=Tree.aB h
  have:=bW h;subst this
  exact nt hfr (KW HS hst hv (bU hfr x)) rfl hp
 |makeInterface t x=>
  simp only[pB]at h
  split at h
  ·rename_i ty hk
   obtain⟨y,hy,h⟩:=Tree.aB h
   rw[Tree.dB]at hy
   obtain⟨hf,h⟩:=Tree.aO h
   have:=bW h;subst this
   obtain⟨cs,hvt,he⟩:=np (toData_mono st depth hy) (bU hfr x)
   have hc:=toData_nil HS.todk depth hy hvt
   refine ee hst hfr (v:= .fG t (.val ty y)) (s:=Instr.makeInterface t (a.eval x)) ⟨.iface t (a.eval x),?_,.fG _ _ _ (by rw[he];exact .data ty _ cs (.val ty y cs hc))⟩ rfl hp
   have hd:=(HS.data t ty hk).desc
   unfold Instr.makeInterface
   cases ty with
   |bool=>simp[bq hd]
   |int k=>simp[bq hd]
   |str=>simp[bq hd]
   |slice e=>obtain⟨te,hu,_⟩:=hd;simp[bq hu]
   |arr n e=>obtain⟨te,hu,_⟩:=hd;simp[bq hu]
   |named i=>obtain⟨fs,hu,_⟩:=hd;simp[bq hu]
  ·cases h
 |makeFunc f first captured=>
  cases f with
  |func f=>
   simp only[pB]at h
   obtain⟨hf,h⟩:=Tree.aO h
   have:=bW h;subst this
   have hfe:first= #[]:=by
    rw[List.isEmpty_iff]at hf
    exact Array.toList_eq_nil_iff.1 hf
   subst hfe
   refine j2 (y:= .func (.func f) #[] (captured.map a.eval)) (w':=w) (by simp[execOp,Instr.makeFunc]) (hp σ w _ (Mf.refl hst) (fo hfr dst ?_))
   have:=aZ.fn (E:=E) (σ:=σ) (st:=st) (w:=w) (M:=MB σ st) f _ _ (xZ hfr captured.toList)
   rw[lX];exact this
  |_=>cases h
 |makeSlice t l c=>
  simp only[pB]at h
  obtain⟨p,hv,h⟩:=Tree.aB h
  have:=bW h;subst this
  exact nt hfr (zp HS hst (bU hfr l) (bU hfr c) hv) rfl hp
 |slice t x lo hi mx=>
  simp only[pB]at h
  obtain⟨p,hv,h⟩:=Tree.aB h
  have:=bW h;subst this
  exact nt hfr (OX HS hst (bU hfr x) (Iv hfr lo) (Iv hfr hi) (Iv hfr mx) hv) rfl hp
 |fieldAddr t x j=>
  simp only[pB]at h
  obtain⟨v,hv,h⟩:=Tree.aB h
  have:=bW h;subst this
  exact ee hst hfr (GN HS hv (bU hfr x)) rfl hp
 |indexAddr t x i=>
  simp only[pB]at h
  obtain⟨v,hv,h⟩:=Tree.aB h
  have:=bW h;subst this
  exact ee hst hfr (GM HS hst hv (bU hfr x) (bU hfr i)) rfl hp
 |index t x i=>
  simp only[pB]at h
  obtain⟨v,hv,h⟩:=Tree.aB h
  have:=bW h;subst this
  exact ee hst hfr (O0 HS hv (bU hfr x) (bU hfr i)) rfl hp
 |typeAssert x xt t ok=>
  cases ok with
  |false=>cases h
  |true=>
   simp only[pB]at h
   split at h
   ·rename_i ty hk
    have hx:=bU hfr x
    have hzv:=mZ (σ:=σ) (st:=st) (w:=w) (M:=MB σ st) HS.todk depth ty (HS.data t ty hk).deep
    have hzr:=tJ HS hk w
    have hund: ∃d,P.underlying t=some d∧ ∀m,d≠ .interface m:=by
     have hd:=(HS.data t ty hk).desc
     cases ty with
     |bool=>exact⟨_,hd,fun _ h=>by cases h⟩
     |int k=>exact⟨_,hd,fun _ h=>by cases h⟩
     |str=>exact⟨_,hd,fun _ h=>by cases h⟩
     |slice e=>obtain⟨te,hu,_⟩:=hd;exact⟨_,hu,fun _ h=>by cases h⟩
     |arr n e=>obtain⟨te,hu,_⟩:=hd;exact⟨_,hu,fun _ h=>by cases h⟩
     |named i=>obtain⟨fs,hu,_⟩:=hd;exact⟨_,hu,fun _ h=>by cases h⟩
    obtain⟨d,hu,hnd⟩:=hund
    have hfail:aZ E σ st w (MB σ st) (.jk [iN E depth ty,.val .bool false]) (.tuple #[toV ty (dV E depth ty),.bool false]):=
     .jk _ [_,_] (.cons _ _ _ _ (.data ty _ _ hzv) (.cons _ _ _ _ (gx false) .nil))
    split at h
    ·rename_i t' v hq
     rw[hq]at hx
     generalize hxu:a.eval x=ux at hx
     cases hx with
     |data t d cs hv=>cases hv
     |fG t' v u hv=>
      cases hb:Nat.beq t' t with
      |true=>
       rw[hb]at h
       have:=bW h;subst this
       have htt:=Nat.eq_of_beq_eq_true hb;subst htt
       refine ee hst hfr (s:=Instr.typeAssert (a.eval x) xt t' true) ⟨.tuple #[u,.bool true],?_,.jk _ [_,_] (.cons _ _ _ _ hv (.cons _ _ _ _ (gx true) .nil))⟩ rfl hp
       rw[hxu];exact RT hu hnd
      |false=>
       rw[hb]at h
       have:=bW h;subst this
       refine ee hst hfr (s:=Instr.typeAssert (a.eval x) xt t true) ⟨_,?_,hfail⟩ rfl hp
       have hne: ¬t'=t:=fun h=>by rw[h,Nat.beq_refl]at hb;cases hb
       rw[hxu];exact PX hu hnd hne hzr
    ·rename_i hq
     have:=bW h;subst this
     refine ee hst hfr (s:=Instr.typeAssert (a.eval x) xt t true) ⟨_,?_,hfail⟩ rfl hp
     rw[hq]at hx
     generalize hxu:a.eval x=ux at hx
     cases hx with
     |data t d cs hv=>cases hv
     |cr=>
      exact RS hu hnd hzr
    ·cases h
   ·cases h
 |extract t i=>
  simp only[pB]at h
  have hx:=bU hfr t
  split at h
  ·rename_i vs hq
   split at h
   ·rename_i v hn
    have:=bW h;subst this
    rw[hq]at hx
    generalize hu:a.eval t=u at hx
    cases hx with
    |data t d cs hv=>cases hv
    |jk vs us hr=>
     obtain⟨y,hy,hv⟩:=aW.get hr hn
     refine ee hst hfr (s:=Instr.extract (a.eval t) i) ⟨y,?_,hv⟩ rfl hp
     rw[hu]
     simp[Instr.extract,hy]
   ·cases h
  ·cases h
 |panic x=>
  simp only[pB]at h
  have hx:=bU hfr x
  split at h
  ·rename_i t v hq
   cases h
   rw[←hq]at hp
   have:=hp σ w (a.eval x) (Mf.refl hst) hfr hx
   rw[hq]at hx
   generalize hu:a.eval x=u at*
   cases hx with
   |data t d cs hv=>cases hv
   |fG t v u hv=>
    unfold Oper.wp
    simp only[execOp,hu]
    simpa [Instr.panic,goPanic,Sem.run_bind,Oper.upon]using this
  ·cases h
 |defer c=>
  obtain⟨callee,args,ats⟩:=c
  cases callee with
  |value f=>
   simp only[pB]at h
   have hf:=bU hfr f
   split at h
   ·rename_i g cap hq hd
    cases h
    rw[hq]at hf
    generalize hu:a.eval f=u at hf
    cases hf with
    |data t d cs hv=>cases hv
    |fn g cap us hr=>
     unfold Oper.wp
     simp only[execOp,resolve,hu,Deferred.ofValue]
     have hdd:a.defers=[]:=by
      have:=hfr.d
      rw[hd]at this
      generalize a.defers=dd at this
      cases this;rfl
     simp only[Sem.run_bind,Sem.run_pure,Result.andThen_ok,Oper.upon]
     have hfr2:cf E σ st w {fr with d:=[(g,args.toList.map (bY E fr)++cap)]} {a with defers:={target:= .fn (.func g) us.toArray,args:= #[]++args.map a.eval} ::a.defers}:=by
      refine⟨hfr.s,?_⟩
      rw[hdd]
      refine .cons g _ _ _ [] [] ?_ .nil
      have:=aW.append (xZ hfr args.toList) hr
      rw[lX]
      simpa using this
     exact hp σ w _ (Mf.refl hst) (fo hfr2 dst (.undef _))
   ·cases h
  |_=>cases h
 |call c=>
  obtain⟨callee,args,ats⟩:=c
  cases callee with
  |value f=>
   simp only[pB]at h
   obtain⟨e,he,h⟩:=Tree.aB h
   cases h
   exact HC hst hfr rfl he hp
  |builtin b=>
   simp only[pB]at h
   unfold BX at h
   have hargs:=xZ hfr args.toList
   have hbi:(execOp a.eval {dst:=dst,op:= .call {callee:= .builtin b,args:=args,argTypes:=ats},type:=type,pos:=pos,after:=aft,guard:=guard}:Sem Next)=
     (do let d←(pure {target:= .builtin b ats type (args.map fun| .const _=>true|_=>false),args:=(args.toList.map a.eval).toArray}:Sem Deferred);invoke d.target d.args):=by
    rw[←lX];rfl
   generalize args.toList.map a.eval=us at hargs hbi
   split at h
   ·rename_i x t ts hx hts
    rw[hx]at hargs
    obtain⟨v,hv,h⟩:=Tree.aB h
    have:=bW h;subst this
    cases hargs with
    |cons x r u us hu hn=>
     cases hn
     obtain⟨y,hy,hvy⟩:=SB (ty:=type) HS hst (ts:=ats) (by rw[←Array.getElem?_toList,hts];rfl) hv hu
     refine j2 (y:=y) (w':=w) ?_ (hp σ w _ (Mf.refl hst) (fo hfr dst hvy))
     rw[hbi]
     simp[invoke,builtin,hy]
   ·rename_i x r hx
    rw[hx]at hargs
    obtain⟨v,hv,h⟩:=Tree.aB h
    have:=bW h;subst this
    cases hargs with
    |cons x r' u us hu hn=>
     obtain⟨y,hy,hvy⟩:=FT (P:=P) (mx:=false) r hv hu hn
     refine j2 (y:=y) (w':=w) ?_ (hp σ w _ (Mf.refl hst) (fo hfr dst hvy))
     rw[hbi]
     simp only at hy
     simp[invoke,builtin,Builtin.min_,hy]
   ·rename_i x r hx
    rw[hx]at hargs
    obtain⟨v,hv,h⟩:=Tree.aB h
    have:=bW h;subst this
    cases hargs with
    |cons x r' u us hu hn=>
     obtain⟨y,hy,hvy⟩:=FT (P:=P) (mx:=true) r hv hu hn
     refine j2 (y:=y) (w':=w) ?_ (hp σ w _ (Mf.refl hst) (fo hfr dst hvy))
     rw[hbi]
     simp only at hy
     simp[invoke,builtin,Builtin.max_,hy]
   ·rename_i s x t tx hx hts
    rw[hx]at hargs
    have hats:ats= #[t,tx]:=by apply Array.ext';simpa using hts
    subst hats
    obtain⟨p,hv,h⟩:=Tree.aB h
    cases hargs with
    |cons s r us u' hs hn=>
     cases hn with
     |cons x r u u' hxr hn=>
      cases hn
      cases s with
      |bj=>
       cases h
       obtain⟨y,w',σ',hr,m,hvy⟩:=I9 (ty:=type) HS hst hs hxr hv
       refine j2 (y:=y) (w':=w') ?_ (hp σ' w' _ m.f (fo (hfr.mv m) dst hvy))
       rw[hbi]
       simp[invoke,builtin,hr]
      |own o=>
       cases h
       obtain⟨y,w',hr,m,hvy⟩:=K3 (ty:=type) HS hst hs hxr hv
       refine j2 (y:=y) (w':=w') ?_ (hp _ w' _ m.f (fo (hfr.mvx hst m) dst hvy))
       rw[hbi]
       simp[invoke,builtin,hr]
      |_=>cases hv
   ·cases h
  |_=>cases h
 |_=>cases h
end
end
open Go
noncomputable section
section
variable {P:Program} {E:Env} {w w' w'':World} {σ σ' σ'':Sg} {st st' st'':St E.T} {M:Nat→Prop}
theorem Mv.still (hst:bm E σ st w) (h1:w'.os=w.os) (h2:w'.tape=w.tape) (h3:w'.output=w.output) (h4:w.heap.size≤w'.heap.size) (h5: ∀b,b<w.heap.size→w'.heap[b]? =w.heap[b]?):Mv σ σ st st w w':=
 Mv.mk' hst ⟨h1,h2,h3,h4,fun b hb _=>h5 b hb,fun _ _ h=>h⟩ (yv.refl _ _) ⟨rfl,fun b h=>h5 b (hst.qh b h)⟩ (fun _ _=>rfl) hst.out (fun p q hp=> .inl ⟨hp,fun g hg hd=>h5 g (lO hst hp hd hg)⟩) hst.apart
theorem FX (ok:dk E) (hst:bm E σ st w) (hM: ∀b,M b→MB σ st b) (σ':Sg) (st':St E.T): ∀(ps:List Ty) {vs ds:List (az E.T)} {us:List Value},zr E st ps vs=some ds→aW E σ st w (MB σ st) vs us→
  (∀k∈bg vs,∀l e xs b,aR st k=some (.arr l e xs)→lf (σ k)=some b→ ¬M b)→aW E σ' st' w M ds us
 |[],[],ds,us,h,hv,_=>by cases h;cases hv;exact .nil
 |t::ts,v::vs,ds,us,h,hv,hr=>by
  cases hv with
  |cons v vs u us hv hvs=>
   simp only[zr]at h
   split at h
   ·rename_i x hx
    split at h
    ·rename_i r hr'
     cases h
     obtain⟨cs,hvt,rfl⟩:=np hx hv
     have hc:=toData_ok ok hst hM depth (fun k hk=>hr k (by simp[bg,hk])) hx hvt
     exact .cons _ _ _ _ (.data t _ cs (.val t x cs hc)) (FX ok hst hM σ' st' ts hr' hvs (fun k hk=>hr k (by simp[bg,hk])))
    ·cases h
   ·cases h
 |[],_::_,ds,us,h,_,_=>by simp[zr]at h
 |_::_,[],ds,us,h,_,_=>by simp[zr]at h
theorem tY (ok:dk E) (hst:bm E σ st w) (hM: ∀b,M b→MB σ st b): ∀(ps:List TK) {vs ds:List (az E.T)} {us:List Value},lN E st ps vs=some ds→aW E σ st w (MB σ st) vs us→
  (∀k∈cG E st ps vs,∀l e xs b,aR st k=some (.arr l e xs)→lf (σ k)=some b→ ¬M b)→aW E σ st w M ds us
 |[],[],ds,us,h,hv,_=>by cases h;cases hv;exact .nil
 |tk::ts,v::vs,ds,us,h,hv,hr=>by
  cases hv with
  |cons v vs u us hv hvs=>
   cases tk with
   |data t=>
    simp only[lN]at h
    split at h
    ·rename_i x hx
     split at h
     ·rename_i r hr'
      cases h
      obtain⟨cs,hvt,rfl⟩:=np hx hv
      have hc:=toData_ok ok hst hM depth (fun k hk=>hr k (by simp[cG,hk])) hx hvt
      exact .cons _ _ _ _ (.data t _ cs (.val t x cs hc)) (tY ok hst hM ts hr' hvs (fun k hk=>hr k (by simp[cG,hk])))
     ·cases h
    ·cases h
   |other=>cases h
   |_=>
    simp only[lN]at h
    split at h
    ·split at h
     ·rename_i r hr'
      cases h
      exact .cons _ _ _ _ (aZ.aH (Kept.weaken hM) hv (fun k _=>ib.refl k)) (tY ok hst hM ts hr' hvs (fun k hk=>hr k (by simpa [cG]using hk)))
     ·cases h
    ·cases h
 |[],_::_,ds,us,h,_,_=>by simp[lN]at h
 |tk::_,[],ds,us,h,_,_=>by cases tk<;>simp[lN]at h
mutual
theorem cx.flat {w':World} {M M':Nat→Prop}: ∀{t:Ty} {x:I E.T t} {cs:List Value},cx E w M t x cs→ ∀(n:Nat),tf E n t=true→cx E w' M' t x cs
 |_,_,_,.bool b,_,_=> .bool b
 |_,_,_,.int k x,_,_=> .int k x
 |_,_,_,.str s h,_,_=> .str s h
 |_,_,_,.named i x cs hf,0,h=>by cases h
 |_,_,_,.named i x cs hf,n+1,h=> .named i x cs (l7.flat hf n (by simpa [tf]using h))
 |_,_,_,.slice e xs a cap cs hl hm hn hc,0,h=>by cases h
 |_,_,_,.slice e xs a cap cs hl hm hn hc,n+1,h=>by cases h
 |_,_,_,.arr m e xs cs hn hl,0,h=>by cases h
 |_,_,_,.arr m e xs cs hn hl,n+1,h=> .arr m e xs cs hn (bD.flat hl n (by simpa [tf]using h))
theorem l7.flat {w':World} {M M':Nat→Prop}: ∀{ts:List Ty} {r:HL E.T ts} {cs:List Value},l7 E w M ts r cs→ ∀(n:Nat),(∀t∈ts,tf E n t=true)→l7 E w' M' ts r cs
 |_,_,_,.nil,_,_=> .nil
 |_,_,_,.cons t ts x r c1 c2 h1 h2,n,h=> .cons t ts x r c1 c2 (cx.flat h1 n (h t (by simp))) (l7.flat h2 n (fun t ht=>h t (by simp[ht])))
theorem bD.flat {w':World} {M M':Nat→Prop}: ∀{e:Ty} {xs:List (I E.T e)} {cs:List Value},bD E w M e xs cs→ ∀(n:Nat),tf E n e=true→bD E w' M' e xs cs
 |_,_,_,.nil e,_,_=> .nil e
 |_,_,_,.cons e x r c1 c2 h1 h2,n,h=> .cons e x r c1 c2 (cx.flat h1 n h) (bD.flat h2 n h)
end
theorem aZ.flat {M':Nat→Prop} {d:az E.T} {u:Value} (hf:Ny E d=true) (h:aZ E σ st w M d u):aZ E σ' st' w' M' d u:=by
 cases h with
 |data t d cs h=>
  cases h with
  |val t x cs h=>exact .data t _ cs (.val t x cs (cx.flat h depth hf))
  |_=>cases hf
 |_=>cases hf
theorem aW.flat {M':Nat→Prop}: ∀{ds:List (az E.T)} {us:List Value},aW E σ st w M ds us→ds.all (Ny E)=true→aW E σ' st' w' M' ds us
 |_,_,.nil,_=> .nil
 |_,_,.cons v r u us h h',hf=>by
  simp only[List.all_cons,Bool.and_eq_true]at hf
  exact .cons _ _ _ _ (aZ.flat hf.1 h) (aW.flat h' hf.2)
def pZ (E:Env) (σ:Sg) (st:St E.T) (w:World):iR E.T→Ending→Prop
 | .ret vs,.returned v=>aZ E σ st w (MB σ st) (Cr E vs) v
 | .panic v,.panicked chain=> ∃u,chain=[{v:=u,recovered:=false}]∧aZ E σ st w (MB σ st) v u
 |_,_=>False
theorem pZ.map {r:iR E.T} {e:Ending} (h:pZ E σ st w r e) (hv: ∀d u,aZ E σ st w (MB σ st) d u→aZ E σ' st' w' (MB σ' st') d u):pZ E σ' st' w' r e:=by
 cases r<;>cases e<;>first|exact h.elim|skip
 ·exact hv _ _ h
 ·obtain⟨u,h1,h2⟩:=h;exact⟨u,h1,hv _ _ h2⟩
theorem pZ.flat {r:iR E.T} {e:Ending} (hf:vA E r=true) (h:pZ E σ st w r e):pZ E σ' st' w' r e:=by
 cases r<;>cases e<;>first|exact h.elim|skip
 ·rename_i vs u
  simp only[pZ,vA]at h hf⊢
  unfold Cr at h⊢
  split
  ·rename_i v
   simp only[List.all_cons,List.all_nil,Bool.and_true]at hf
   exact aZ.flat hf h
  ·rename_i hne
   split at h
   ·rename_i v;exact absurd rfl (hne v)
   ·cases h with
    |data t d cs h=>cases h
    |jk vs us h=>exact .jk vs us (aW.flat h hf)
 ·obtain⟨u,h1,h2⟩:=h
  refine⟨u,h1,?_⟩
  rename_i v chain
  cases h2 with
  |fG t d u h=>exact .fG t d u (aZ.flat hf h)
  |data t d cs h=>cases h<;>cases hf
  |_=>cases hf
def Enters (P:Program) (f:FuncId):Prop:= ∀(us:Array Value) (w:World),(callFunc f us).run P w= .ok (.enter f us) w
def GQ (E:Env) (σ:Sg) (st st':St E.T) (w:World) (r:iR E.T) (e:Ending) (w':World):Prop:= ∃σ',Mf σ σ' st st' w w'∧pZ E σ' st' w' r e
def tu (P:Program) (E:Env) (f:FuncId) (F:List (az E.T)→St E.T→Tree (iR E.T×St E.T)):Prop:=
 ∀{σ:Sg} {st:St E.T} {w:World} {ds:List (az E.T)} {us:List Value} {r:iR E.T} {st':St E.T},bm E σ st w→aW E σ st w (MB σ st) ds us→(F ds st).get=some (r,st')→Calls P f us.toArray w (GQ E σ st st' w r)
def Jm (P:Program) (E:Env) (f:FuncId) (F:List (az E.T)→Tree (iR E.T)):Prop:=
 ∀{σ:Sg} {w:World} {ds:List (az E.T)} {us:List Value} {r:iR E.T},bm E σ [] w→aW E σ [] w (MB σ ([]:St E.T)) ds us→(F ds).get=some r→Calls P f us.toArray w (GQ E σ [] [] w r)
def nQ (P:Program) (E:Env) (f:FuncId):Spec E→Prop
 | .pure _ F=>Enters P f∧Jm P E f F
 | .full _ _ F=>Enters P f∧tu P E f F
variable {K:Act→World→Prop} {Q:Exit→Act→World→Prop} {a:Act} {fr fr1:Fr E.T}
def AQ (E:Env) (σ:Sg) (st:St E.T) (w:World):tv E.T→Ending→Prop
 | .val v,.returned u=>aZ E σ st w (MB σ st) v u
 | .panic v,.panicked chain=> ∃u,chain=[{v:=u,recovered:=false}]∧aZ E σ st w (MB σ st) v u
 |_,_=>False
theorem Ro {dst:Option Tmp} {r:tv E.T} {en:Ending} {e:rT E.T} (he:e.res=r) (hm:Mf σ σ' st (dJ E st e) w w') (hfr:cf E σ' (dJ E st e) w' (dy E st e.ks fr) a)
  (hr:AQ E σ' (dJ E st e) w' r en) (hp:Dg E σ st w K Q a (cI E fr st dst e)):
  match en with
  | .returned v=>K (a.put dst v) w'
  | .panicked chain=>Q (.panic chain) a w'
  | .outgrown=>LetsOut Q:=by
 unfold cI at hp
 rw[he]at hp
 cases r<;>cases en<;>first|exact hr.elim|skip
 ·exact hp σ' w' _ hm (fo hfr dst hr)
 ·obtain⟨u,rfl,hv⟩:=hr
  exact hp σ' w' u hm hfr hv
theorem uF {r:iR E.T} {en:Ending} (h:pZ E σ st w r en):AQ E σ st w (vF E r) en:=by
 cases r<;>cases en<;>first|exact h.elim|exact h
end
end
open Go
noncomputable section
section
variable {P:Program} {E:Env} {w w' w'':World} {σ σ' σ'':Sg} {st st' st'':St E.T} {M:Nat→Prop}
theorem kW: ∀(ks:List Nat) {st:St E.T} (o:Nat),(∀k∈ks,k<st.length)→aR (y0 E ks st) o=if o∈ks then some .dead else aR st o
 |[],st,o,_=>by simp[y0]
 |k::r,st,o,h=>by
  rw[y0,kW r o (fun j hj=>by rw[dH];exact h j (by simp[hj]))]
  by_cases hr:o∈r
  ·rw[if_pos hr,if_pos (by simp[hr])]
  ·rw[if_neg hr,bE]
   by_cases hk:k=o
   ·subst hk
    rw[if_pos ⟨rfl,h k (by simp)⟩,if_pos (by simp)]
   ·rw[if_neg (fun h=>hk h.1),if_neg (by simp[hr];exact fun h=>hk h.symm)]
theorem xB: ∀(ks:List Nat) {st:St E.T},(y0 E ks st).length=st.length
 |[],st=>rfl
 |k::r,st=>by rw[y0,xB r,dH]
theorem Dw (old:St E.T): ∀(ks:List Nat) {st:St E.T} (o:Nat),(∀k∈ks,k<st.length∧k<old.length)→aR (iT E old ks st) o=if o∈ks then aR old o else aR st o
 |[],st,o,_=>by simp[iT]
 |k::r,st,o,h=>by
  obtain⟨h1,h2⟩:=h k (by simp)
  have hk:aR old k=some (old[k]):=by rw[cT];exact List.getElem?_eq_getElem h2
  rw[iT,hk]
  rw[Dw old r o (fun j hj=>by rw[dH];exact h j (by simp[hj]))]
  by_cases hr:o∈r
  ·rw[if_pos hr,if_pos (by simp[hr])]
  ·rw[if_neg hr,bE]
   by_cases hko:k=o
   ·subst hko
    rw[if_pos ⟨rfl,h1⟩,if_pos (by simp),hk]
   ·rw[if_neg (fun h=>hko h.1),if_neg (by simp[hr];exact fun h=>hko h.symm)]
theorem lZ (old:St E.T): ∀(ks:List Nat) {st:St E.T},(iT E old ks st).length=st.length
 |[],st=>rfl
 |k::r,st=>by
  rw[iT]
  split
  ·rw[lZ old r,dH]
  ·rw[lZ old r]
theorem Fe {o k:Nat} {ob:Obj E.T} (h:aR st o=some ob) (hk:k∈cd E ob):k∈iX E st:=by
 unfold iX
 rw[List.mem_flatMap]
 refine⟨ob,?_,hk⟩
 rw[cT]at h
 exact List.mem_of_getElem? h
def yx (σ:Sg) (gm:List Nat):Sg:={σ with m:=fun b=>σ.m b∨ ∃k∈gm,lf (σ k)=some b}
structure Gv (E:Env) (st:St E.T) (gm:List Nat):Prop where
 row: ∀k∈gm,∃e xs,aR st k=some (.arr .live e xs)
 free: ∀k∈gm,k∉iX E st
theorem Gv.lt {gm:List Nat} (h:Gv E st gm): ∀k∈gm,k<st.length:=fun k hk=>by
 obtain⟨e,xs,hh⟩:=h.row k hk;exact bM hh
theorem BK {gm:List Nat} (h:Gv E st gm) {b:Nat} (hb:MB (yx σ gm) (y0 E gm st) b):MB σ st b:=by
 rcases hb with(hb|⟨k,hk,hb⟩)|⟨o,ob,ho,hm,hb⟩
 ·exact .inl hb
 ·obtain⟨e,xs,hh⟩:=h.row k hk
  exact .inr ⟨k,_,hh,rfl,hb⟩
 ·rw[kW gm o h.lt]at ho
  split at ho
  ·cases ho;cases hm
  ·exact .inr ⟨o,ob,ho,hm,hb⟩
theorem Hw {gm:List Nat} (h:Gv E st gm) {k:Nat} (hk:k∉gm):ib σ (yx σ gm) st (y0 E gm st) k:=
 ⟨rfl,fun l e xs hh=>⟨l,xs,by rw[kW gm k h.lt,if_neg hk];exact hh⟩,fun hl=>by rw[xB];exact hl⟩
theorem QI {gm:List Nat} (hst:bm E σ st w) (h:Gv E st gm):bm E (yx σ gm) (y0 E gm st) w:=by
 have hb: ∀{o ob},aR (y0 E gm st) o=some ob→dz ob=false→o∉gm∧aR st o=some ob:=by
  intro o ob ho hd
  rw[kW gm o h.lt]at ho
  split at ho
  ·cases ho;cases hd
  ·rename_i hn;exact⟨hn,ho⟩
 refine⟨fun o ob ho=> ?_,fun o o' ob ob' b hne ho ho' hm hd hb1 hb2=> ?_,fun b hb1=> ?_,fun o ob b ho hd hb1=> ?_⟩
 ·cases hd:dz ob with
  |true=>cases ob<;>first|exact .dead _|cases hd
  |false=>
   obtain⟨hn,h1⟩:=hb ho hd
   exact cW.aH (Kept.weaken fun b hb=>BK h hb) (fun _ _=>rfl) (fun k hk=>Hw h (fun hkh=>h.free k hkh (Fe h1 hk))) (hst.obj o ob h1)
 ·obtain⟨_,h1⟩:=hb ho (by cases ob<;>first|rfl|cases hm)
  obtain⟨_,h2⟩:=hb ho' hd
  exact hst.apart o o' ob ob' b hne h1 h2 hm hd hb1 hb2
 ·rcases hb1 with hb1|⟨k,hk,hb1⟩
  ·exact hst.qh b hb1
  ·obtain⟨e,xs,hh⟩:=h.row k hk
   exact lO hst hh rfl hb1
 ·obtain⟨hn,h1⟩:=hb ho hd
  rintro(hm|⟨k,hk,hbk⟩)
  ·exact hst.out o ob b h1 hd hb1 hm
  ·obtain⟨e,xs,hh⟩:=h.row k hk
   exact hst.apart k o _ ob b (fun hko=>hn (by rw[←hko];exact hk)) hh h1 rfl hd hbk hb1
theorem NZ {gm:List Nat} {s1:St E.T} (hst:bm E σ st w) (h:Gv E st gm) (m:Mf (yx σ gm) σ' (y0 E gm st) s1 w w'):
  ∃σ'':Sg,Mf σ σ'' st (iT E st gm s1) w w'∧(∀d u,aZ E σ' s1 w' (MB σ' s1) d u→aZ E σ'' (iT E st gm s1) w' (MB σ'' (iT E st gm s1)) d u)∧
   ∀k,k<st.length→(k∈gm∨ ∀e xs,aR st k≠some (.arr .live e xs))→ib σ σ'' st (iT E st gm s1) k:=by
 have hlen:st.length≤s1.length:=by have:=m.stay.len;rwa [xB]at this
 have hun: ∀o,aR (iT E st gm s1) o=if o∈gm then aR st o else aR s1 o:=fun o=>Dw st gm o (fun k hk=>⟨Nat.lt_of_lt_of_le (h.lt k hk) hlen,h.lt k hk⟩)
 have hdead: ∀k∈gm,aR s1 k=some .dead:=by
  intro k hk
  obtain⟨ob',h1,t,_⟩:=m.stay.kind k .dead (by rw[kW gm k h.lt,if_pos hk])
  cases t;exact h1
 have hname: ∀k∈gm,σ' k=σ k:=fun k hk=>m.stay.same k .dead (by rw[kW gm k h.lt,if_pos hk]) rfl
 have hm':σ'.m=(yx σ gm).m:=m.qh.m
 let σ'':Sg:={σ' with m:=σ.m}
 have hMB1: ∀b,MB σ'' (iT E st gm s1) b→MB σ' s1 b:=by
  rintro b (hb|⟨o,ob,ho,hmu,hb⟩)
  ·exact .inl (by rw[hm'];exact .inl hb)
  ·rw[hun o]at ho
   split at ho
   ·rename_i ho'
    exact .inl (by rw[hm'];exact .inr ⟨o,ho',by rw[←hname o ho'];exact hb⟩)
   ·exact .inr ⟨o,ob,ho,hmu,hb⟩
 have hkept1:Kept (MB σ' s1) (MB σ'' (iT E st gm s1)) w' w':=Kept.weaken hMB1
 have hsame1: ∀k,ib σ' σ'' s1 (iT E st gm s1) k:=fun k=>⟨rfl,fun l e xs hh=>by
  by_cases hk:k∈gm
  ·rw[hdead k hk]at hh;cases hh
  ·exact⟨l,xs,by rw[hun k,if_neg hk];exact hh⟩,fun hl=>by rw[lZ];exact hl⟩
 have hkeep:wC (MB σ st) (MB σ'' (iT E st gm s1)) w w':=
  ⟨m.aH.os,m.aH.tape,m.aH.output,m.aH.size,fun b hb hM=>m.aH.block b hb (fun hb'=>hM (BK h hb')),fun b hb hM=>BK h (m.aH.may b hb (hMB1 b hM))⟩
 refine⟨σ'',⟨⟨fun o ob ho=> ?_,fun o o' ob ob' b hne ho ho' hmu hd hb1 hb2=> ?_,fun b hb=>Nat.lt_of_lt_of_le (hst.qh b hb) m.aH.size,fun o ob b ho hd hb=> ?_⟩,hkeep,⟨fun o ob ho hl=> ?_,fun o ob ho=> ?_⟩,⟨rfl,fun b hb=>m.qh.gm b (.inl hb)⟩⟩,fun d u hv=>aZ.aH hkept1 hv (fun k _=>hsame1 k),fun k hk hor=> ?_⟩
 ·rw[hun o]at ho
  split at ho
  ·rename_i ho'
   obtain⟨e,xs,hh⟩:=h.row o ho'
   rw[hh]at ho;cases ho
   have:=hst.obj o _ hh
   have hno:σ'' o=σ o:=hname o ho'
   rw[hno]
   exact cW.aH hkeep.kept (fun g hg=>m.qh.gm g (.inr ⟨o,ho',hg⟩)) (fun k hk=>by simp[cd]at hk) this
  ·exact cW.aH hkept1 (fun _ _=>rfl) (fun k _=>hsame1 k) (m.rep.obj o ob ho)
 ·rw[hun o]at ho
  rw[hun o']at ho'
  by_cases h1:o∈gm
  ·rw[if_pos h1]at ho
   by_cases h2:o'∈gm
   ·rw[if_pos h2]at ho'
    have e1:σ'' o=σ o:=hname o h1
    have e2:σ'' o'=σ o':=hname o' h2
    rw[e1]at hb1;rw[e2]at hb2
    exact hst.apart o o' ob ob' b hne ho ho' hmu hd hb1 hb2
   ·rw[if_neg h2]at ho'
    have e1:σ'' o=σ o:=hname o h1
    rw[e1]at hb1
    exact m.rep.out o' ob' b ho' hd hb2 (by rw[hm'];exact .inr ⟨o,h1,hb1⟩)
  ·rw[if_neg h1]at ho
   by_cases h2:o'∈gm
   ·have e2:σ'' o'=σ o':=hname o' h2
    rw[e2]at hb2
    exact m.rep.out o ob b ho (by cases ob<;>first|rfl|cases hmu) hb1 (by rw[hm'];exact .inr ⟨o',h2,hb2⟩)
   ·rw[if_neg h2]at ho'
    exact m.rep.apart o o' ob ob' b hne ho ho' hmu hd hb1 hb2
 ·rw[hun o]at ho
  split at ho
  ·rename_i ho'
   have e1:σ'' o=σ o:=hname o ho'
   rw[e1]at hb
   exact hst.out o ob b ho hd hb
  ·exact fun hm=>m.rep.out o ob b ho hd hb (by rw[hm'];exact .inl hm)
 ·have ho':o∉gm:=fun hh=>by
   obtain⟨e,xs,h1⟩:=h.row o hh
   rw[ho]at h1;cases h1;cases hl
  exact m.stay.same o ob (by rw[kW gm o h.lt,if_neg ho'];exact ho) hl
 ·by_cases ho':o∈gm
  ·exact⟨ob,by rw[hun o,if_pos ho'];exact ho,qy.refl ob,id⟩
  ·obtain⟨ob',h1,h2,h3⟩:=m.stay.kind o ob (by rw[kW gm o h.lt,if_neg ho'];exact ho)
   exact⟨ob',by rw[hun o,if_neg ho'];exact h1,h2,h3⟩
 ·by_cases hkh:k∈gm
  ·exact⟨hname k hkh,fun l e xs hh=>⟨l,xs,by rw[hun k,if_pos hkh];exact hh⟩,fun hl=>by rw[lZ];omega⟩
  ·have hor:=hor.resolve_left hkh
   have hget:aR st k=some (st[k]):=by rw[cT];exact List.getElem?_eq_getElem hk
   have hnl:mb (st[k])=false:=by
    cases hq:st[k]with
    |arr l e xs=>
     cases l with
     |live=>rw[hq]at hget;exact absurd hget (hor e xs)
     |_=>rfl
    |_=>rfl
   have hhid:aR (y0 E gm st) k=some (st[k]):=by rw[kW gm k h.lt,if_neg hkh];exact hget
   refine⟨m.stay.same k _ hhid hnl,fun l e xs hh=> ?_,fun hl=>by rw[lZ];omega⟩
   obtain⟨ob',h1,t,_⟩:=m.stay.kind k _ hhid
   rw[hget]at hh
   have hh:=Option.some.inj hh
   rw[hh]at t
   cases t with
   |arr l l' e xs xs'=>exact⟨l',xs',by rw[hun k,if_neg hkh];exact h1⟩
theorem tO (o:Nat):aR (lock E st) o=(aR st o).map (No E):=by unfold lock;rw[dx]
theorem IF {b:Nat} (h:MB σ (lock E st) b):σ.m b:=by
 rcases h with h|⟨o,ob,ho,hm,hb⟩
 ·exact h
 ·rw[tO]at ho
  obtain⟨q,_,rfl⟩:=Option.map_eq_some_iff.1 ho
  cases q<;>cases hm
theorem Hn (k:Nat):ib σ σ st (lock E st) k:=
 ⟨rfl,fun l e xs hh=>⟨.ba,xs,by rw[tO,hh];rfl⟩,fun hl=>by simpa [lock]using hl⟩
theorem Qw (hst:bm E σ st w):bm E σ (lock E st) w:=by
 refine⟨fun o ob ho=> ?_,fun o o' ob ob' b hne ho ho' hm hd hb1 hb2=> ?_,hst.qh,fun o ob b ho hd hb=> ?_⟩
 ·rw[tO]at ho
  obtain⟨q,hq,rfl⟩:=Option.map_eq_some_iff.1 ho
  have:=cW.aH (σ':=σ) (st':=lock E st) (M':=MB σ (lock E st)) (Kept.weaken fun b hb=> .inl (IF hb)) (fun _ _=>rfl) (fun k _=>Hn k) (hst.obj o q hq)
  generalize σ o=s at this
  cases this with
  |box ro d b c el fr hh hf hc=>exact .box true d b c el fr hh hf hc
  |arr l e xs v h=>exact .arr .ba e xs s h
  |dead v=>exact .dead s
 ·rw[tO]at ho
  obtain⟨q,_,rfl⟩:=Option.map_eq_some_iff.1 ho
  cases q<;>cases hm
 ·rw[tO]at ho
  obtain⟨q,hq,rfl⟩:=Option.map_eq_some_iff.1 ho
  exact hst.out o q b hq (by cases q<;>first|rfl|cases hd) hb
end
end
open Go
noncomputable section
section
variable {P:Program} {E:Env} {w w' w'':World} {σ σ' σ'':Sg} {st st' st'':St E.T} {M M':Nat→Prop}
structure DX (ρ:Nat→Nat) (σ σ':Sg) (st st':St E.T) (k:Nat):Prop where
 at_:σ' (ρ k)=σ k
 arr: ∀l e xs,aR st k=some (.arr l e xs)→ ∃l' xs',aR st' (ρ k)=some (.arr l' e xs')
 lt:k<st.length→ρ k<st'.length
mutual
theorem VT.D3 {ρ:Nat→Nat} (kp:Kept M M' w w'): ∀{t:Ty} {d:az E.T} {cs:List Value},VT E σ st w M t d cs→(∀k∈D.refs d,DX ρ σ σ' st st' k)→VT E σ' st' w' M' t (rn ρ d) cs
 |_,_,_,.val t x cs h,hs=>by unfold rn;exact .val t x cs (cx.aH kp h)
 |_,_,_,.bj e a,hs=>by unfold rn;exact .bj e a
 |_,_,_,.own k l e xs h,hs=>by
  unfold rn
  have hk:=hs k (by simp[D.refs])
  obtain⟨l',xs',h'⟩:=hk.arr l e xs h
  have:=VT.own (σ:=σ') (w:=w') (M:=M') (ρ k) l' e xs' h'
  rwa [hk.at_]at this
 |_,_,_,.dA e v h,hs=>by unfold rn;exact .dA e v h
 |_,_,_,.agg i fs cs h,hs=>by unfold rn;exact .agg i _ cs (iw.D3 kp h (fun k hk=>hs k (by simpa [D.refs]using hk)))
theorem iw.D3 {ρ:Nat→Nat} (kp:Kept M M' w w'): ∀{ts:List Ty} {ds:List (az E.T)} {cs:List Value},iw E σ st w M ts ds cs→(∀k∈bg ds,DX ρ σ σ' st st' k)→iw E σ' st' w' M' ts (Js ρ ds) cs
 |_,_,_,.nil,hs=>by unfold Js;exact .nil
 |_,_,_,.cons t ts v r c1 c2 h h',hs=>by unfold Js;exact .cons t ts _ _ c1 c2 (VT.D3 kp h (fun k hk=>hs k (by simp[bg,hk]))) (iw.D3 kp h' (fun k hk=>hs k (by simp[bg,hk])))
end
mutual
theorem aZ.D3 {ρ:Nat→Nat} (kp:Kept M M' w w') (hoff:True): ∀{d:az E.T} {v:Value},aZ E σ st w M d v→(∀k∈D.refs d,DX ρ σ σ' st st' k)→aZ E σ' st' w' M' (rn ρ d) v
 |_,_,.undef v,hs=>by unfold rn;exact .undef v
 |_,_,.data t d cs h,hs=> .data t _ cs (VT.D3 kp h hs)
 |_,_,.ptr o p b h hl,hs=>by
  unfold rn
  have hk:=hs o (by simp[D.refs])
  exact .ptr _ p b (by rw[hk.at_];exact h) (hk.lt hl)
 |_,_,.cM,hs=>by unfold rn;exact .cM
 |_,_,.dZ t x a cs h hm,hs=>by unfold rn;exact .dZ t x a cs (cx.aH kp h) (Mem.aH kp hm)
 |_,_,.jk vs us h,hs=>by unfold rn;exact .jk _ us (aW.D3 kp hoff h (fun k hk=>hs k (by simpa [D.refs]using hk)))
 |_,_,.fn f vs us h,hs=>by unfold rn;exact .fn f _ us (aW.D3 kp hoff h (fun k hk=>hs k (by simpa [D.refs]using hk)))
 |_,_,.ea,hs=>by unfold rn;exact .ea
 |_,_,.fG t d v h,hs=>by unfold rn;exact .fG t _ v (aZ.D3 kp hoff h (fun k hk=>hs k (by simpa [D.refs]using hk)))
 |_,_,.cr,hs=>by unfold rn;exact .cr
theorem aW.D3 {ρ:Nat→Nat} (kp:Kept M M' w w') (hoff:True): ∀{ds:List (az E.T)} {us:List Value},aW E σ st w M ds us→(∀k∈bg ds,DX ρ σ σ' st st' k)→aW E σ' st' w' M' (Js ρ ds) us
 |_,_,.nil,hs=>by unfold Js;exact .nil
 |_,_,.cons v r u us h h',hs=>by unfold Js;exact .cons _ _ u us (aZ.D3 kp hoff h (fun k hk=>hs k (by simp[bg,hk]))) (aW.D3 kp hoff h' (fun k hk=>hs k (by simp[bg,hk])))
end
theorem RQ (ρ:Nat→Nat) {d:az E.T} (h:D0 E d=true):D0 E (rn ρ d)=true:=by
 cases d<;>first|(cases h;done)|(unfold rn;exact h)
theorem cW.D3 {ρ:Nat→Nat} (kp:Kept M M' w w') {v:Value} {ob:Obj E.T} (hb: ∀g,lf v=some g→w'.heap[g]? =w.heap[g]?) (hs: ∀k∈cd E ob,DX ρ σ σ' st st' k) (h:cW E σ st w M v ob):
  cW E σ' st' w' M' v (gI ρ ob):=by
 cases h with
 |box ro d b c el fr hh hf hc=>
  have hg:=hb b rfl
  refine .box ro _ b c el fr (hg.trans hh) (fun q=> ?_) ?_
  ·have:=hf q
   unfold World.frozen? at this⊢
   simp only[hg]
   exact this
  ·rcases hc with⟨t,ht⟩|⟨hs1,u,hu,ho,hv⟩
   ·exact .inl ⟨t,VT.D3 kp ht hs⟩
   ·exact .inr ⟨RQ ρ hs1,u,hu,ho,aZ.D3 kp trivial hv hs⟩
 |arr l e xs v h=>exact .arr l e xs v (gy.aH kp hb h)
 |dead v=>exact .dead v
theorem qz (ρ:Nat→Nat) (ob:Obj E.T):dn (gI ρ ob)=dn ob:=by cases ob<;>rfl
theorem uE (ρ:Nat→Nat) (ob:Obj E.T):dz (gI ρ ob)=dz ob:=by cases ob<;>rfl
theorem vB (b:Bool) (ob:Obj E.T):dn (vC E b ob)=dn ob:=by
 cases ob with
 |arr l e xs=>cases l<;>cases b<;>rfl
 |_=>rfl
theorem DH (b:Bool) (ob:Obj E.T):dz (vC E b ob)=dz ob:=by
 cases ob with
 |arr l e xs=>cases l<;>cases b<;>rfl
 |_=>rfl
theorem Mt {b:Bool} {v:Value} {ob:Obj E.T} (h:cW E σ st w M v ob):cW E σ st w M v (vC E b ob):=by
 cases h with
 |box ro d b' c el fr hh hf hc=>exact .box ro d b' c el fr hh hf hc
 |arr l e xs v h=>cases l<;>cases b<;>exact .arr _ e xs v h
 |dead v=>exact .dead v
theorem Ap {b:Bool} {ob:Obj E.T} {l:RM} {e:Ty} {xs:List (I E.T e)} (h:ob= .arr l e xs): ∃l',vC E b ob= .arr l' e xs:=by
 subst h;cases l<;>cases b<;>exact⟨_,rfl⟩
theorem N0 {o:Option (Obj E.T)} {v:Value} {ob:Obj E.T} (h:cW E σ st w M v ob):cW E σ st w M v (m6 E o ob):=by
 unfold m6
 split
 ·cases h with
  |arr l e' xs v h=>exact .arr .live _ _ v h
 ·exact h
theorem GS (o:Option (Obj E.T)) (ro:Bool) (c:az E.T):m6 E o (.box ro c)= .box ro c:=by
 unfold m6
 split
 ·rename_i h;cases h
 ·rfl
theorem Dl (o:Option (Obj E.T)):m6 E o .dead= .dead:=by
 unfold m6
 split
 ·rename_i h;cases h
 ·rfl
theorem N1 (o:Option (Obj E.T)) (ob:Obj E.T):dn (m6 E o ob)=dn ob:=by
 unfold m6;split<;>rfl
theorem LF (o:Option (Obj E.T)) (ob:Obj E.T):dz (m6 E o ob)=dz ob:=by
 unfold m6;split<;>rfl
theorem Ci {o:Option (Obj E.T)} {ob:Obj E.T} {l:RM} {e:Ty} {xs:List (I E.T e)} (h:ob= .arr l e xs): ∃l',m6 E o ob= .arr l' e xs:=by
 subst h
 unfold m6
 split
 ·rename_i h;cases h;exact⟨_,rfl⟩
 ·exact⟨l,rfl⟩
theorem T1 {a b:Nat} (h:a<b):Nat.blt a b=true:=by rw[Nat.blt_eq];exact h
theorem Gd {a b:Nat} (h:Nat.blt a b=true):a<b:=by rwa [Nat.blt_eq]at h
theorem vu: ∀{R:List Nat} {k:Nat},k∈R→idx R k<R.length∧nth R (idx R k) 0=k
 |[],k,h=>by simp at h
 |j::R,k,h=>by
  simp only[idx]
  cases hb:Nat.beq j k with
  |true=>exact⟨by simp,by simpa [ff,dW,dX]using Nat.eq_of_beq_eq_true hb⟩
  |false=>
   have hk:k∈R:=by
    rcases List.mem_cons.1 h with rfl|h
    ·rw[Nat.beq_refl]at hb;cases hb
    ·exact h
   obtain⟨h1,h2⟩:=vu hk
   exact⟨by simpa using h1,by simpa [ff,dW,dX]using h2⟩
theorem sj: ∀{R:List Nat} {i:Nat},i<R.length→nth R i 0∈R
 |[],i,h=>by simp at h
 |j::R,0,h=>by simp[ff,dW,dX]
 |j::R,i+1,h=>by simp only[ff,dW,dX];exact List.mem_cons_of_mem _ (sj (by simpa using h))
theorem kt {ks:List Nat} {k:Nat}:cX ks k=false↔k∉ks:=by
 rw[←ek,Bool.not_eq_true]
theorem BJ: ∀{R:List Nat} {i:Nat},E8 R=true→i<R.length→idx R (nth R i 0)=i
 |[],i,_,h=>by simp at h
 |j::R,0,_,h=>by simp[ff,dW,dX,idx,Nat.beq_refl]
 |j::R,i+1,hn,h=>by
  simp only[E8,Bool.and_eq_true,Bool.not_eq_true']at hn
  have hi:i<R.length:=by simpa using h
  have hm:=sj hi
  simp only[ff,dW,dX,idx]
  cases hb:Nat.beq j (nth R i 0)with
  |true=>
   rw[←Nat.eq_of_beq_eq_true hb]at hm
   exact absurd hm (kt.1 hn.1)
  |false=>simp[BJ hn.2 hi]
theorem J1 {R:List Nat} {i:Nat} (h:i<R.length):aR R i=some (nth R i 0):=by
 rw[cT,ko,List.getD_eq_getElem?_getD,List.getElem?_eq_getElem h];rfl
structure tw (E:Env) (st:St E.T) (R:List Nat):Prop where
 nd:E8 R=true
 lt: ∀k∈R,k<st.length
 obj: ∀k∈R,∀ob,aR st k=some ob→ ∀j∈cd E ob,j∈R
theorem yQ {R:List Nat} (h:oX E st R=true):tw E st R:=by
 unfold oX at h
 rw[Bool.and_eq_true,List.all_eq_true]at h
 refine⟨h.1,fun k hk=> ?_,fun k hk ob ho j hj=> ?_⟩
 ·have:=h.2 k hk
  rw[Bool.and_eq_true]at this
  exact Gd this.1
 ·have:=h.2 k hk
  rw[Bool.and_eq_true,List.all_eq_true]at this
  have h2:=this.2 j (by unfold jq;rw[ho];exact hj)
  exact(ek _ _).1 h2
def rq (σ:Sg) (R:List Nat) (m:Nat→Prop):Sg:={f:=fun i=>σ (nth R i 0),m:=m}
variable {fx R:List Nat}
theorem Ac (hc:tw E st R) {i:Nat} {ob:Obj E.T} (h:aR (gL E st fx R) i=some ob):
  ∃ob0,i<R.length∧aR st (nth R i 0)=some ob0∧ob=vC E (cX fx (nth R i 0)) (gI (idx R) ob0):=by
 have hi:=bM h
 simp only[gL,List.length_map]at hi
 unfold gL at h
 rw[dx,J1 hi]at h
 simp only[Option.map_some,Option.some.injEq]at h
 have hk:=hc.lt _ (sj hi)
 have hget:aR st (nth R i 0)=some (st[nth R i 0]):=by rw[cT];exact List.getElem?_eq_getElem hk
 rw[hget]at h
 exact⟨_,hi,hget,h.symm⟩
theorem IH (hc:tw E st R) {k:Nat} (hk:k∈R) {ob0:Obj E.T} (h:aR st k=some ob0):aR (gL E st fx R) (idx R k)=some (vC E (cX fx k) (gI (idx R) ob0)):=by
 obtain⟨h1,h2⟩:=vu hk
 unfold gL
 rw[dx,J1 h1,h2]
 simp[h]
theorem Np:(gL E st fx R).length=R.length:=by simp[gL]
theorem xy (hc:tw E st R) {m:Nat→Prop} {k:Nat} (hk:k∈R):DX (idx R) σ (rq σ R m) st (gL E st fx R) k:=by
 obtain⟨h1,h2⟩:=vu hk
 refine⟨?_,fun l e xs h=> ?_,fun _=>by rw[Np];exact h1⟩
 ·show σ (nth R (idx R k) 0)=σ k
  rw[h2]
 ·obtain⟨l',hl⟩:=Ap (E:=E) (b:=cX fx k) (ob:=gI (idx R) (.arr l e xs)) rfl
  exact⟨l',xs,by rw[IH hc hk h,hl]⟩
theorem II (hc:tw E st R) {m:Nat→Prop} (hm: ∀b,m b→MB σ st b) {b:Nat} (h:MB (rq σ R m) (gL E st fx R) b):MB σ st b:=by
 rcases h with h|⟨i,ob,hi,hmu,hb⟩
 ·exact hm b h
 ·obtain⟨ob0,_,h2,rfl⟩:=Ac hc hi
  rw[vB,qz]at hmu
  exact .inr ⟨_,ob0,h2,hmu,hb⟩
theorem IG (hst:bm E σ st w) (hc:tw E st R) {m:Nat→Prop} (hm: ∀b,m b→MB σ st b) (hlt: ∀b,m b→b<w.heap.size)
  (hout: ∀k∈R,∀ob b,aR st k=some ob→dz ob=false→lf (σ k)=some b→ ¬m b):bm E (rq σ R m) (gL E st fx R) w:=by
 refine⟨fun i ob hi=> ?_,fun i j ob ob' b hne hi hj hmu hd hb1 hb2=> ?_,hlt,fun i ob b hi hd hb=> ?_⟩
 ·obtain⟨ob0,h1,h2,rfl⟩:=Ac hc hi
  exact Mt (cW.D3 (Kept.weaken fun b hb=>II hc hm hb) (fun _ _=>rfl) (fun k hk=>xy hc (hc.obj _ (sj h1) ob0 h2 k hk)) (hst.obj _ ob0 h2))
 ·obtain⟨ob1,h1,h2,rfl⟩:=Ac hc hi
  obtain⟨ob2,h3,h4,rfl⟩:=Ac hc hj
  rw[vB,qz]at hmu
  rw[DH,uE]at hd
  refine hst.apart _ _ ob1 ob2 b (fun h=>hne ?_) h2 h4 hmu hd hb1 hb2
  have:=congrArg (idx R) h
  rwa [BJ hc.nd h1,BJ hc.nd h3]at this
 ·obtain⟨ob0,h1,h2,rfl⟩:=Ac hc hi
  rw[DH,uE]at hd
  exact hout _ (sj h1) ob0 b h2 hd hb
def Kt (σ:Sg) (st:St E.T) (R:List Nat) (b:Nat):Prop:=σ.m b∨ ∃k ob,k∉R∧aR st k=some ob∧dn ob=true∧lf (σ k)=some b
theorem J3 {ob:Obj E.T} (h:dn ob=true):dz ob=false:=by cases ob<;>first|rfl|cases h
theorem Es {b:Nat} (h:Kt σ st R b):MB σ st b:=by
 rcases h with h|⟨k,ob,_,h1,h2,h3⟩
 ·exact .inl h
 ·exact .inr ⟨k,ob,h1,h2,h3⟩
theorem Sl (hst:bm E σ st w) (hc:tw E st R):bm E (rq σ R (Kt σ st R)) (gL E st fx R) w:=by
 refine IG hst hc (fun b h=>Es h) (fun b h=>DY hst (Es h)) (fun k hk ob b h1 h2 h3 h4=> ?_)
 rcases h4 with h4|⟨j,ob',hj,h5,h6,h7⟩
 ·exact hst.out k ob b h1 h2 h3 h4
 ·exact hst.apart j k ob' ob b (fun h=>hj (h▸hk)) h5 h1 h6 h2 h7 h3
theorem ez: ∀(l:List (Nat×Obj E.T)) (s:St E.T),(cy E s l).length=s.length
 |[],s=>rfl
 |p::r,s=>by rw[cy,ez r,dH]
mutual
theorem xK (st:St E.T): ∀(d:az E.T),kill E st [] d=d
 | .own k=>by unfold kill;rfl
 | .ptr o p=>by unfold kill;rfl
 | .agg i fs=>by unfold kill;rw[qD st fs]
 | .jk fs=>by unfold kill;rw[qD st fs]
 | .fn f fs=>by unfold kill;rw[qD st fs]
 | .fG t v=>by unfold kill;rw[xK st v]
 | .val t x=>by unfold kill;rfl
 | .bj=>by unfold kill;rfl
 | .cM=>by unfold kill;rfl
 | .dZ t x=>by unfold kill;rfl
 | .ea=>by unfold kill;rfl
 | .cr=>by unfold kill;rfl
 | .dA e=>by unfold kill;rfl
 | .undef=>by unfold kill;rfl
theorem qD (st:St E.T): ∀(ds:List (az E.T)),cU E st [] ds=ds
 |[]=>by unfold cU;rfl
 |d::r=>by unfold cU;rw[xK st d,qD st r]
end
theorem Kj (ob:Obj E.T):bT E st [] ob=ob:=by cases ob<;>simp[bT,xK]
theorem oD (ks:List Nat):CG E st ks=st.map (bT E st ks):=by
 unfold CG
 split
 ·have:(bT E st [])=id:=funext fun ob=>Kj ob
  rw[this,List.map_id]
 ·rfl
theorem gA (ks:List Nat) (fr:Fr E.T):dy E st ks fr=iK E st ks fr:=by
 unfold dy
 split
 ·unfold iK
  rw[qD]
  have:(fun x:FuncId×List (az E.T)=>(x.1,cU E st [] x.2))=id:=funext fun x=>by rw[qD];rfl
  rw[this,List.map_id]
 ·rfl
theorem qH (s news:List (Obj E.T)):AL E s news=s++news:=by
 unfold AL
 split
 ·rw[List.append_nil]
 ·rfl
theorem E6 {α:Type} (l r:List α) (o:Nat):aR (l++r) o=if o<l.length then aR l o else aR r (o-l.length):=by
 simp only[cT]
 by_cases h:o<l.length
 ·rw[if_pos h,List.getElem?_append_left h]
 ·rw[if_neg h,List.getElem?_append_right (by omega)]
theorem E5: ∀(R:List Nat) (q s:List (Obj E.T)),E8 R=true→R.length≤q.length→(∀k∈R,k<s.length)→ ∀o,
  aR (cy E s (sI E st R q)) o=if o∈R then(aR q (idx R o)).map (m6 E (aR st o))else aR s o
 |[],q,s,_,_,_,o=>by cases q<;>simp[sI,cy]
 |k::R,[],s,_,h,_,o=>by simp at h
 |k::R,ob::q,s,hn,hl,hs,o=>by
  simp only[E8,Bool.and_eq_true,Bool.not_eq_true']at hn
  simp only[sI,cy]
  rw[E5 R q _ hn.2 (by simpa using hl) (fun j hj=>by rw[dH];exact hs j (by simp[hj]))]
  have hkR:=kt.1 hn.1
  by_cases ho:o=k
  ·subst ho
   rw[if_neg hkR,if_pos (by simp),bE,if_pos ⟨rfl,hs o (by simp)⟩]
   simp[idx,Nat.beq_refl,dF,cP,cQ]
  ·have hb:Nat.beq k o=false:=by
    cases hb:Nat.beq k o with
    |true=>exact absurd (Nat.eq_of_beq_eq_true hb).symm ho
    |false=>rfl
   by_cases hR:o∈R
   ·rw[if_pos hR,if_pos (by simp[hR])]
    simp[idx,hb,dF,cP,cQ]
   ·rw[if_neg hR,if_neg (by simp[hR,ho]),bE,if_neg (fun h=>ho h.1.symm)]
def xz (E:Env) (st:St E.T) (fx R:List Nat):List Nat:=(sU E st R).filter fun k=> !(cX fx k)
theorem Ho {k:Nat}:k∈xz E st fx R↔k∈R∧(∃e xs,aR st k=some (.arr .live e xs))∧k∉fx:=by
 unfold xz
 rw[List.mem_filter,IC]
 constructor
 ·rintro⟨⟨h1,h2⟩,h3⟩
  refine⟨h1,h2,fun h=> ?_⟩
  rw[(ek fx k).2 h]at h3;cases h3
 ·rintro⟨h1,h2,h3⟩
  exact⟨⟨h1,h2⟩,by rw[kt.2 h3];rfl⟩
def kL (E:Env) (st:St E.T) (fx R:List Nat) (s2:St E.T):St E.T:=
 cy E (st.map (bT E st (xz E st fx R))) (sI E st R (s2.map (gI (back st.length R.length R))))++(s2.map (gI (back st.length R.length R))).drop R.length
theorem Ln (hc:tw E st R) {s2:St E.T} (hl:R.length≤s2.length) (o:Nat):aR (kL E st fx R s2) o=
  if o∈R then(aR s2 (idx R o)).map (fun ob=>m6 E (aR st o) (gI (back st.length R.length R) ob))
  else if o<st.length then(aR st o).map (bT E st (xz E st fx R))else(aR s2 (o-st.length+R.length)).map (gI (back st.length R.length R)):=by
 unfold kL
 rw[E6,ez,List.length_map,E5 R _ _ hc.nd (by simpa using hl) (fun k hk=>by simpa using hc.lt k hk)]
 by_cases hR:o∈R
 ·rw[if_pos (hc.lt o hR),if_pos hR,if_pos hR,dx,Option.map_map]
  rfl
 ·rw[if_neg hR,if_neg hR]
  by_cases ho:o<st.length
  ·rw[if_pos ho,if_pos ho,dx]
  ·rw[if_neg ho,if_neg ho,cT,List.getElem?_drop,←cT,dx,Nat.add_comm]
theorem Jh (hc:tw E st R) {s2:St E.T}:(kL E st fx R s2).length=st.length+(s2.length-R.length):=by
 unfold kL
 rw[List.length_append,ez,List.length_map,List.length_drop,List.length_map]
def mI (σ σ2:Sg) (n:Nat) (R:List Nat):Sg:={f:=fun k=>bif cX R k then σ2 (idx R k)else bif Nat.blt k n then σ k else σ2 (k-n+R.length),m:=σ.m}
theorem Gk {σ2:Sg} {n k:Nat} (h:k∈R):mI σ σ2 n R k=σ2 (idx R k):=by
 show(bif cX R k then _ else _)=_
 rw[(ek R k).2 h];rfl
theorem Gi {σ2:Sg} {n k:Nat} (h:k∉R) (hn:k<n):mI σ σ2 n R k=σ k:=by
 show(bif cX R k then _ else _)=_
 rw[kt.2 h,T1 hn];rfl
theorem Gj {σ2:Sg} {n k:Nat} (h:k∉R) (hn: ¬k<n):mI σ σ2 n R k=σ2 (k-n+R.length):=by
 show(bif cX R k then _ else _)=_
 rw[kt.2 h]
 cases hb:Nat.blt k n with
 |true=>exact absurd (Gd hb) hn
 |false=>rfl
theorem SO {n r i:Nat} (h:i<r):back n r R i=nth R i 0:=by unfold back;rw[T1 h];rfl
theorem SR {n r i:Nat} (h: ¬i<r):back n r R i=i-r+n:=by
 unfold back
 cases hb:Nat.blt i r with
 |true=>exact absurd (Gd hb) h
 |false=>rfl
theorem Qx (hst:bm E σ st w) (hc:tw E st R) {s2:St E.T} {σ2:Sg} (m:Mf (rq σ R (Kt σ st R)) σ2 (gL E st fx R) s2 w w'):
  Mf σ (mI σ σ2 st.length R) st (kL E st fx R s2) w w'∧
   (∀d u,aZ E σ2 s2 w' (MB σ2 s2) d u→aZ E (mI σ σ2 st.length R) (kL E st fx R s2) w' (MB (mI σ σ2 st.length R) (kL E st fx R s2)) (rn (back st.length R.length R) d) u)∧
   ∀k,k<st.length→k∉xz E st fx R→ib σ (mI σ σ2 st.length R) st (kL E st fx R s2) k:=by
 have hl:R.length≤s2.length:=by have:=m.stay.len;rwa [Np]at this
 have hat:=fun o=>Ln (fx:=fx) hc hl o
 have hlen:=Jh (fx:=fx) (s2:=s2) hc
 generalize hst':kL E st fx R s2=st' at*
 have hm2:σ2.m=Kt σ st R:=m.qh.m
 have hRn: ∀k∈R,k<st.length:=hc.lt
 have sameR: ∀j,DX (back st.length R.length R) σ2 (mI σ σ2 st.length R) s2 st' j:=by
  intro j
  by_cases hj:j<R.length
  ·have hmem:=sj hj
   have hb:back st.length R.length R j=nth R j 0:=SO hj
   refine⟨?_,fun l e xs h=> ?_,fun _=>by rw[hb,hlen];have:=hRn _ hmem;omega⟩
   ·rw[hb,Gk hmem,BJ hc.nd hj]
   ·rw[hb,hat,if_pos hmem,BJ hc.nd hj,h]
    obtain⟨l',hl'⟩:=Ci (E:=E) (o:=aR st (nth R j 0)) (ob:=gI (back st.length R.length R) (.arr l e xs)) rfl
    exact⟨l',xs,by rw[←hl'];rfl⟩
  ·have hb:back st.length R.length R j=j-R.length+st.length:=SR hj
   have h1: ¬(j-R.length+st.length)<st.length:=by omega
   have h2:j-R.length+st.length∉R:=fun h=>h1 (hRn _ h)
   have h3:j-R.length+st.length-st.length+R.length=j:=by omega
   refine⟨?_,fun l e xs h=> ?_,fun h=>by rw[hb,hlen];omega⟩
   ·rw[hb,Gj h2 h1,h3]
   ·exact⟨l,xs,by rw[hb,hat,if_neg h2,if_neg h1,h3,h];rfl⟩
 have sameO: ∀k,k<st.length→k∉xz E st fx R→ib σ (mI σ σ2 st.length R) st st' k:=by
  intro k hk hks
  by_cases hR:k∈R
  ·have hget:aR st k=some (st[k]):=by rw[cT];exact List.getElem?_eq_getElem hk
   have hloc:=IH (fx:=fx) hc hR hget
   have hnl:mb (vC E (cX fx k) (gI (idx R) st[k]))=false:=by
    generalize st[k]=ob at hget
    cases ob with
    |arr l e xs=>
     cases l with
     |live=>
      by_cases hf:k∈fx
      ·rw[(ek fx k).2 hf];rfl
      ·exact absurd (Ho.2 ⟨hR,⟨e,xs,hget⟩,hf⟩) hks
     |fix=>rfl
     |ba=>rfl
    |_=>rfl
   refine⟨?_,fun l e xs hh=> ?_,fun _=>by rw[hlen];omega⟩
   ·rw[Gk hR,m.stay.same _ _ hloc hnl]
    show σ (nth R (idx R k) 0)=σ k
    rw[(vu hR).2]
   ·obtain⟨l1,h1⟩:=Ap (E:=E) (b:=cX fx k) (ob:=gI (idx R) (.arr l e xs)) rfl
    have hloc':=IH (fx:=fx) hc hR hh
    rw[h1]at hloc'
    obtain⟨ob',h2,t,_⟩:=m.stay.kind _ _ hloc'
    cases t with
    |arr l0 l2 e xs xs'=>
     rw[hat,if_pos hR,h2]
     obtain⟨l',hl'⟩:=Ci (E:=E) (o:=aR st k) (ob:=gI (back st.length R.length R) (.arr l2 e xs')) rfl
     exact⟨l',xs',by rw[←hl'];rfl⟩
  ·refine⟨Gi hR hk,fun l e xs hh=>⟨l,xs,?_⟩,fun _=>by rw[hlen];omega⟩
   rw[hat,if_neg hR,if_pos hk,hh];rfl
 have split: ∀o ob,aR st' o=some ob→(∃j ob2,aR s2 j=some ob2∧mI σ σ2 st.length R o=σ2 j∧dn ob=dn ob2∧dz ob=dz ob2∧(o∈R∧j=idx R o∧ob=m6 E (aR st o) (gI (back st.length R.length R) ob2)∨ ¬o<st.length∧j=o-st.length+R.length∧ob=gI (back st.length R.length R) ob2))∨
   (o∉R∧o<st.length∧ ∃ob0,aR st o=some ob0∧ob=bT E st (xz E st fx R) ob0∧mI σ σ2 st.length R o=σ o):=by
  intro o ob ho
  rw[hat]at ho
  by_cases hR:o∈R
  ·rw[if_pos hR]at ho
   obtain⟨ob2,h1,rfl⟩:=Option.map_eq_some_iff.1 ho
   exact .inl ⟨_,ob2,h1,Gk hR,by rw[N1,qz],by rw[LF,uE],.inl ⟨hR,rfl,rfl⟩⟩
  ·rw[if_neg hR]at ho
   by_cases hn:o<st.length
   ·rw[if_pos hn]at ho
    obtain⟨ob0,h1,rfl⟩:=Option.map_eq_some_iff.1 ho
    exact .inr ⟨hR,hn,ob0,h1,rfl,Gi hR hn⟩
   ·rw[if_neg hn]at ho
    obtain⟨ob2,h1,rfl⟩:=Option.map_eq_some_iff.1 ho
    exact .inl ⟨_,ob2,h1,Gj hR hn,by rw[qz],by rw[uE],.inr ⟨hn,rfl,rfl⟩⟩
 have locM: ∀{b},MB (rq σ R (Kt σ st R)) (gL E st fx R) b→MB σ st b:=fun h=>II hc (fun b h=>Es h) h
 have hMB2: ∀b,MB (mI σ σ2 st.length R) st' b→MB σ2 s2 b:=by
  rintro b (hb|⟨o,ob,ho,hmu,hb⟩)
  ·exact .inl (by rw[hm2];exact .inl hb)
  ·rcases split o ob ho with⟨j,ob2,h1,h2,h3,h4,_⟩|⟨hR,hn,ob0,h1,rfl,h2⟩
   ·exact .inr ⟨j,ob2,h1,by rw[←h3];exact hmu,by rw[←h2];exact hb⟩
   ·rw[ss]at hmu
    rw[h2]at hb
    exact .inl (by rw[hm2];exact .inr ⟨o,ob0,hR,h1,hmu,hb⟩)
 have hMB: ∀b,b<w.heap.size→MB (mI σ σ2 st.length R) st' b→MB σ st b:=fun b hb h=>locM (m.aH.may b hb (hMB2 b h))
 have hkeep:wC (MB σ st) (MB (mI σ σ2 st.length R) st') w w':=
  ⟨m.aH.os,m.aH.tape,m.aH.output,m.aH.size,fun b hb hM=>m.aH.block b hb (fun h=>hM (locM h)),hMB⟩
 have hidB: ∀{o ob0 b},o∉R→aR st o=some ob0→dz ob0=false→lf (σ o)=some b→w'.heap[b]? =w.heap[b]? :=by
  intro o ob0 b hR h1 hd hb
  by_cases hM:MB (rq σ R (Kt σ st R)) (gL E st fx R) b
  ·rcases hM with hM|⟨i,ob1,hi,hmu,hbi⟩
   ·exact m.qh.gm b hM
   ·obtain⟨ob2,h3,h4,rfl⟩:=Ac hc hi
    rw[vB,qz]at hmu
    exact(hst.apart _ o ob2 ob0 b (fun h=>hR (h▸sj h3)) h4 h1 hmu hd hbi hb).elim
  ·exact m.aH.block b (lO hst h1 hd hb) hM
 refine⟨⟨⟨fun o ob ho=> ?_,fun o o' ob ob' b hne ho ho' hmu hd hb1 hb2=> ?_,fun b hb=>Nat.lt_of_lt_of_le (hst.qh b hb) m.aH.size,fun o ob b ho hd hb=> ?_⟩,hkeep,⟨fun o ob ho hlv=> ?_,fun o ob ho=> ?_⟩,⟨rfl,fun b hb=>m.qh.gm b (.inl hb)⟩⟩,fun d u hv=>aZ.D3 (Kept.weaken hMB2) trivial hv (fun k _=>sameR k),sameO⟩
 ·rcases split o ob ho with⟨j,ob2,h1,h2,_,_,h5⟩|⟨hR,hn,ob0,h1,rfl,h2⟩
  ·have:=cW.D3 (ρ:=back st.length R.length R) (σ':=mI σ σ2 st.length R) (st':=st') (Kept.weaken hMB2) (fun _ _=>rfl) (fun k _=>sameR k) (m.rep.obj j ob2 h1)
   rw[←h2]at this
   rcases h5 with⟨_,_,rfl⟩|⟨_,_,rfl⟩
   ·exact N0 this
   ·exact this
  ·rw[h2]
   cases hd:dz ob0 with
   |true=>
    cases ob0 with
    |dead=>exact .dead _
    |box ro c=>cases hd
    |arr l e xs=>cases hd
   |false=>
    have hk:=cW.kill hst (xz E st fx R) (hst.obj o ob0 h1)
    refine cW.aH hkeep.kept (fun g hg=>hidB hR h1 hd hg) (fun k hk'=> ?_) hk
    have h3:k∉xz E st fx R∧k∈cd E ob0:=by
     cases ob0 with
     |box ro c=>obtain⟨a,b⟩:=qA _ c k hk';exact⟨b,a⟩
     |arr l e xs=>simp[bT,cd]at hk'
     |dead=>simp[bT,cd]at hk'
    exact sameO k (zV hst h1 k h3.2) h3.1
 ·have inside: ∀{j ob2 b},aR s2 j=some ob2→dz ob2=false→lf (σ2 j)=some b→ ∀{p ob0},p∉R→aR st p=some ob0→dz ob0=false→lf (σ p)=some b→(dn ob2=true∨dn ob0=true)→False:=by
   intro j ob2 b h1 hd1 hb1 p ob0 hp h2 hd2 hb2 hor
   by_cases hmo:dn ob0=true
   ·exact m.rep.out j ob2 b h1 hd1 hb1 (by rw[hm2];exact .inr ⟨p,ob0,hp,h2,hmo,hb2⟩)
   ·have hm':=hor.resolve_right hmo
    have hlt:=lO hst h2 hd2 hb2
    have hM:=m.aH.may b hlt (.inr ⟨j,ob2,h1,hm',hb1⟩)
    rcases hM with hM|⟨i,ob3,hi,hmu3,hb3⟩
    ·rcases hM with hM|⟨k,ob4,hk,h4,hm4,hb4⟩
     ·exact hst.out p ob0 b h2 hd2 hb2 hM
     ·by_cases hkp:k=p
      ·subst hkp;rw[h2]at h4;cases h4;exact hmo hm4
      ·exact hst.apart k p ob4 ob0 b hkp h4 h2 hm4 hd2 hb4 hb2
    ·obtain⟨ob4,h3,h4,rfl⟩:=Ac hc hi
     rw[vB,qz]at hmu3
     exact hst.apart _ p ob4 ob0 b (fun h=>hp (h▸sj h3)) h4 h2 hmu3 hd2 hb3 hb2
  rcases split o ob ho with⟨j,ob2,h1,h2,h3,h4,h5⟩|⟨hR,hn,ob0,h1,rfl,h2⟩
  ·rcases split o' ob' ho' with⟨j',ob2',h1',h2',h3',h4',h5'⟩|⟨hR',hn',ob0',h1',rfl,h2'⟩
   ·refine m.rep.apart j j' ob2 ob2' b (fun hjj=>hne ?_) h1 h1' (by rw[←h3];exact hmu) (by rw[←h4'];exact hd) (by rw[←h2];exact hb1) (by rw[←h2'];exact hb2)
    rcases h5 with⟨ha,hb,_⟩|⟨ha,hb,_⟩
    ·have e1:=vu ha
     rcases h5' with⟨ha',hb',_⟩|⟨ha',hb',_⟩
     ·have e2:=vu ha'
      rw[←e1.2,←e2.2,←hb,←hb',hjj]
     ·omega
    ·rcases h5' with⟨ha',hb',_⟩|⟨ha',hb',_⟩
     ·have e2:=vu ha'
      omega
     ·omega
   ·rw[nD]at hd
    exact inside h1 (by rw[←h4];exact J3 hmu) (by rw[←h2];exact hb1) hR' h1' hd (by rw[←h2'];exact hb2) (.inl (by rw[←h3];exact hmu))
  ·rw[ss]at hmu
   rcases split o' ob' ho' with⟨j',ob2',h1',h2',h3',h4',h5'⟩|⟨hR',hn',ob0',h1',rfl,h2'⟩
   ·exact inside h1' (by rw[←h4'];exact hd) (by rw[←h2'];exact hb2) hR h1 (J3 hmu) (by rw[←h2];exact hb1) (.inr hmu)
   ·rw[nD]at hd
    exact hst.apart o o' ob0 ob0' b hne h1 h1' hmu hd (by rw[←h2];exact hb1) (by rw[←h2'];exact hb2)
 ·rcases split o ob ho with⟨j,ob2,h1,h2,h3,h4,h5⟩|⟨hR,hn,ob0,h1,rfl,h2⟩
  ·exact fun hm=>m.rep.out j ob2 b h1 (by rw[←h4];exact hd) (by rw[←h2];exact hb) (by rw[hm2];exact .inl hm)
  ·rw[nD]at hd
   exact hst.out o ob0 b h1 hd (by rw[←h2];exact hb)
 ·have hks:o∉xz E st fx R:=fun h=>by
   obtain⟨_,⟨e,xs,h2⟩,_⟩:=Ho.1 h
   rw[ho]at h2;cases h2;cases hlv
  exact(sameO o (bM ho) hks).at_
 ·by_cases hR:o∈R
  ·have hloc:=IH (fx:=fx) hc hR ho
   obtain⟨ob',h1,t,hlv⟩:=m.stay.kind _ _ hloc
   refine⟨m6 E (aR st o) (gI (back st.length R.length R) ob'),by rw[hat,if_pos hR,h1];rfl,?_,?_⟩
   ·cases ob with
    |box ro c=>cases t;rw[gI,GS];exact .box _ _ _ _
    |dead=>cases t;show qy _ (m6 E _ .dead);rw[Dl];exact .dead
    |arr l e xs=>
     obtain⟨l1,h2⟩:=Ap (E:=E) (b:=cX fx o) (ob:=gI (idx R) (.arr l e xs)) rfl
     rw[h2]at t
     cases t with
     |arr l0 l2 e xs xs'=>
      obtain⟨l',hl'⟩:=Ci (E:=E) (o:=aR st o) (ob:=gI (back st.length R.length R) (.arr l2 e xs')) rfl
      rw[hl']
      exact .arr _ _ _ _ _
   ·intro hn
    cases ob with
    |box ro c=>cases t;rw[gI,GS];rfl
    |dead=>cases t;show mb (m6 E _ .dead)=false;rw[Dl];rfl
    |arr l e xs=>
     have h2:vC E (cX fx o) (gI (idx R) (.arr l e xs))= .arr l e xs:=by
      cases l<;>first|rfl|cases hn
     rw[h2]at t hlv
     cases t with
     |arr l0 l2 e xs xs'=>
      have h3:=hlv hn
      rw[ho]
      cases l<;>cases l2<;>first|rfl|(cases h3;done)|(cases hn;done)
  ·exact⟨_,by rw[hat,if_neg hR,if_pos (bM ho),ho];rfl,BC _ _,fun h=>by rw[BD];exact h⟩
end
end
open Go
noncomputable section
section
variable {P:Program} {E:Env} {w w' w'':World} {σ σ' σ'':Sg} {st st' st'':St E.T} {M:Nat→Prop}
variable {K:Act→World→Prop} {Q:Exit→Act→World→Prop} {a:Act} {fr fr1:Fr E.T}
theorem vz {a:Act} (hfr:cf E σ st w fr a) (kp:Kept (MB σ st) (MB σ' st') w w') (hs: ∀k∈je E fr,ib σ σ' st st' k):cf E σ' st' w' fr a:=
 ⟨aW.aH kp hfr.s (fun k hk=>hs k (by unfold je;exact List.mem_append_left _ hk)),fR.aH kp hfr.d (fun k hk=>hs k (by unfold je;exact List.mem_append_right _ hk))⟩
theorem FB (hst:bm E σ st w) (ks:List Nat) {a:Act} (hfr:cf E σ st w fr a):cf E σ st w (iK E st ks fr) a:=
 ⟨aW.kill hst ks hfr.s,fR.kill hst ks hfr.d⟩
theorem CQ {a:Act} (hfr:cf E σ st w fr a): ∀k∈je E fr,k<st.length:=by
 intro k hk
 unfold je at hk
 rcases List.mem_append.1 hk with hk|hk
 ·exact aW.refs hfr.s k hk
 ·exact fR.refs hfr.d k hk
theorem BW (ks:List Nat): ∀(ds:List (FuncId×List (az E.T))) (k:Nat),k∈(ds.map fun x=>(x.1,cU E st ks x.2)).flatMap (fun x=>bg x.2)→k∈ds.flatMap (fun x=>bg x.2)∧k∉ks
 |[],k,h=>by simp at h
 |d::ds,k,h=>by
  rw[List.map_cons,List.flatMap_cons]at h
  rw[List.flatMap_cons]
  rcases List.mem_append.1 h with h|h
  ·obtain⟨h1,h2⟩:=kn ks _ k h
   exact⟨List.mem_append_left _ h1,h2⟩
  ·obtain⟨h1,h2⟩:=BW ks ds k h
   exact⟨List.mem_append_right _ h1,h2⟩
theorem DG (ks:List Nat) {k:Nat} (h:k∈je E (iK E st ks fr)):k∈je E fr∧k∉ks:=by
 unfold je iK at h
 rcases List.mem_append.1 h with h|h
 ·obtain⟨h1,h2⟩:=kn ks _ k h
  exact⟨by unfold je;exact List.mem_append_left _ h1,h2⟩
 ·obtain⟨h1,h2⟩:=BW ks _ k h
  exact⟨by unfold je;exact List.mem_append_right _ h1,h2⟩
theorem GK {bs l:List Nat} {k:Nat}:k∈l.filter (cX bs)↔k∈l∧k∈bs:=by
 rw[List.mem_filter,ek]
theorem nz {bs l:List Nat} {k:Nat}:k∈(l.filter fun k=> !(cX bs k))↔k∈l∧k∉bs:=by
 rw[List.mem_filter]
 constructor
 ·rintro⟨h1,h2⟩
  refine⟨h1,fun h=> ?_⟩
  rw[(ek bs k).2 h]at h2;cases h2
 ·rintro⟨h1,h2⟩
  refine⟨h1,?_⟩
  cases hb:cX bs k with
  |true=>exact absurd ((ek bs k).1 hb) h2
  |false=>rfl
def Ls (K:Act→World→Prop) (Q:Exit→Act→World→Prop) (a:Act) (dst:Option Tmp):Ending→World→Prop
 | .returned v,w=>K (a.put dst v) w
 | .panicked chain,w=>Q (.panic chain) a w
 | .outgrown,_=>LetsOut Q
theorem dp: ∀(ks:List Nat) (s:St E.T),cy E s (frozen E s ks)=freeze E s ks
 |[],s=>rfl
 |k::r,s=>by
  have key: ∀(s0 s1:St E.T) (ks:List Nat),(∀j,(∃l e xs,aR s0 j=some (.arr l e xs)∧ ∃l',aR s1 j=some (.arr l' e xs))∨aR s0 j=aR s1 j)→frozen E s0 ks=frozen E s1 ks:=by
   intro s0 s1 ks h
   induction ks with
   |nil=>rfl
   |cons k ks ih=>
    simp only[frozen]
    rcases h k with⟨l,e,xs,h1,l',h2⟩|h1
    ·rw[h1,h2,ih]
    ·rw[h1,ih]
  rw[freeze]
  cases hk:aR s k with
  |none=>
   simp only[frozen,hk]
   exact dp r s
  |some ob=>
   cases ob with
   |arr l e xs=>
    simp only[frozen,hk,cy]
    rw[key s (df s k (.arr .ba e xs)) r (fun j=> ?_)]
    ·exact dp r _
    ·by_cases hj:j=k
     ·subst hj
      exact .inl ⟨l,e,xs,hk,.ba,by rw[bE,if_pos ⟨rfl,bM hk⟩]⟩
     ·exact .inr (by rw[bE,if_neg (fun h=>hj h.1.symm)])
   |box ro c=>
    simp only[frozen,hk]
    exact dp r s
   |dead=>
    simp only[frozen,hk]
    exact dp r s
theorem zB: ∀(a b:List (Nat×Obj E.T)) (s:St E.T),cy E s (a++b)=cy E (cy E s a) b
 |[],b,s=>rfl
 |p::a,b,s=>by simp only[List.cons_append,cy];exact zB a b _
theorem Sp {e:rT E.T} {a:Act} (hst:bm E σ st w) (hfr:cf E σ st w fr a) (kp:Kept (MB σ st) (MB σ' st') w w') (hs: ∀k,k<st.length→k∉e.ks→ib σ σ' st st' k):cf E σ' st' w' (dy E st e.ks fr) a:=by
 rw[gA]
 refine vz (FB hst e.ks hfr) kp (fun k hk=> ?_)
 obtain⟨h1,h2⟩:=DG _ hk
 exact hs k (CQ hfr k h1) h2
theorem JK {R:List Nat} {ds:List (az E.T)} (h:(bg ds).all (cX R)=true): ∀k∈bg ds,k∈R:=by
 intro k hk
 rw[List.all_eq_true]at h
 exact(ek R k).1 (h k hk)
theorem Gc (hst:bm E σ st w) {f:FuncId} {F:List (az E.T)→St E.T→Tree (iR E.T×St E.T)} (hF:tu P E f F) {fx:List Nat} {ds:List (az E.T)} {us:List Value} (hds:aW E σ st w (MB σ st) ds us) {e:rT E.T}
  (h:(vZ E st fx ds F).get=some e):Calls P f us.toArray w fun en w'=> ∃σ',Mf σ σ' st (dJ E st e) w w'∧(∀k,k<st.length→k∉e.ks→ib σ σ' st (dJ E st e) k)∧AQ E σ' (dJ E st e) w' e.res en:=by
 unfold vZ at h
 simp only at h
 generalize reach E st 1000 (bg ds) []=R at h
 obtain⟨hb,h⟩:=Tree.aO h
 rw[Bool.and_eq_true]at hb
 have hc:=yQ hb.1
 have hr:=JK hb.2
 obtain⟨p,hp,h⟩:=Tree.aB h
 cases h
 obtain⟨r,s2⟩:=p
 have hds':aW E (rq σ R (Kt σ st R)) (gL E st fx R) w (MB (rq σ R (Kt σ st R)) (gL E st fx R)) (Js (idx R) ds) us:=
  aW.D3 (Kept.weaken fun b hb=>II hc (fun b h=>Es h) hb) trivial hds (fun k hk=>xy hc (hr k hk))
 refine Calls.mono (hF (Sl hst hc) hds' hp) (fun en w' hb=> ?_)
 obtain⟨σ2,m,hres⟩:=hb
 obtain⟨m',hv,hsame⟩:=Qx hst hc m
 have hst': ∀{x:tv E.T},dJ E st {res:=x,iM:=sI E st R (s2.map (gI (back st.length R.length R))),ks:=(sU E st R).filter (fun k=> !(cX fx k)),news:=(s2.map (gI (back st.length R.length R))).drop R.length}=kL E st fx R s2:=by
  intro x
  unfold dJ kL xz
  rw[qH,oD]
 refine⟨_,by rw[hst'];exact m',fun k hk hks=>by rw[hst'];exact hsame k hk hks,?_⟩
 have:=uF hres
 rw[hst']
 cases hr:vF E r with
 |val v=>
  rw[hr]at this
  cases en<;>first|exact this.elim|skip
  exact hv _ _ this
 |panic v=>
  rw[hr]at this
  cases en<;>first|exact this.elim|skip
  obtain⟨u,h1,h2⟩:=this
  exact⟨u,h1,hv _ _ h2⟩
theorem vY {f:FuncId} {us:List Value} {dst:Option Tmp} {e:rT E.T} (hst:bm E σ st w) (hfr:cf E σ st w fr a) (hp:Dg E σ st w K Q a (cI E fr st dst e))
  (h:Calls P f us.toArray w fun en w'=> ∃σ',Mf σ σ' st (dJ E st e) w w'∧(∀k,k<st.length→k∉e.ks→ib σ σ' st (dJ E st e) k)∧AQ E σ' (dJ E st e) w' e.res en):Calls P f us.toArray w (Ls K Q a dst):=by
 refine Calls.mono h (fun en w' hb=> ?_)
 obtain⟨σ',m,hs,hr⟩:=hb
 have:=Ro (dst:=dst) rfl m (Sp hst hfr m.aH.kept hs) hr hp
 cases en<;>exact this
theorem Ez {M:Nat→Prop} (hM: ∀b,M b→b<w.heap.size):bm E {f:=σ.f,m:=M} ([]:St E.T) w:=
 ⟨fun o ob h=>by simp[dF,cP,cQ]at h,fun o o' ob ob' b _ h=>by simp[dF,cP,cQ]at h,hM,fun o ob b h=>by simp[dF,cP,cQ]at h⟩
theorem AO {b:Nat}:MB σ ([]:St E.T) b↔σ.m b:=by
 constructor
 ·rintro(h|⟨o,ob,h,_⟩)
  ·exact h
  ·simp[dF,cP,cQ]at h
 ·exact .inl
theorem RV {d:az E.T} {u:Value} (h:aZ E σ' ([]:St E.T) w M d u) (hM: ∀b,MB σ st b→M b):aZ E σ st w (MB σ st) d u:=
 aZ.aH (Kept.weaken hM) h (fun k hk=>absurd (aZ.refs h k hk) (Nat.not_lt_zero k))
theorem Rh (HS:Sound P E) (hst:bm E σ st w) {f:FuncId} {ps:List Ty} {F:List (az E.T)→Tree (iR E.T)} (hF:Jm P E f F) {vs ds:List (az E.T)} {us:List Value} (hvs:aW E σ st w (MB σ st) vs us)
  (hds:zr E st ps vs=some ds) {r:iR E.T} (hr:(F ds).get=some r) {e:rT E.T} (he:e={res:=vF E r,iM:=(match live E st (bg vs)with|[]=>[]|ks=>bif vA E r then[]else frozen E st ks),ks:=[],news:=[]}):
  Calls P f us.toArray w fun en w'=> ∃σ',Mf σ σ' st (dJ E st e) w w'∧(∀k,k<st.length→k∉e.ks→ib σ σ' st (dJ E st e) k)∧AQ E σ' (dJ E st e) w' e.res en:=by
 obtain⟨mf,_⟩:=fS (live E st (bg vs)) hst
 have heff: ∀(iM:List (Nat×Obj E.T)),dJ E st {res:=vF E r,iM:=iM,ks:=[],news:=[]}=cy E st iM:=fun iM=>rfl
 have frozenCase:e={res:=vF E r,iM:=frozen E st (live E st (bg vs)),ks:=[],news:=[]}→Calls P f us.toArray w fun en w'=> ∃σ',Mf σ σ' st (dJ E st e) w w'∧(∀k,k<st.length→k∉e.ks→ib σ σ' st (dJ E st e) k)∧AQ E σ' (dJ E st e) w' e.res en:=by
  intro he
  subst he
  rw[heff,dp]
  have hM: ∀b,MB σ (freeze E st (live E st (bg vs))) b→MB σ st b:=fun b hb=>mf.aH.may b (DY mf.rep hb) hb
  have hd:=FX HS.todk hst hM {f:=σ.f,m:=MB σ (freeze E st (live E st (bg vs)))} [] ps hds hvs (fun k hk l e xs b hh hb=>yE hst hk hh hb)
  have ha:=Ez (E:=E) (σ:=σ) (w:=w) (M:=MB σ (freeze E st (live E st (bg vs)))) (fun b hb=>DY mf.rep hb)
  refine Calls.mono (hF ha (aW.aH (Kept.weaken fun b hb=>AO.1 hb) hd (fun k hk=>ib.refl k)) hr) (fun en w' hb=> ?_)
  obtain⟨σ',m,hres⟩:=hb
  have hsame: ∀b,b<w.heap.size→w'.heap[b]? =w.heap[b]? :=by
   intro b hb
   by_cases hm:MB σ (freeze E st (live E st (bg vs))) b
   ·exact m.qh.gm b hm
   ·exact m.aH.block b hb (fun h=>hm (AO.1 h))
  have mv:Mv σ σ (freeze E st (live E st (bg vs))) (freeze E st (live E st (bg vs))) w w':=Mv.still mf.rep m.aH.os m.aH.tape m.aH.output m.aH.size hsame
  have m2:=mf.trans mv
  have:=uF (pZ.map (σ':=σ) (st':=freeze E st (live E st (bg vs))) (w':=w') hres (fun d u hv=>RV hv (fun b hb=> .inl (by rw[m.qh.m];exact hb))))
  exact⟨σ,m2.f,fun k hk _=>m2.same k hk,this⟩
 by_cases hk:live E st (bg vs)=[]
 ·refine frozenCase ?_
  rw[he,hk]
  rfl
 ·have he':e={res:=vF E r,iM:=bif vA E r then[]else frozen E st (live E st (bg vs)),ks:=[],news:=[]}:=by
   rw[he]
   cases hl:live E st (bg vs)with
   |nil=>exact absurd hl hk
   |cons k ks=>rfl
  cases hfl:vA E r with
  |false=>rw[hfl]at he';exact frozenCase he'
  |true=>
   rw[hfl]at he'
   subst he'
   rw[heff]
   simp only[cond_true,cy]
   have hd:=FX (M:=fun _=>False) HS.todk hst (fun b hb=>hb.elim) {f:=σ.f,m:=fun _=>False} [] ps hds hvs (fun k hk l e xs b hh hb h=>h)
   have ha:=Ez (E:=E) (σ:=σ) (w:=w) (M:=fun _=>False) (fun b hb=>hb.elim)
   refine Calls.mono (hF ha (aW.aH (Kept.weaken fun b hb=>AO.1 hb) hd (fun k hk=>ib.refl k)) hr) (fun en w' hb=> ?_)
   obtain⟨σ',m,hres⟩:=hb
   have mv:Mv σ σ st st w w':=Mv.still hst m.aH.os m.aH.tape m.aH.output m.aH.size (fun b hb=>m.aH.block b hb (fun h=>AO.1 h))
   exact⟨σ,mv.f,fun k hk _=>mv.same k hk,uF (pZ.flat hfl hres)⟩
theorem Pk (hst:bm E σ st w) {f:FuncId} {F:List (az E.T)→St E.T→Tree (iR E.T×St E.T)} (hF:tu P E f F) {ds:List (az E.T)} {us:List Value} (hds:aW E σ st w σ.m ds us) {e:rT E.T}
  (h:(Db E st ds F).get=some e):Calls P f us.toArray w fun en w'=> ∃σ',Mf σ σ' st (dJ E st e) w w'∧(∀k,k<st.length→k∉e.ks→ib σ σ' st (dJ E st e) k)∧AQ E σ' (dJ E st e) w' e.res en:=by
 unfold Db at h
 simp only at h
 generalize reach E st 1000 (bg ds) []=R at h
 obtain⟨hb,h⟩:=Tree.aO h
 rw[Bool.and_eq_true]at hb
 have hc:=yQ hb.1
 have hr:=JK hb.2
 obtain⟨p,hp,h⟩:=Tree.aB h
 obtain⟨hfl,h⟩:=Tree.aO h
 cases h
 obtain⟨r,s2⟩:=p
 have hrep:=IG (fx:=[]) hst hc (m:=σ.m) (fun b h=> .inl h) hst.qh (fun k hk ob b h1 h2 h3=>hst.out k ob b h1 h2 h3)
 have hd1:aW E (rq σ R σ.m) (gL E st [] R) w σ.m (Js (idx R) ds) us:=aW.D3 (Kept.weaken fun b hb=>hb) trivial hds (fun k hk=>xy hc (hr k hk))
 have hd2:aW E (rq σ R σ.m) (lock E (gL E st [] R)) w (MB (rq σ R σ.m) (lock E (gL E st [] R))) (Js (idx R) ds) us:=aW.aH (Kept.weaken fun b hb=>IF hb) hd1 (fun k _=>Hn k)
 refine Calls.mono (hF (Qw hrep) hd2 hp) (fun en w' hb=> ?_)
 obtain⟨σ',m,hres⟩:=hb
 have hsame: ∀b,b<w.heap.size→w'.heap[b]? =w.heap[b]? :=by
  intro b hb
  by_cases hm:σ.m b
  ·exact m.qh.gm b hm
  ·exact m.aH.block b hb (fun h=>hm (IF (σ:=rq σ R σ.m) h))
 have mv:Mv σ σ st st w w':=Mv.still hst m.aH.os m.aH.tape m.aH.output m.aH.size hsame
 exact⟨σ,mv.f,fun k hk _=>mv.same k hk,uF (pZ.flat hfl hres)⟩
def Df (s s':St E.T):Prop:= ∀j,(∃l e xs,aR s j=some (.arr l e xs)∧ ∃l' xs',aR s' j=some (.arr l' e xs'))∨aR s j=aR s' j
mutual
theorem Fs {s s':St E.T} (h:Df s s') (ks:List Nat): ∀(d:az E.T),kill E s ks d=kill E s' ks d
 | .own k=>by
  unfold kill
  rcases h k with⟨l,e,xs,h1,l',xs',h2⟩|h1
  ·rw[h1,h2]
  ·rw[h1]
 | .ptr o p=>by unfold kill;rfl
 | .agg i fs=>by unfold kill;rw[qE h ks fs]
 | .jk fs=>by unfold kill;rw[qE h ks fs]
 | .fn f fs=>by unfold kill;rw[qE h ks fs]
 | .fG t v=>by unfold kill;rw[Fs h ks v]
 | .val t x=>by unfold kill;rfl
 | .bj=>by unfold kill;rfl
 | .cM=>by unfold kill;rfl
 | .dZ t x=>by unfold kill;rfl
 | .ea=>by unfold kill;rfl
 | .cr=>by unfold kill;rfl
 | .dA e=>by unfold kill;rfl
 | .undef=>by unfold kill;rfl
theorem qE {s s':St E.T} (h:Df s s') (ks:List Nat): ∀(ds:List (az E.T)),cU E s ks ds=cU E s' ks ds
 |[]=>by unfold cU;rfl
 |d::r=>by unfold cU;rw[Fs h ks d,qE h ks r]
end
theorem Kk {s s':St E.T} {ks:List Nat} (h:Df s s') (ob:Obj E.T):bT E s ks ob=bT E s' ks ob:=by
 cases ob<;>simp[bT,Fs h]
theorem Mg {s s':St E.T} {ks:List Nat} (h:Df s s'):iK E s ks fr=iK E s' ks fr:=by
 unfold iK
 rw[qE h]
 have:(fun x:FuncId×List (az E.T)=>(x.1,cU E s ks x.2))=(fun x=>(x.1,cU E s' ks x.2)):=funext fun x=>by rw[qE h]
 rw[this]
theorem HF: ∀(ks:List Nat) {s:St E.T},Df s (freeze E s ks)
 |[],s=>fun j=> .inr rfl
 |k::r,s=>by
  intro j
  rw[freeze]
  have ih:=fun s=>HF r (s:=s) j
  cases hk:aR s k with
  |none=>exact ih s
  |some ob=>
   cases ob with
   |box ro c=>exact ih s
   |dead=>exact ih s
   |arr l e xs=>
    simp only
    have hj:(∃l e xs,aR s j=some (.arr l e xs)∧aR (df s k (.arr .ba e xs)) j=some (.arr .ba e xs))∨aR s j=aR (df s k (.arr .ba e xs)) j:=by
     by_cases hj:k=j
     ·subst hj;exact .inl ⟨l,e,xs,hk,by rw[bE,if_pos ⟨rfl,bM hk⟩]⟩
     ·exact .inr (by rw[bE,if_neg (fun h=>hj h.1)])
    rcases hj with⟨l2,e2,xs2,h1,h2⟩|h1
    ·rcases ih (df s k (.arr .ba e xs))with⟨l0,e0,xs0,h3,l1,xs1,h4⟩|h3
     ·by_cases hjk:k=j
      ·subst hjk
       rw[bE,if_pos ⟨rfl,bM hk⟩]at h3;cases h3
       exact .inl ⟨_,_,_,hk,_,_,h4⟩
      ·rw[bE,if_neg (fun h=>hjk h.1)]at h3
       exact .inl ⟨_,_,_,h3,_,_,h4⟩
     ·by_cases hjk:k=j
      ·subst hjk
       rw[bE,if_pos ⟨rfl,bM hk⟩]at h3
       exact .inl ⟨_,_,_,hk,_,_,h3.symm⟩
      ·rw[bE,if_neg (fun h=>hjk h.1)]at h3
       exact .inr h3
    ·rcases ih (df s k (.arr .ba e xs))with⟨l0,e0,xs0,h3,l1,xs1,h4⟩|h3
     ·rw[←h1]at h3
      exact .inl ⟨_,_,_,h3,_,_,h4⟩
     ·exact .inr (h1.trans h3)
theorem rm {s1:St E.T} {ks:List Nat} (s0:St E.T): ∀(L:List Nat) (s:St E.T),cy E (s.map (bT E s1 ks)) (frozen E s0 L)=(cy E s (frozen E s0 L)).map (bT E s1 ks)
 |[],s=>rfl
 |k::r,s=>by
  simp only[frozen]
  cases hk:aR s0 k with
  |none=>exact rm s0 r s
  |some ob=>
   cases ob with
   |box ro c=>exact rm s0 r s
   |dead=>exact rm s0 r s
   |arr l e xs=>
    simp only[cy]
    rw[←rm s0 r,Ep]
    rfl
theorem Gb (HS:Sound P E) {S:FuncId→Option (Spec E)} (hS: ∀f s,S f=some s→nQ P E f s):mJ P E S:=by
 intro hst hfr ho h hp
 rename_i σ st w fr a K Q o f args ats fx e
 have hargs:=xZ hfr args.toList
 have hf:=bU hfr f
 unfold AH at h
 split at h
 ·rename_i g cap hq
  rw[hq]at hf
  generalize hu:a.eval f=u at hf
  cases hf with
  |data t d cs hv=>cases hv
  |fn g cap cus hcap=>
   have hwp: ∀(us:List Value),us=args.toList.map a.eval++cus→Enters P g→Calls P g us.toArray w (Ls K Q a o.dst)→o.wp P a w K Q:=by
    intro us hus hent hc
    unfold Oper.wp
    have hrun:(execOp a.eval o).run P w= .ok (.enter g us.toArray) w:=by
     unfold execOp
     simp only[ho,resolve,hu,Deferred.ofValue,Sem.run_bind,Sem.run_pure,Result.andThen_ok,invoke]
     rw[show((#[]:Array Value)++args.map a.eval++cus.toArray)=us.toArray by rw[hus,lX];simp]
     exact hent us.toArray w
    rw[hrun]
    exact Calls.mono hc (fun e w' hh=>by cases e<;>exact hh)
   have hvs:=aW.append hargs hcap
   generalize hus:args.toList.map a.eval++cus=us at hvs
   generalize hvs':args.toList.map (bY E fr)++cap=vs at h hvs
   split at h
   ·rename_i ps F hs
    obtain⟨hent,hF⟩:=hS g _ hs
    split at h
    ·rename_i ds hds
     obtain⟨r,hr,h⟩:=Tree.aB h
     exact hwp us hus.symm hent (vY hst hfr hp (Rh HS hst hF hvs hds hr (Option.some.inj h).symm))
    ·cases h
   ·rename_i ps flat F hs
    obtain⟨hent,hF⟩:=hS g _ hs
    split at h
    ·rename_i ds hds
     split at h
     ·
      have hd:=tY HS.todk hst (M:=σ.m) (fun b hb=> .inl hb) ps hds hvs (fun k hk l e xs b hh hb=>hst.out k _ b hh rfl hb)
      exact hwp us hus.symm hent (vY hst hfr hp (Pk hst hF hd h))
     ·split at h
      ·rename_i hl
       have hd:=tY HS.todk hst (fun b hb=>hb) ps hds hvs (fun k hk l e xs b hh hb=>by
        have:=yE hst hk hh hb
        rw[hl]at this
        exact this)
       exact hwp us hus.symm hent (vY hst hfr hp (Gc hst hF hd h))
      ·rename_i ks hl
       obtain⟨e1,h1,h2⟩:=Tree.aB h
       cases h2
       rw[dp]at h1
       obtain⟨mf,_⟩:=fS (live E st (cG E st ps vs)) hst
       have hM: ∀b,MB σ (freeze E st (live E st (cG E st ps vs))) b→MB σ st b:=fun b hb=>mf.aH.may b (DY mf.rep hb) hb
       have hd:=tY HS.todk hst hM ps hds hvs (fun k hk l e xs b hh hb=>yE hst hk hh hb)
       have hd':aW E σ (freeze E st (live E st (cG E st ps vs))) w (MB σ (freeze E st (live E st (cG E st ps vs)))) ds us:=aW.aH (Kept.refl') hd (fun k hk=>mf.same k (aW.refs hd k hk))
       have hc:=Gc mf.rep hF hd' h1
       have hfz:Df st (freeze E st (live E st (cG E st ps vs))):=HF _
       have heff:dJ E st {e1 with iM:=frozen E st (live E st (cG E st ps vs))++e1.iM}=dJ E (freeze E st (live E st (cG E st ps vs))) e1:=by
        unfold dJ
        simp only[zB]
        rw[oD,oD,funext (fun ob=>Kk (ks:=e1.ks) hfz ob),rm,dp]
       have hfrk:dy E st e1.ks fr=dy E (freeze E st (live E st (cG E st ps vs))) e1.ks fr:=by
        rw[gA,gA]
        exact Mg hfz
       refine hwp us hus.symm hent (vY (e:=e1) mf.rep (hfr.mv mf) ?_ hc)
       have hap:cI E fr st o.dst {e1 with iM:=frozen E st (live E st (cG E st ps vs))++e1.iM}=cI E fr (freeze E st (live E st (cG E st ps vs))) o.dst e1:=by
        unfold cI
        simp only[heff,hfrk]
       rw[hap]at hp
       generalize cI E fr (freeze E st (live E st (cG E st ps vs))) o.dst e1=out at hp⊢
       cases out with
       |next fr' st'=>exact fun σ' w' a' m hfr'=>hp σ' w' a' (mf.f.trans m) hfr'
       |panic v fr' st'=>exact fun σ' w' u m hfr' hv=>hp σ' w' u (mf.f.trans m) hfr' hv
    ·cases h
   ·cases h
 ·cases h
where
 Kept.refl' {M:Nat→Prop} {w:World}:Kept M M w w:=Kept.weaken fun _ h=>h
end
end
open Go
noncomputable section
section
variable {P:Program} {E:Env} {w w' w'':World} {σ σ' σ'':Sg} {st st' st'':St E.T} {M:Nat→Prop}
variable {K:Act→World→Prop} {Q:Exit→Act→World→Prop} {a:Act} {fr fr1:Fr E.T}
def Gr (E:Env) (σ:Sg) (st:St E.T) (w:World) (Q:Exit→Act→World→Prop):oh E→Prop
 | .done fr' st'=> ∀σ' w' a',Mf σ σ' st st' w w'→cf E σ' st' w' fr' a'→Q .normal a' w'
 | .panic v fr' st'=> ∀σ' w' a' u,Mf σ σ' st st' w w'→cf E σ' st' w' fr' a'→aZ E σ' st' w' (MB σ' st') v u→Q (.panic [{v:=u,recovered:=false}]) a' w'
theorem Gr.later {out:oh E} (m:Mf σ σ' st st' w w') (h:Gr E σ st w Q out):Gr E σ' st' w' Q out:=by
 cases out with
 |done fr' st'=>exact fun σ'' w'' a' m'=>h σ'' w'' a' (m.trans m')
 |panic v fr' st'=>exact fun σ'' w'' a' u m'=>h σ'' w'' a' u (m.trans m')
theorem GY {l:List (az E.T)} {t:Nat} {b:Bool} (h:nth l t .undef= .val .bool b):df l t (.val .bool b)=l:=by
 induction l generalizing t with
 |nil=>rfl
 |cons x r ih=>
  cases t with
  |zero=>simp only[ff,dW,dX]at h;subst h;rfl
  |succ t=>simp only[ff,dW,dX]at h;simp only[jK,gB,gC];rw[ih h]
theorem rj {α:Type} {t:Tmp} {yes no:Fr E.T→Tree α} {r:α} (h:(zT E fr t yes no).get=some r):
  ∃b,nth fr.s t .undef= .val .bool b∧((b=true∧(yes fr).get=some r)∨(b=false∧(no fr).get=some r)):=by
 unfold zT at h
 split at h
 ·rename_i b hb
  refine⟨b,hb,?_⟩
  cases b with
  |true=>
   simp only[Tree.get,cond_true]at h
   rw[GY hb]at h
   exact .inl ⟨rfl,h⟩
  |false=>
   simp only[Tree.get,cond_false]at h
   rw[GY hb]at h
   exact .inr ⟨rfl,h⟩
 ·cases h
theorem Cl (hfr:cf E σ st w fr a) {t:Nat} {b:Bool} (h:nth fr.s t .undef= .val .bool b):a.tmps[t]? =some (.bool b):=by
 have hv:=bU hfr (.tmp t)
 simp only[bY]at hv
 rw[h]at hv
 have:=yR hv
 simp only[Act.eval]at this
 rw[Array.getD_eq_getD_getElem?]at this
 cases hq:a.tmps[t]? with
 |none=>rw[hq]at this;cases this
 |some v=>rw[hq]at this;simp at this;rw[this]
theorem GZ {ops:Array Oper} (hfr:cf E σ st w fr a) {j t:Nat} (ht:pv ops.toList j=some t) (h:nth fr.s t .undef= .jk []):yielded ops a.tmps j=none:=by
 have hv:=bU hfr (.tmp t)
 simp only[bY]at hv
 rw[h]at hv
 unfold pv at ht
 split at ht
 ·rename_i oj hj
  rw[cT,Array.getElem?_toList]at hj
  unfold yielded
  rw[hj]
  simp only[Option.bind_some,ht]
  cases hq:a.tmps[t]? with
  |none=>rfl
  |some u=>
   have he:a.eval (.tmp t)=u:=by
    simp only[Act.eval]
    rw[Array.getD_eq_getD_getElem?,hq];rfl
   rw[he]at hv
   cases hv with
   |data _ _ _ h'=>cases h'
   |jk _ _ h'=>cases h';rfl
 ·cases ht
theorem QK {ops:Array Oper} {o:Oper} (hfr:cf E σ st w fr a) {α:Type} {go pass:Fr E.T→Tree α} {r:α}
  (h:(guarded E ops.toList o.guard fr go pass).get=some r):
  (Region.wanted o (yielded ops a.tmps)=true∧(go fr).get=some r)∨(Region.wanted o (yielded ops a.tmps)=false∧(pass fr).get=some r):=by
 unfold Region.wanted
 unfold guarded at h
 split at h
 ·rename_i hg;rw[hg];exact .inl ⟨rfl,h⟩
 ·rename_i j b hg
  rw[hg]
  split at h
  ·rename_i t ht
   have hy: ∀{c:Bool},nth fr.s t .undef= .val .bool c→yielded ops a.tmps j=some c:=by
    intro c hc
    have hs:=Cl hfr hc
    unfold pv at ht
    split at ht
    ·rename_i oj hj
     rw[cT,Array.getElem?_toList]at hj
     unfold yielded
     rw[hj]
     simp only[Option.bind_some,ht,hs]
    ·cases ht
   split at h
   ·rename_i hn
    exact .inr ⟨by show(yielded ops a.tmps j==some b)=false;rw[GZ hfr ht hn];rfl,h⟩
   ·cases b with
    |true=>
     obtain⟨c,hc,hor⟩:=rj h
     have hyc:=hy hc
     rcases hor with⟨rfl,h⟩|⟨rfl,h⟩
     ·exact .inl ⟨by simp[hyc],h⟩
     ·exact .inr ⟨by simp[hyc],h⟩
    |false=>
     obtain⟨c,hc,hor⟩:=rj h
     have hyc:=hy hc
     rcases hor with⟨rfl,h⟩|⟨rfl,h⟩
     ·exact .inr ⟨by simp[hyc],h⟩
     ·exact .inl ⟨by simp[hyc],h⟩
  ·cases h
theorem QV (HS:Sound P E) {S:FuncId→Option (Spec E)} (HC:mJ P E S) {b:Bool} {o:Oper} {K:Act→World→Prop} {fr:Fr E.T} {st:St E.T} {a:Act} {w:World} {σ:Sg} {out:wv E} (hst:bm E σ st w) (hfr:cf E σ st w fr a)
  (h:(bif b then MC E fr st o else pB E S false fr st o).get=some out) (hp:Dg E σ st w K Q a out):o.wp P a w K Q:=by
 cases b with
 |false=>exact CX HS HC hst hfr h hp
 |true=>
  obtain⟨dst,op,type,pos,aft,guard⟩:=o
  simp only[cond_true,MC]at h
  split at h
  ·rename_i t n ps
   obtain⟨v,hv,h⟩:=Tree.aB h
   split at h
   ·cases h
    exact nt hfr (I8 HS hst (oJ hfr ps.toList) hv) (by rw[←lX];rfl) hp
   ·cases h
  ·cases h
theorem Ev (HS:Sound P E) {S:FuncId→Option (Spec E)} (HC:mJ P E S) {ops:Array Oper}: ∀(l:List Oper) (i:Nat) {fr:Fr E.T} {st:St E.T} {a:Act} {w:World} {σ:Sg} {out:oh E},ops.toList.drop i=l→
  bm E σ st w→cf E σ st w fr a→(MA E S ops.toList l fr st).get=some out→Gr E σ st w Q out→wpOps P ops Q (List.range' i l.length) a w
 |[],i,fr,st,a,w,σ,out,hl,hst,hfr,h,hp=>by
  cases h
  exact hp σ w a (Mf.refl hst) hfr
 |o::r,i,fr,st,a,w,σ,out,hl,hst,hfr,h,hp=>by
  have hi:ops[i]? =some o:=by
   rw[←Array.getElem?_toList]
   have:=congrArg (·[0]?) hl
   simpa [List.getElem?_drop]using this
  have hr:ops.toList.drop (i+1)=r:=by
   have:=congrArg (List.drop 1) hl
   simpa [List.drop_drop,Nat.add_comm]using this
  rw[List.length_cons,List.range'_succ]
  simp only[wpOps,hi]
  simp only[MA]at h
  rcases QK hfr h with⟨hw,h1⟩|⟨hw,h1⟩
  ·rw[if_pos hw]
   left
   obtain⟨oo,ho,h2⟩:=Tree.aB h1
   refine QV HS HC hst hfr ho ?_
   cases oo with
   |next fr' st'=>
    intro σ' w' a' m hfr'
    exact Ev HS HC r (i+1) hr m.rep hfr' h2 (hp.later m)
   |panic v fr' st'=>
    cases h2
    intro σ' w' u m hfr' hv
    exact hp σ' w' a u m hfr' hv
  ·rw[if_neg (by rw[hw];simp)]
   exact Ev HS HC r (i+1) hr hst (fo hfr o.dst (.jk [] [] .nil)) h1 hp
theorem Oj (HS:Sound P E) {S:FuncId→Option (Spec E)} (HC:mJ P E S) {id:Nat} {ops:Array Oper} {out:oh E} (hst:bm E σ st w) (hfr:cf E σ st w fr a)
  (h:(MA E S ops.toList ops.toList fr st).get=some out) (hp:Gr E σ st w Q out):(Code.region id ops false).wp P Q a w:=by
 refine wp_region ?_
 have:=Ev (Q:=Q) HS HC (ops:=ops) ops.toList 0 rfl hst hfr h hp
 rwa [Array.length_toList,←List.range_eq_range']at this
end
end
end Go.Proofs.YtlejgahbbfeagaaGreatDoor.D

/- Loads and stores. Operations that leave the objects as they are. Equality, arithmetic, texts. Arithmetic, texts, conversions. Operations that make objects or change them: conversions, cuts, literals, make. Zero values, literals, make, append, cuts. Literals, make, append, cuts, new variables. Literals of rows, make, cuts. Cuts, make. Make, append. Append: what the machine does, whatever is appended. Append: what the evaluator says of it. -/
import Derived.Test.YtlejgahbbfeagaaGreatDoorBase1
import Derived.Laws.BytesArg
import Derived.Laws.StructEq
import Derived.ChangeKeysEq
import Derived.Laws.IdiomStrings
import Derived.Deep.AppendSrc
import Derived.Laws.MakeOwn
import Derived.Laws.Slices
import Derived.Deep.Upon
set_option linter.unusedVariables false
set_option linter.unusedSimpArgs false
namespace Go.Proofs.YtlejgahbbfeagaaGreatDoor.D
open Go
section
variable {P:Program} {E:Env} {w:World} {σ:Sg} {st:St E.T} {M:Nat→Prop}
theorem toV_cells {ty:Ty} {cs:List Value} (h1: ∀v∈cs,kU v=true) (hs:dX ty=false→cs.length=1):(toV ty cs).cells=cs.toArray:=by
 unfold toV
 cases ha:dX ty with
 |true=>rfl
 |false=>
  obtain⟨v,rfl⟩:=List.length_eq_one_iff.1 (hs ha)
  have:=h1 v (by simp)
  cases v<;>first|(simp[kU]at this;done)|rfl
theorem JE (ok:dq E) {ob:Obj E.T} {p:List Step} {v:az E.T} {b:Nat} {u:Value} (h:(Ck E ob p).get=some v) (hn:v≠ .undef) (hv:cZ E σ st w M u ob) (hb:k9 u=some b):
  (∃t c,VT E σ st w M t v c∧ ∀q x,c[q]? =some x→w.cell? ⟨b,E.cE p+q,none⟩=some x)∨
   (∃x,p=[]∧single E v=true∧a8 E σ st w M v x∧w.cell? ⟨b,0,none⟩=some x):=by
 cases hv with
 |box ro d b' c el fr hh hf hc=>
  simp only[k9,Option.some.injEq]at hb
  subst hb
  simp only[Ck]at h
  have hcell: ∀(q:Nat) (x:Value),c[q]? =some x→w.cell? ⟨b',q,none⟩=some x:=fun q x hq=>by simp[World.cell?,hh,hq]
  rcases hc with⟨t,ht⟩|⟨hs,x,hx,ho,hr⟩
  ·obtain⟨t',c',l,r,h1,h2,h3⟩:=zg ok p h ht hn
   refine .inl ⟨t',c',h1,fun q x hq=>hcell _ _ ?_⟩
   rw[←Array.getElem?_toList,h2,List.append_assoc,List.getElem?_append_right (by omega),h3,Nat.add_sub_cancel_left,List.getElem?_append_left (List.getElem?_eq_some_iff.1 hq).1]
   exact hq
  ·cases p with
   |nil=>
    cases h
    exact .inr ⟨x,rfl,O6 hs hn,hr,hcell 0 x (by rw[←Array.getElem?_toList,hx];rfl)⟩
   |cons s p=>
    exfalso
    cases s with
    |tQ i j=>
     simp only[sC]at h
     have:mL E i j d= .undef:=by cases d<;>first|rfl|cases hs
     rw[this]at h
     exact hn (zg.getP_undef p h)
    |idx e n=>cases d<;>first|(cases hs;done)|(cases h;done)
 |arr l e xs v hr=>
  cases p with
  |nil=>cases h
  |cons s p=>
   cases s with
   |tQ i j=>cases h
   |idx e' n=>
    simp only[Ck]at h
    obtain⟨he,h⟩:=Tree.aO h
    have:=dP he;subst this
    simp only[Tree.get]at h
    obtain⟨x,hx,h⟩:=Option.bind_eq_some_iff.1 h
    rcases hr.2 with⟨⟨a,rfl⟩,_⟩|⟨g,cap,c,el,fr,cs,rfl,hc,hh,hz,hf,hl,hq,ho⟩
    ·rw[E2]at hb;cases hb
    ·simp only[k9,Option.some.injEq]at hb
     subst hb
     obtain⟨c1,l1,r1,h1,rfl,h3,_⟩:=bE.split ok hl n x hx
     obtain⟨t',c',l',r',h5,rfl,h6⟩:=zg (σ:=σ) (st:=st) ok p h (.val e' x c1 h1) hn
     refine .inl ⟨t',c',h5,fun q y hy=> ?_⟩
     have:c[E.cE (.idx e' n::p)+q]? =some y:=by
      refine hq _ y ?_
      have hlt:=(List.getElem?_eq_some_iff.1 hy).1
      rw[show l1++(l'++c'++r')++r1=(l1++l')++(c'++(r'++r1))by simp,List.getElem?_append_right (by simp[Env.cE,Env.iY];omega),
       List.getElem?_append_left (by simp[Env.cE,Env.iY];omega)]
      rw[show E.cE (.idx e' n::p)+q-(l1++l').length=q by simp[Env.cE,Env.iY];omega]
      exact hy
     simp[World.cell?,hh,this]
 |dead v=>cases h
theorem DS {t:TypeId} {v:az E.T} (hf:fits E st t v=true) (hs:single E v=true):E.tk t= .ptr∨E.tk t= .func∨E.tk t= .iface:=by
 unfold fits at hf
 cases ht:E.tk t with
 |data ty=>rw[ht]at hf;cases v<;>first|(cases hs;done)|(cases hf;done)
 |ptr=>exact .inl rfl
 |func=>exact .inr (.inl rfl)
 |iface=>exact .inr (.inr rfl)
 |other=>rw[ht]at hf;cases hf
theorem Dm {t:TypeId} {v:az E.T} (hf:fits E st t v=true):(∃ty,E.tk t= .data ty)∨single E v=true:=by
 unfold fits at hf
 cases ht:E.tk t with
 |data ty=>exact .inl ⟨ty,rfl⟩
 |ptr=>rw[ht]at hf;exact .inr hf
 |func=>rw[ht]at hf;exact .inr hf
 |iface=>rw[ht]at hf;exact .inr hf
 |other=>rw[ht]at hf;cases hf
theorem Pu {t:TypeId} {v:az E.T} (hf:fits E st t v=true):v≠ .undef:=by
 rintro rfl
 unfold fits at hf
 cases ht:E.tk t<;>rw[ht]at hf<;>cases hf
theorem LC (S:Sound P E) (hst:br E σ st w) {t:TypeId} {x v:az E.T} {u:Value} (h:(yw E st t x).get=some v) (hx:a8 E σ st w (MB σ st) x u):
  ∃y,(Instr.loadAt t u).run P w= .ok y w∧a8 E σ st w (MB σ st) v y:=by
 cases x with
 |ptr o p=>
  simp only[yw]at h
  split at h
  ·rename_i ob hob
   obtain⟨v',h1,h2⟩:=Tree.aA h
   obtain⟨hf,h3⟩:=Tree.aO h2
   cases h3
   cases hx with
   |data t' d cs hv=>cases hv
   |ptr o p b hb hlt=>
    have hr:=hst.obj o ob hob
    have hun:=Pu hf
    rcases JE S.todq h1 hun hr hb with⟨t',c,hv,hc⟩|⟨y,rfl,hs,hv,hc⟩
    ·rcases Dm hf with⟨ty,ht⟩|hs
     ·have hfd:qB E st ty v=true:=by unfold fits at hf;rw[ht]at hf;exact hf
      have hv':=se hv hfd
      refine⟨toV ty c,?_,.data ty v c hv'⟩
      have:=ur S ht b (E.cE p) c (VT.len S.todq hv') hc nq
      simp[Instr.loadAt,Instr.sureAddr,this]
     ·exfalso;cases hv<;>cases hs
    ·have hk:=DS hf hs
     refine⟨y,?_,hv⟩
     have hag:=CT S hk w
     simp[Instr.loadAt,Instr.sureAddr,loadVar,hag,Env.cE,run_load,hc]
  ·cases h
 |eg t' y=>
  simp only[yw]at h
  split at h
  ·rename_i ty ht
   obtain⟨he,h2⟩:=Tree.aO h
   cases h2
   have:=dP he;subst this
   cases hx with
   |data t'' d cs hv=>cases hv
   |eg t'' y a cs hc hm=>
    obtain⟨b,off,ha,hb,hlt,hq⟩:=hm
    cases ha
    refine⟨toV t' cs,?_,.data t' _ cs (.val t' y cs hc)⟩
    have:=ur S ht b off cs (cF.len S.todq hc) hq nq
    simp[Instr.loadAt,Instr.sureAddr,this]
  ·cases h
 |_=>cases h
theorem vq (s s':Step) (p:List Step):qJ E (s::s'::p)=qJ E (s'::p):=by cases s<;>rfl
theorem EL (ok:dq E) {okf:az E.T→Bool} {v:az E.T} {ty:Ty} {cv:List Value} (hv:VT E σ st w M ty v cv): ∀(p:List Step) {d d':az E.T} {t:Ty} {cs:List Value},p≠[]→
  qJ E p=some ty→(ve E okf v p d).get=some d'→VT E σ st w M t d cs→ ∃l c r,cs=l++c++r∧l.length=E.cE p∧c.length=cv.length∧VT E σ st w M t d' (l++cv++r)
 |[],_,_,_,_,hne,_,_,_=>absurd rfl hne
 | .tQ i j::p,d,d',t,cs,_,hp,h,hd=>by
  simp only[ve]at h
  split at h
  ·rename_i i' fs he
   obtain⟨hb,h⟩:=Tree.aO h
   rw[Bool.and_eq_true]at hb
   have hi:=Nat.eq_of_beq_eq_true hb.1;subst hi
   have hj:j<fs.length:=by have:=hb.2;rw[Nat.blt_eq]at this;exact this
   obtain⟨rfl,hs⟩:=AX hd he
   obtain⟨t1,c1,l1,r1,h1,h2,rfl,h4,h5⟩:=iB.at ok hs j _ (nH (d:= .undef) hj)
   obtain⟨d1,h6,h7⟩:=Tree.aA h
   cases h7
   cases p with
   |nil=>
    simp only[ve]at h6
    obtain⟨_,h6⟩:=Tree.aO h6
    cases h6
    simp only[qJ]at hp
    rw[h1]at hp;cases hp
    exact⟨l1,c1,r1,rfl,by simp[Env.cE,Env.iY,Env.qM,h4],by rw[VT.len ok h2,VT.len ok hv],.agg i _ _ (h5 v cv hv)⟩
   |cons s p=>
    rw[vq]at hp
    obtain⟨l,c,r,rfl,hl,hc,hvt⟩:=EL ok hv (s::p) (by simp) hp h6 h2
    refine⟨l1++l,c,r++r1,by simp,by simp[Env.cE,Env.iY,Env.qM,h4,hl],hc,?_⟩
    have:=VT.agg i _ _ (h5 d1 _ hvt)
    simpa using this
  ·cases h
 | .idx e n::p,d,d',t,cs,_,hp,h,hd=>by
  cases hd with
  |val t x cs hc=>
   cases hc with
   |arr m e' xs cs hm hl=>
    simp only[ve]at h
    obtain⟨he,h⟩:=Tree.aO h
    have:=dP he;subst this
    simp only[Tree.get]at h
    obtain⟨x,hx,h⟩:=Option.bind_eq_some_iff.1 h
    obtain⟨d1,h6,h7⟩:=Tree.aA h
    obtain⟨y,h8,h9⟩:=Tree.aA h7
    rw[Tree.dE]at h8
    cases h9
    obtain⟨c1,l1,r1,h1,rfl,h3,h4⟩:=bE.split ok hl n x hx
    cases p with
    |nil=>
     simp only[ve]at h6
     obtain⟨_,h6⟩:=Tree.aO h6
     cases h6
     simp only[qJ,Option.some.injEq]at hp
     subst hp
     have hy:=toData_nil ok depth h8 hv
     refine⟨l1,c1,r1,rfl,by simp[Env.cE,Env.iY,h3],by rw[cF.len ok h1,cF.len ok hy],.val _ _ _ (.arr m e _ _ (by simp[hm]) (h4 y cv hy))⟩
    |cons s p=>
     rw[vq]at hp
     obtain⟨l,c,r,rfl,hl',hc',hvt⟩:=EL ok hv (s::p) (by simp) hp h6 (.val e x c1 h1)
     have hy:=toData_nil ok depth h8 hvt
     refine⟨l1++l,c,r++r1,by simp,by simp[Env.cE,Env.iY,h3,hl'],hc',?_⟩
     have:=VT.val (σ:=σ) (st:=st) _ _ _ (.arr m e _ _ (by simp[hm]) (h4 y _ hy))
     simpa using this
   |bool b=>cases h
   |int k x=>cases h
   |str s hs=>cases h
   |slice e xs a cap cs hl hm hn' hc=>cases h
   |named i x cs hf=>cases h
  |bm e a=>cases h
  |own k l e xs hk=>cases h
  |dD e v hs=>cases h
  |agg i fs cs hs=>cases h
theorem EK {c:Array Value} {l m r vs:List Value} (h:c.toList=l++m++r) (hl:m.length=vs.length):(qq c l.length vs).toList=l++vs++r:=by
 have hsz:c.size=l.length+m.length+r.length:=by rw[←Array.length_toList,h];simp;omega
 apply List.ext_getElem?
 intro q
 rw[Array.getElem?_toList,qF _ _ _ _ (by omega)]
 by_cases h1:l.length≤q∧q<l.length+vs.length
 ·rw[if_pos h1,List.append_assoc,List.getElem?_append_right h1.1,List.getElem?_append_left (by omega)]
 ·rw[if_neg h1,←Array.getElem?_toList,h]
  rcases Nat.lt_or_ge q l.length with h2|h2
  ·rw[List.append_assoc,List.getElem?_append_left h2,List.append_assoc,List.getElem?_append_left h2]
  ·rw[List.append_assoc,List.getElem?_append_right h2,List.getElem?_append_right (by omega),List.append_assoc,List.getElem?_append_right h2,List.getElem?_append_right (by omega),hl]
theorem Fp {v:az E.T} {u:Value} (hs:single E v=true) (h:a8 E σ st w M v u):kU u=true:=by
 cases h with
 |data t d cs h=>cases h<;>cases hs
 |undef v=>cases hs
 |ptr o p b h hl=>rfl
 |cQ=>rfl
 |eg t x a cs h hm=>rfl
 |jo vs us h=>cases hs
 |fn f vs us h=>rfl
 |ei=>rfl
 |fD t d v h=>rfl
 |ct=>rfl
theorem VT.MX {t:Ty} {d:az E.T} {cs:List Value} (h:VT E σ st w M t d cs):single E d=false:=by cases h<;>rfl
theorem zJ (P:Program) {w:World} {t:TypeId} {b off:Nat} {u:Value} {cv:List Value} {i:TypeInfo} {c:Array Value} {el:TypeId} {fr:Nat×Nat} (hi:P.info? t=some i) (hs:i.size=cv.length)
  (hu:u.cells=cv.toArray) (h1: ∀v∈cv,kU v=true) (hh:w.heap[b]? =some (.cells c el fr)) (hl:off+cv.length≤c.size)
  (hf: ∀q,off≤q→q<off+cv.length→w.frozen? ⟨b,q,none⟩=false):
  (Instr.storeAt t (.pointer (some ⟨b,off,none⟩)) u).run P w= .ok () (iL w b (.cells (qq c off cv) el fr)):=by
 have hst:=nt P b off el fr cv 0 w c hh (by simpa using hl) h1 (by simpa using hf)
 simp only[Nat.add_zero]at hst
 simp[Instr.storeAt,Instr.sureAddr,storeVar,rz hi,hu,hs,hst]
theorem AR {w:World} {b:Nat} {c c':Array Value} {el:TypeId} {fr:Nat×Nat} (hh:w.heap[b]? =some (.cells c el fr)) (q:Nat):(iL w b (.cells c' el fr)).frozen? ⟨b,q,none⟩=w.frozen? ⟨b,q,none⟩:=by
 have hb:=(Array.getElem?_eq_some_iff.1 hh).1
 unfold World.frozen?
 simp only[kT hb,hh]
theorem K8 (hst:br E σ st w) {o:Nat} {ob ob':Obj E.T} (ho:aR st o=some ob) (hm:dt ob=true) (hm':dt ob'=true→dt ob=true) {b:Nat} (hb:k9 (σ o)=some b) (x:Go.Obj):
  Kept (MB σ st) (MB σ (D.dk st o ob')) w (iL w b x):=
 ⟨by rw[iK];exact Nat.le_refl _,fun g hg hM=>nF (fun h=>hM (.inr ⟨o,ob,ho,hm,by rw[←h];exact hb⟩)),fun g _ h=>ua ho hm' h⟩
theorem xC {o:Nat} {ob ob':Obj E.T} (ho:aR st o=some ob) (ht:qQ ob ob') (k:Nat):ij σ σ st (D.dk st o ob') k:=by
 refine⟨rfl,fun l e xs h=> ?_,fun h=>by rw[dL];exact h⟩
 rw[bF]
 by_cases h':o=k
 ·subst h'
  rw[ho]at h;cases h
  rw[if_pos ⟨rfl,bT ho⟩]
  cases ht with
  |arr l l' e xs xs'=>exact⟨l',xs',rfl⟩
 ·rw[if_neg (fun h=>h' h.1)];exact⟨l,xs,h⟩
theorem Aq {t:TypeId} {p:List Step} (h:zc E t p=true) (hp:p≠[]): ∃ty,E.tk t= .data ty∧qJ E p=some ty:=by
 unfold zc at h
 split at h
 ·rename_i ty ty' h1 h2
  have:=dP h;subst this
  exact⟨_,h1,h2⟩
 ·cases p with
  |nil=>exact absurd rfl hp
  |cons s p=>cases h
theorem Dr (S:Sound P E) (hst:br E σ st w) {st':St E.T} {t:TypeId} {x v:az E.T} {u uv:Value} (h:(AZ E st t x v).get=some st') (hx:a8 E σ st w (MB σ st) x u) (hv:a8 E σ st w (MB σ st) v uv):
  ∃w',(Instr.storeAt t u uv).run P w= .ok () w'∧Mv σ σ st st' w w':=by
 cases x with
 |ptr o p=>
  simp only[AZ]at h
  split at h
  ·rename_i ob hob
   obtain⟨hfp,h⟩:=Tree.aO h
   rw[Bool.and_eq_true]at hfp
   obtain⟨hf,hp⟩:=hfp
   obtain⟨ob',hset,h⟩:=Tree.aA h
   cases h
   cases hx with
   |data t' d cs hv=>cases hv
   |ptr o p b hb hlt=>
    have hr:=hst.obj o ob hob
    cases ob with
    |dead=>cases hset
    |box ro d0=>
     cases ro with
     |true=>cases hset
     |false=>
      simp only[Ak]at hset
      obtain⟨d',hd',hset⟩:=Tree.aA hset
      cases hset
      generalize hσ:σ o=s at hr hb
      cases hr with
      |box ro d b' c el fr hh hfz hc=>
       simp only[k9,Option.some.injEq]at hb
       subst hb
       have hbk:k9 (σ o)=some b':=by rw[hσ];rfl
       have key: ∃(cv l m r:List Value) (i:TypeInfo),P.info? t=some i∧i.size=cv.length∧uv.cells=cv.toArray∧(∀v∈cv,kU v=true)∧c.toList=l++m++r∧l.length=E.cE p∧m.length=cv.length∧
         ((∃t,VT E σ st w (MB σ st) t d' (l++cv++r))∨(Ev E d'=true∧ ∃v,l++cv++r=[v]∧kU v=true∧a8 E σ st w (MB σ st) d' v)):=by
        rcases Dm hf with⟨ty,ht⟩|hs
        ·obtain⟨cv,hvt,rfl⟩:=Dn ht hf hv
         obtain⟨i,hi,hsz,_⟩:=(S.data t ty ht).info
         have hlen:=VT.len S.todq hvt
         have hcells:=toV_cells (ty:=ty) (VT.one hst hvt) (fun ha=>by rw[hlen];exact nq ha)
         by_cases hpe:p=[]
         ·subst hpe
          simp only[ve]at hd'
          obtain⟨hok,hd'⟩:=Tree.aO hd'
          cases hd'
          have hok':Pr E st ty d0=true:=by unfold mh at hok;rw[ht]at hok;exact hok
          have hold:c.toList.length=cv.length:=by
           rcases hc with⟨t0,h0⟩|⟨hs0,_⟩
           ·rw[VT.len S.todq (SO h0 hok'),hlen]
           ·cases d0<;>first|(cases hs0;done)|(cases hok';done)
          exact⟨cv,[],c.toList,[],i,hi,by rw[hsz,hlen],hcells,VT.one hst hvt,by simp,rfl,hold,.inl ⟨ty,by simpa using hvt⟩⟩
         ·obtain⟨ty',ht',hpt⟩:=Aq hp hpe
          rw[ht]at ht';cases ht'
          rcases hc with⟨t0,h0⟩|⟨hs0,_⟩
          ·obtain⟨l,m,r,h1,h2,h3,h4⟩:=EL S.todq hvt p hpe hpt hd' h0
           exact⟨cv,l,m,r,i,hi,by rw[hsz,hlen],hcells,VT.one hst hvt,h1,h2,h3,.inl ⟨t0,h4⟩⟩
          ·exfalso
           cases p with
           |nil=>exact hpe rfl
           |cons s p=>
            cases s with
            |tQ i j=>cases d0<;>first|(cases hs0;done)|(cases hd';done)
            |idx e n=>cases d0<;>first|(cases hs0;done)|(cases hd';done)
        ·have hk:=DS hf hs
         have hpe:p=[]:=by
          cases p with
          |nil=>rfl
          |cons s p=>
           obtain⟨ty,ht,_⟩:=Aq hp (by simp)
           rw[ht]at hk
           rcases hk with hk|hk|hk<;>cases hk
         subst hpe
         simp only[ve]at hd'
         obtain⟨hok,hd'⟩:=Tree.aO hd'
         cases hd'
         have hs0:single E d0=true:=by
          unfold mh at hok
          rcases hk with hk|hk|hk<;>(rw[hk]at hok;exact hok)
         have ho:=Fp hs hv
         have hold:c.toList.length=1:=by
          rcases hc with⟨t0,h0⟩|⟨_,x,hx,_⟩
          ·rw[h0.MX]at hs0;cases hs0
          ·rw[hx];rfl
         obtain⟨i,hi,hsz⟩: ∃i,P.info? t=some i∧i.size=1:=by
          rcases hk with hk|hk|hk
          ·obtain⟨_,i,hi,hsz,_⟩:=S.ptr t hk;exact⟨i,hi,hsz⟩
          ·obtain⟨_,i,hi,hsz,_⟩:=S.func t hk;exact⟨i,hi,hsz⟩
          ·obtain⟨_,i,hi,hsz,_⟩:=S.iface t hk;exact⟨i,hi,hsz⟩
         refine⟨[uv],[],c.toList,[],i,hi,hsz,?_,by simpa using ho,by simp,rfl,hold,.inr ⟨N3 hs,uv,rfl,ho,hv⟩⟩
         cases uv<;>first|(simp[kU]at ho;done)|rfl
       obtain⟨cv,l,m,r,i,hi,hsz,hcells,h1,hlc,hpo,hml,hnew⟩:=key
       have hcs:c.size=l.length+m.length+r.length:=by rw[←Array.length_toList,hlc];simp;omega
       have hrun:=zJ P hi hsz hcells h1 hh (off:=E.cE p) (by omega) (fun q _ _=>hfz q)
       refine⟨_,hrun,Mv.dk hst hob (.box false false d0 d') (fun _=>rfl) (fun _=>rfl) _ rfl rfl rfl iK (fun g hg=>nF (fun h=>hg rfl (by rw[hbk,h]))) ?_⟩
       have hkp:=K8 (ob':= .box false d') hst hob rfl (fun _=>rfl) hbk (.cells (qq c (E.cE p) cv) el fr)
       rw[hσ]
       have hbz:=(Array.getElem?_eq_some_iff.1 hh).1
       have hspl:(qq c (E.cE p) cv).toList=l++cv++r:=by rw[←hpo];exact EK hlc hml
       refine .box false d' b' _ el fr (kT hbz) (fun q=>by rw[AR hh];exact hfz q) ?_
       rw[hspl]
       rcases hnew with⟨t0,h0⟩|⟨hs,v,hv1,ho,hv2⟩
       ·exact .inl ⟨t0,VT.aM hkp h0 (fun k _=>xC hob (.box false false d0 d') k)⟩
       ·exact .inr ⟨hs,v,hv1,ho,a8.aM hkp hv2 (fun k _=>xC hob (.box false false d0 d') k)⟩
    |arr l0 e xs=>
      cases p with
      |nil=>cases hset
      |cons s p=>
       cases s with
       |tQ i j=>cases hset
       |idx e' n=>
        simp only[Ak]at hset
        obtain⟨hme,hset⟩:=Tree.aO hset
        rw[Bool.and_eq_true]at hme
        obtain⟨hmay,he⟩:=hme
        have:=dP he;subst this
        simp only[Tree.get]at hset
        obtain⟨x,hx,hset⟩:=Option.bind_eq_some_iff.1 hset
        obtain⟨d1,h6,hset⟩:=Tree.aA hset
        obtain⟨y,h8,hset⟩:=Tree.aA hset
        rw[Tree.dE]at h8
        cases hset
        obtain⟨ty,ht,hpt⟩:=Aq hp (by simp)
        obtain⟨cv,hvt,rfl⟩:=Dn ht hf hv
        obtain⟨i,hi,hsz,_⟩:=(S.data t ty ht).info
        have hlen:=VT.len S.todq hvt
        have hcells:=toV_cells (ty:=ty) (VT.one hst hvt) (fun ha=>by rw[hlen];exact nq ha)
        generalize hσ:σ o=s at hr hb
        cases hr with
        |arr l e xs _ hown=>
         rcases hown.2 with⟨⟨a,rfl⟩,_⟩|⟨g,cap,c,el,fr,cs,rfl,hcap,hh,hz,hfz,hl,hq,ho⟩
         ·rw[E2]at hb;cases hb
         ·simp only[k9,Option.some.injEq]at hb
          subst hb
          have hbk:k9 (σ o)=some g:=by rw[hσ];rfl
          obtain⟨c1,l1,r1,h1,rfl,h3,h4⟩:=bE.split S.todq hl n x hx
          have key: ∃l m r,c1=l++m++r∧l.length=E.cE p∧m.length=cv.length∧cF E w (MB σ st) e' y (l++cv++r):=by
           cases p with
           |nil=>
            simp only[ve]at h6
            obtain⟨_,h6⟩:=Tree.aO h6
            cases h6
            simp only[qJ,Option.some.injEq]at hpt
            subst hpt
            have hy:=toData_nil S.todq depth h8 hvt
            exact⟨[],c1,[],by simp,rfl,by rw[cF.len S.todq h1,cF.len S.todq hy],by simpa using hy⟩
           |cons s p=>
            rw[vq]at hpt
            obtain⟨l,m,r,e1,e2,e3,e4⟩:=EL S.todq hvt (s::p) (by simp) hpt h6 (.val e' x c1 h1)
            exact⟨l,m,r,e1,e2,e3,toData_nil S.todq depth h8 e4⟩
          obtain⟨l,m,r,rfl,hpo,hml,hy⟩:=key
          have hlen':=bE.len S.todq hl
          have hnx:n<xs.length:=(List.getElem?_eq_some_iff.1 hx).1
          have hcapsz:(l1++(l++m++r)++r1).length≤(cap+1)*E.size e':=by rw[hlen'];exact Nat.mul_le_mul_right _ hcap
          have hoff:E.cE (.idx e' n::p)=(l1++l).length:=by simp[Env.cE,Env.iY,h3,hpo]
          have hrun:=zJ P hi (by rw[hsz,hlen]) hcells (VT.one hst hvt) hh (off:=E.cE (.idx e' n::p)) (by rw[hoff];simp at hcapsz⊢;omega)
           (fun q h1 h2=>hfz q (by rw[hoff]at h2;simp at hcapsz h2;omega))
          refine⟨_,hrun,Mv.dk hst hob (.arr l0 l0 e' xs (xs.set n y)) (fun h=>h) (fun h=>h) _ rfl rfl rfl iK (fun g' hg=>nF (fun h=>hg hmay (by rw[hbk,h]))) ?_⟩
          have hkp:=K8 (ob':= .arr l0 e' (xs.set n y)) hst hob hmay (fun h=>h) hbk (.cells (qq c (E.cE (.idx e' n::p)) cv) el fr)
          rw[hσ]
          have hbz:=(Array.getElem?_eq_some_iff.1 hh).1
          refine .arr l0 e' _ _ ⟨by simpa using hown.1,.inr ⟨g,cap,_,el,fr,l1++(l++cv++r)++r1,by simp,by simpa using hcap,kT hbz,by rw[gH];exact hz,fun q hq'=>by rw[AR hh];exact hfz q hq',
           bE.aM hkp (h4 y _ hy),fun q u hu=> ?_,ho⟩⟩
          rw[qF _ _ _ _ (by rw[hoff];simp at hcapsz⊢;omega),hoff]
          by_cases hin:(l1++l).length≤q∧q<(l1++l).length+cv.length
          ·rw[if_pos hin]
           rw[show l1++(l++cv++r)++r1=(l1++l)++(cv++(r++r1))by simp,List.getElem?_append_right hin.1,List.getElem?_append_left (by omega)]at hu
           exact hu
          ·rw[if_neg hin]
           refine hq q u ?_
           rw[show l1++(l++cv++r)++r1=(l1++l)++(cv++(r++r1))by simp]at hu
           rw[show l1++(l++m++r)++r1=(l1++l)++(m++(r++r1))by simp]
           rcases Nat.lt_or_ge q (l1++l).length with h9|h9
           ·rw[List.getElem?_append_left h9]at hu⊢;exact hu
           ·rw[List.getElem?_append_right h9]at hu⊢
            rw[List.getElem?_append_right (by omega)]at hu⊢
            rw[hml];exact hu
  ·cases h
 |_=>cases h
end
open Go
section
variable {P:Program} {E:Env} {w:World} {σ:Sg} {st:St E.T} {M:Nat→Prop}
theorem kY {t:TypeId} {ty:Ty} (h:wW E t ty=true):E.tk t= .data ty:=by
 unfold wW at h
 split at h
 ·rename_i ty' ht
  have:=dP h;subst this;exact ht
 ·cases h
theorem BW (p:List Step) (s:Step):E.cE (p++[s])=E.cE p+E.iY s:=by
 induction p with
 |nil=>simp[Env.cE]
 |cons x r ih=>simp[Env.cE,ih];omega
theorem Fa {t:Ty} {x:I E.T t} {u:Value} (h:a8 E σ st w M (.val t x) u): ∃cs,cF E w M t x cs∧u=toV t cs:=by
 cases h with
 |data t' d cs h=>
  cases h with
  |val t x cs h=>exact⟨cs,h,rfl⟩
theorem jg {k:IntKind} {x:J6 k} {u:Value} (h:a8 E σ st w M (.val (.int k) x) u):u= .int k (toI k x):=by
 obtain⟨cs,hc,rfl⟩:=Fa h
 cases hc;rfl
theorem zn {b:Bool} {u:Value} (h:a8 E σ st w M (.val .bool b) u):u= .bool b:=by
 obtain⟨cs,hc,rfl⟩:=Fa h
 cases hc;rfl
theorem tm {s:List UInt8} {u:Value} (h:a8 E σ st w M (.val .str s) u): ∃b:ByteArray,u= .string b∧b.data.toList=s∧b.size≤dy:=by
 obtain⟨cs,hc,rfl⟩:=Fa h
 cases hc with
 |str b hb=>exact⟨b,rfl,rfl,hb⟩
theorem BK {e:Ty} {xs:List (I E.T e)} {u:Value} (h:a8 E σ st w M (.val (.slice e) xs) u):
  ∃a cap cs,u= .slice a xs.length cap∧bE E w M e xs cs∧(xs=[]∨Mem w M a cs)∧xs.length≤dy∧xs.length≤cap:=by
 obtain⟨cs,hc,rfl⟩:=Fa h
 cases hc with
 |slice e xs a cap cs hl hm hn hc=>exact⟨a,cap,cs,rfl,hl,hm,hn,hc⟩
theorem Vn {n:Nat} {e:Ty} {xs:List (I E.T e)} {u:Value} (h:a8 E σ st w M (.val (.arr n e) xs) u): ∃cs:List Value,u= .agg cs.toArray∧xs.length=n∧bE E w M e xs cs:=by
 obtain⟨cs,hc,rfl⟩:=Fa h
 cases hc with
 |arr n e xs cs hn hl=>exact⟨cs,rfl,hn,hl⟩
theorem Jf {u:Value} (h:a8 E σ st w M .bm u): ∃a,u= .slice a 0 0:=by
 cases h with
 |data t d cs h=>
  cases h with
  |bm e a=>exact⟨a,rfl⟩
theorem vt {k:Nat} {u:Value} (h:a8 E σ st w M (.own k) u):u=σ k:=by
 cases h with
 |data t d cs h=>
  cases h with
  |own k l e xs h=>rfl
theorem mkInt (k:IntKind) (x:J6 k):a8 E σ st w M (.val (.int k) x) (.int k (toI k x)):= .data (.int k) _ _ (.val _ x _ (.int k x))
theorem gy (b:Bool):a8 E σ st w M (.val .bool b) (.bool b):= .data .bool _ _ (.val _ b _ (.bool b))
theorem mkStr (b:ByteArray) (h:b.size≤dy):a8 E σ st w M (.val .str b.data.toList) (.string b):= .data .str _ _ (.val _ _ _ (.str b h))
theorem U7 (s:List UInt8) (h:s.length≤dy):a8 E σ st w M (.val .str s) (.string ⟨s.toArray⟩):=by
 have:=mkStr (E:=E) (σ:=σ) (st:=st) (w:=w) (M:=M) ⟨s.toArray⟩ (by simpa [ByteArray.size]using h)
 simpa using this
theorem toI_ofI (k:IntKind) (n:Int) (h:k= .u8→0≤n∧n<256):toI k (As k n)=n:=by
 cases k<;>first|rfl|skip
 obtain⟨h0,h1⟩:=h rfl
 simp only[toI,As]
 have:n.toNat<256:=by omega
 simp[UInt8.toNat_ofNat',Nat.mod_eq_of_lt this]
 omega
theorem wrap_u8 (n:Int):0≤IntKind.u8.wrap n∧IntKind.u8.wrap n<256:=by
 simp only[IntKind.wrap,IntKind.signed,IntKind.bits,Bool.false_and]
 constructor
 ·simp;omega
 ·simp;omega
theorem toI_wrap (k:IntKind) (n:Int):toI k (As k (k.wrap n))=k.wrap n:=toI_ofI k _ fun h=>by subst h;exact wrap_u8 n
theorem toI_u8_range (x:J6 .u8):0≤toI .u8 x∧toI .u8 x<256:=by
 have:=UInt8.toNat_lt x
 simp only[toI];omega
theorem Rc (k:IntKind) (n:Int):a8 E σ st w M (.val (.int k) (As k (k.wrap n))) (.int k (k.wrap n)):=by
 have:=mkInt (E:=E) (σ:=σ) (st:=st) (w:=w) (M:=M) k (As k (k.wrap n))
 rwa [toI_wrap]at this
theorem Hn (S:Sound P E) {t:TypeId} {x v:az E.T} {j:Nat} {u:Value} (h:(wy E t x j).get=some v) (hx:a8 E σ st w M x u):
  ∃y,(Instr.fieldAt t u j).run P w= .ok y w∧a8 E σ st w M v y:=by
 unfold wy at h
 split at h
 ·rename_i i ht
  obtain⟨hj,h⟩:=Tree.aO h
  rw[Nat.blt_eq]at hj
  obtain⟨fs,hu,hsz,hfs⟩:=(S.data t _ ht).desc
  obtain⟨f,hf⟩: ∃f,fs[j]? =some f:=⟨fs[j]'(by omega),Array.getElem?_eq_getElem _⟩
  obtain⟨ty,h1,h2,h3,h4,_⟩:=hfs j f hf
  obtain⟨inf,hi,hsi,_⟩:=(S.data _ _ h2).info
  cases x with
  |ptr o p=>
   cases h
   cases hx with
   |data t' d cs hv=>cases hv
   |ptr o p b hb hl=>
    refine⟨.pointer (some ⟨b,E.cE (p++[.tQ i j]),none⟩),?_,.ptr o _ b hb hl⟩
    simp[Instr.fieldAt,bt hu,hf,Instr.sureAddr,fieldPlace,rz hi,hsi,h4,dS,BW,Env.iY,h3]
  |eg ty0 y=>
   cases ty0 with
   |named i'=>
   obtain⟨hii,h⟩:=Tree.aO h
   have:=Nat.eq_of_beq_eq_true hii;subst this
   split at h
   ·rename_i t' z hz
    cases h
    cases hx with
    |data t'' d cs hv=>cases hv
    |eg t'' y a cs hc hm=>
     obtain⟨b,off,ha,hb,hlt,hq⟩:=hm
     cases ha
     have hvts:iB E σ st w M (E.fields i) (parts E i y) cs:=by
      cases hc with
      |named i y cs hf=>exact iB.ofF hf
     have hlen:j<(parts E i y).length:=by
      rcases Nat.lt_or_ge j (parts E i y).length with h|h
      ·exact h
      ·rw[kt,List.getD_eq_getElem?_getD,List.getElem?_eq_none h]at hz;cases hz
     obtain⟨t1,c,l,r,g1,g2,rfl,g4,_⟩:=iB.at S.todq hvts j _ (nH (d:= .undef) hlen)
     rw[hz]at g2
     cases g2 with
     |val t1 z c g2=>
      rw[h1]at g1;cases g1
      refine⟨.pointer (some ⟨b,off+E.qM i j,none⟩),?_,.eg _ z _ c g2 ⟨b,off+E.qM i j,rfl,hb,hlt,fun q x hx=> ?_⟩⟩
      ·simp[Instr.fieldAt,bt hu,hf,Instr.sureAddr,fieldPlace,rz hi,hsi,h4,dS,h3]
      ·have hlc:=(List.getElem?_eq_some_iff.1 hx).1
       have:=hq (E.qM i j+q) x (by
        rw[show E.qM i j=l.length from g4.symm,List.append_assoc,List.getElem?_append_right (by omega),Nat.add_sub_cancel_left,List.getElem?_append_left hlc];exact hx)
       rw[Nat.add_assoc];exact this
   ·cases h
   |bool=>cases h
   |int k=>cases h
   |str=>cases h
   |slice e=>cases h
   |arr n e=>cases h
  |val t x=>cases h
  |bm=>cases h
  |own k=>cases h
  |cQ=>cases h
  |agg i fs=>cases h
  |jo vs=>cases h
  |fn f cap=>cases h
  |ei=>cases h
  |fD t v=>cases h
  |ct=>cases h
  |dD e=>cases h
  |undef=>cases h
 ·cases h
theorem mZ {i:Int} {n:Nat}:s4 i n=true↔0≤i∧i<n:=by simp[s4]
theorem fM {α:Type} {c:Bool} {t:Tree α} {a:α} (h:(Tree.ite c t .fail).get=some a):c=true∧t.get=some a:=by
 cases c with
 |true=>exact⟨rfl,h⟩
 |false=>cases h
theorem ft (S:Sound P E) {te:TypeId} {e:Ty} (h:E.tk te= .data e) (w:World):(sizeOf te).run P w= .ok (E.size e) w:=by
 obtain⟨inf,hi,hsi,_⟩:=(S.data _ _ h).info
 rw[rz hi,hsi]
theorem KU (ok:dq E) {e:Ty} {xs:List (I E.T e)} {cs:List Value} {b off i:Nat} {y:I E.T e} (hl:bE E w M e xs cs) (hb: ¬M b) (hlt:b<w.heap.size)
  (hq: ∀q v,cs[q]? =some v→w.cell? ⟨b,off+q,none⟩=some v) (hy:xs[i]? =some y):a8 E σ st w M (.eg e y) (.pointer (some ⟨b,off+i*E.size e,none⟩)):=by
 obtain⟨c,hc,hcq⟩:=bE.at ok hl i y hy
 exact .eg e y _ c hc ⟨b,off+i*E.size e,rfl,hb,hlt,fun q v hv=>by rw[Nat.add_assoc];exact hq _ v (hcq q v hv)⟩
theorem Hm (S:Sound P E) (hst:br E σ st w) {t:TypeId} {x i v:az E.T} {u ui:Value} (h:(mK E st t x i).get=some v) (hx:a8 E σ st w (MB σ st) x u) (hi:a8 E σ st w (MB σ st) i ui):
  ∃y,(Instr.indexAt t u ui).run P w= .ok y w∧a8 E σ st w (MB σ st) v y:=by
 unfold mK at h
 split at h
 ·rename_i k a
  have:=jg hi;subst this
  split at h
  ·rename_i e xs
   obtain⟨ht,h⟩:=Tree.aO h
   have ht:=kY ht
   obtain⟨hr,h⟩:=fM h
   rw[mZ]at hr
   simp only[Tree.get]at h
   obtain⟨y,hy,h⟩:=Option.bind_eq_some_iff.1 h
   cases h
   obtain⟨te,hu,hte⟩:=(S.data t _ ht).desc
   obtain⟨ad,cap,cs,rfl,hl,hm,_,_⟩:=BK hx
   have hne:xs≠[]:=by rintro rfl;simp at hy
   obtain⟨b,off,rfl,hb,hlt,hq⟩:=hm.resolve_left hne
   refine⟨.pointer (some ⟨b,off+(toI k a).toNat*E.size e,none⟩),?_,KU S.todq hl hb hlt hq hy⟩
   simp[Instr.indexAt,asIntOf,bt hu,hr.1,hr.2,ft S hte,dS]
  ·rename_i o
   split at h
   ·rename_i l e xs ho
    obtain⟨ht,h⟩:=Tree.aO h
    have ht:=kY ht
    obtain⟨hr,h⟩:=fM h
    rw[mZ]at hr
    cases h
    obtain⟨te,hu,hte⟩:=(S.data t _ ht).desc
    have:=vt hx;subst this
    have hob:=hst.obj o _ ho
    generalize hσ:σ o=s at hob
    cases hob with
    |arr l e xs _ hown=>
     rcases hown.2 with⟨⟨a,rfl⟩,rfl⟩|⟨g,cap,c,el,fr,cs,rfl,hcap,hh,hz,hfz,hl,hq,hord⟩
     ·simp at hr;omega
     ·refine⟨.pointer (some ⟨g,(toI k a).toNat*E.size e,none⟩),?_,?_⟩
      ·simp[Instr.indexAt,asIntOf,bt hu,hr.1,hr.2,ft S hte,dS]
      ·have:=a8.ptr (E:=E) (σ:=σ) (st:=st) (w:=w) (M:=MB σ st) o [.idx e (toI k a).toNat] g (by rw[hσ];rfl) (bT ho)
       simpa [Env.cE,Env.iY]using this
   ·cases h
  ·rename_i o p
   split at h
   ·rename_i n e ht
    obtain⟨hr,h⟩:=fM h
    rw[mZ]at hr
    cases h
    obtain⟨te,hu,hte⟩:=(S.data t _ ht).desc
    cases hx with
    |data t' d cs hv=>cases hv
    |ptr o p b hb hl=>
     refine⟨.pointer (some ⟨b,E.cE (p++[.idx e (toI k a).toNat]),none⟩),?_,.ptr o _ b hb hl⟩
     simp[Instr.indexAt,asIntOf,bt hu,hr.1,hr.2,ft S hte,dS,Instr.sureAddr,BW,Env.iY]
   ·cases h
  ·rename_i n e xs
   split at h
   ·rename_i n' e' ht
    obtain⟨hte',h2⟩:=Tree.aO h
    have hee:=dP hte'
    clear h
    obtain⟨hr,h3⟩:=fM h2
    clear h2
    rw[mZ]at hr
    simp only[Tree.get]at h3
    obtain⟨y,hy,h4⟩:=Option.bind_eq_some_iff.1 h3
    cases h4
    cases hee
    obtain⟨te,hu,hte⟩:=(S.data t _ ht).desc
    cases hx with
    |data t'' d cs hv=>cases hv
    |eg t'' x a' cs hc hm=>
     obtain⟨b,off,ha,hb,hlt,hq⟩:=hm
     cases ha
     cases hc with
     |arr n e xs cs hn hl=>
      refine⟨.pointer (some ⟨b,off+(toI k a).toNat*E.size e,none⟩),?_,KU S.todq hl hb hlt hq hy⟩
      simp[Instr.indexAt,asIntOf,bt hu,hr.1,hr.2,ft S hte,dS,Instr.sureAddr]
   ·cases h
  ·cases h
 ·cases h
theorem Tg (S:Sound P E) (hst:br E σ st w) {t:TypeId} {x v:az E.T} {u:Value} {ty:TypeId} {ts:Array TypeId} (hts:ts[0]? =some t) (h:(Nt E st t x).get=some v) (hx:a8 E σ st w (MB σ st) x u):
  ∃y,(Builtin.len_ ts ty #[u]).run P w= .ok y w∧a8 E σ st w (MB σ st) v y:=by
 unfold Nt at h
 split at h
 ·rename_i s ht
  cases h
  obtain⟨b,rfl,rfl,hb⟩:=tm hx
  have hu:P.underlying t=some .string:=(S.data t _ ht).desc
  refine⟨.int .i64 b.size,?_,?_⟩
  ·simp[Builtin.len_,hts,bt hu,goInt]
  ·have:=mkInt (E:=E) (σ:=σ) (st:=st) (w:=w) (M:=MB σ st) .i64 (b.data.toList.length:Int)
   rw[Array.length_toList]at this⊢
   exact this
 ·rename_i e e' xs ht
  cases h
  obtain⟨te,hu,hte⟩:=(S.data t _ ht).desc
  obtain⟨ad,cap,cs,rfl,hl,hm,_,_⟩:=BK hx
  exact⟨.int .i64 xs.length,by simp[Builtin.len_,hts,bt hu,goInt],mkInt .i64 (xs.length:Int)⟩
 ·rename_i e ht
  cases h
  obtain⟨te,hu,hte⟩:=(S.data t _ ht).desc
  obtain⟨a,rfl⟩:=Jf hx
  exact⟨.int .i64 0,by simp[Builtin.len_,hts,bt hu,goInt],mkInt .i64 (0:Int)⟩
 ·rename_i e k ht
  split at h
  ·rename_i l e' xs ho
   cases h
   obtain⟨te,hu,hte⟩:=(S.data t _ ht).desc
   have:=vt hx;subst this
   have hob:=hst.obj k _ ho
   generalize σ k=s at hob hx
   cases hob with
   |arr l e xs _ hown=>
    rcases hown.2 with⟨⟨a,rfl⟩,rfl⟩|⟨g,cap,c,el,fr,cs,rfl,_⟩
    ·exact⟨.int .i64 0,by simp[Builtin.len_,hts,bt hu,goInt],mkInt .i64 (0:Int)⟩
    ·exact⟨.int .i64 xs.length,by simp[Builtin.len_,hts,bt hu,goInt],mkInt .i64 (xs.length:Int)⟩
  ·cases h
 ·cases h
end
open Go
noncomputable section
section
variable {P:Program} {E:Env} {w:World} {σ:Sg} {st:St E.T} {M:Nat→Prop}
theorem toData_ty {t:Ty} {x:I E.T t} {d:az E.T} {cs:List Value} {t':Ty} (h:VT E σ st w M t' d cs) (n:Nat) (hx:toData E st n t d=some x):VT E σ st w M t d cs:=by
 cases n with
 |zero=>cases hx
 |succ n=>
  cases h with
  |val t' y cs hc=>
   simp only[toData]at hx
   split at hx
   ·rename_i p _
    cases p with|up p=>
    subst p;exact .val _ y cs hc
   ·cases hx
  |bm e a=>
   cases t with
   |slice e'=>exact .bm e' a
   |_=>simp[toData]at hx
  |own k l e xs hk=>
   simp only[toData,hk]at hx
   split at hx
   ·rename_i p _
    cases p with|up p=>
    subst p;exact .own k l e xs hk
   ·cases hx
  |dD e v hv=>simp[toData]at hx
  |agg i fs cs hs=>
   cases t with
   |named j=>
    simp only[toData]at hx
    split at hx
    ·rename_i p _
     cases p with|up p=>
     subst p;exact .agg i fs cs hs
    ·cases hx
   |_=>simp[toData]at hx
theorem KJ (hst:br E σ st w) {k:Nat} {l:RM} {e:Ty} {xs:List (I E.T e)} (hk:aR st k=some (.arr l e xs)) (hM: ∀b,M b→MB σ st b) (hb: ∀b,k9 (σ k)=some b→ ¬M b):cF E w M (.slice e) xs [σ k]:=by
 have hob:=hst.obj k _ hk
 generalize hσ:σ k=s at hob hb
 cases hob with
 |arr l e xs _ hown=>
  rcases hown.2 with⟨⟨a,rfl⟩,rfl⟩|⟨g,cap,c,el,fr,cs,rfl,hcap,hh,hz,hfz,hl,hq,hord⟩
  ·exact .slice e [] a 0 [] (.nil e) (.inl rfl) (Nat.zero_le _) (Nat.le_refl _)
  ·refine .slice e xs (some ⟨g,0,none⟩) (cap+1) cs (bE.aM (Kept.weaken hM) hl) ?_ hown.1 hcap
   refine .inr ⟨g,0,rfl,hb g rfl,(Array.getElem?_eq_some_iff.1 hh).1,fun q v hv=> ?_⟩
   simp[World.cell?,hh,hq q v hv]
theorem toHLWith_ok' {f:(t:Ty)→az E.T→Option (I E.T t)} {M':Nat→Prop}:
  ∀{ts:List Ty} {fs:List (az E.T)} {cs:List Value},iB E σ st w M ts fs cs→(∀t d x cs,d∈fs→f t d=some x→VT E σ st w M t d cs→cF E w M' t x cs)→ ∀{r:HL E.T ts},toHLWith E f ts fs=some r→l7 E w M' ts r cs
 |_,_,_,.nil,_=>by
  intro _
  exact .nil
 |_,_,_,.cons t ts v vs c1 c2 hv hvs,hf=>by
  intro h
  simp only[toHLWith]at h
  split at h
  ·rename_i x hx
   split at h
   ·rename_i y hy
    cases h
    exact .cons t ts x y c1 c2 (hf t v x c1 (by simp) hx hv) (toHLWith_ok' hvs (fun t d x cs hd=>hf t d x cs (by simp[hd])) hy)
   ·cases h
  ·cases h
theorem Fx {d:az E.T}: ∀{fs:List (az E.T)},d∈fs→ ∀k∈refs d,k∈bh fs
 |v::r,h,k,hk=>by
  simp only[bh,List.mem_append]
  rcases List.mem_cons.1 h with rfl|h
  ·exact .inl hk
  ·exact .inr (Fx h k hk)
theorem toData_ok (ok:dq E) (hst:br E σ st w) {M:Nat→Prop} (hM: ∀b,M b→MB σ st b)
  : ∀(n:Nat) {t:Ty} {d:az E.T} {x:I E.T t} {cs:List Value},(∀k∈refs d,∀l e xs b,aR st k=some (.arr l e xs)→k9 (σ k)=some b→ ¬M b)→toData E st n t d=some x→VT E σ st w (MB σ st) t d cs→cF E w M t x cs
 |0,_,_,_,_,_,h,_=>by cases h
 |n+1,t,d,x,cs,hb,h,hv=>by
  cases hv with
  |val t y cs hc=>
   simp only[toData]at h
   split at h
   ·rename_i p _
    cases p with|up p=>
    cases h;exact cF.aM (Kept.weaken hM) hc
   ·cases h
  |bm e a=>
   simp only[toData,Option.some.injEq]at h
   subst h
   exact .slice e [] a 0 [] (.nil e) (.inl rfl) (Nat.zero_le _) (Nat.le_refl _)
  |own k l e xs hk=>
   simp only[toData,hk]at h
   split at h
   ·rename_i p _
    cases p with|up p=>
    cases h
    exact KJ hst hk hM (fun b=>hb k (by simp[refs]) l e xs b hk)
   ·cases h
  |dD e v hv=>simp[toData]at h
  |agg i fs cs hs=>
   simp only[toData]at h
   split at h
   ·split at h
    ·rename_i r hr
     cases h
     exact .named i _ cs (by rw[ok.pC];exact toHLWith_ok' hs (fun t d x cs hd=>toData_ok ok hst hM n (fun k hk=>hb k (by simp only[refs];exact Fx hd k hk))) hr)
    ·cases h
   ·cases h
theorem toData_look (ok:dq E) (hst:br E σ st w) (n:Nat) {t:Ty} {d:az E.T} {x:I E.T t} {cs:List Value} (h:toData E st n t d=some x) (hv:VT E σ st w (MB σ st) t d cs):cF E w (fun _=>False) t x cs:=
 toData_ok ok hst (fun b h=>h.elim) n (fun _ _ _ _ _ _ _ _ h=>h) h hv
theorem nu {t:Ty} {d:az E.T} {x:I E.T t} {n:Nat} {u:Value} (h:toData E st n t d=some x) (hv:a8 E σ st w M d u): ∃cs,VT E σ st w M t d cs∧u=toV t cs:=by
 cases n with
 |zero=>cases h
 |succ n=>
 cases hv with
 |data t' d cs hv=>
  have h2:=toData_ty hv (n+1) h
  refine⟨cs,h2,?_⟩
  cases h2 with
  |val t x cs h=>cases hv;rfl
  |bm e a=>cases hv;rfl
  |own k l e xs h=>cases hv;rfl
  |dD e v h=>cases hv;rfl
  |agg i fs cs h=>cases hv;rfl
 |undef v=>cases t<;>cases h
 |ptr o p b hb hl=>cases t<;>cases h
 |cQ=>cases t<;>cases h
 |eg t x a cs hc hm=>cases t<;>cases h
 |jo vs us hu=>cases t<;>cases h
 |fn f vs us hu=>cases t<;>cases h
 |ei=>cases t<;>cases h
 |fD t d v hu=>cases t<;>cases h
 |ct=>cases t<;>cases h
theorem mU (S:Sound P E) {t:TypeId} {ty:Ty} (h:E.tk t= .data ty) {xs:Array Value} {l c r:List Value} (hx:xs.toList=l++c++r) (hc:c.length=E.size ty) (w:World):
  (part t xs l.length).run P w= .ok (toV ty c) w:=by
 obtain⟨i,hi,hs,_⟩:=(S.data t ty h).info
 unfold part
 simp only[Sem.run_bind,HK S h,Result.andThen_ok]
 cases ha:dX ty with
 |true=>
  have he:xs.extract l.length (l.length+E.size ty)=c.toArray:=by
   apply Array.ext'
   rw[Array.toList_extract,hx]
   simp only[List.extract,List.append_assoc]
   rw[List.drop_append_of_le_length (Nat.le_refl _),List.drop_length,List.nil_append,Nat.add_sub_cancel_left,←hc,List.take_append_of_le_length (Nat.le_refl _),List.take_length]
  simp[rz hi,hs,he,toV,ha]
 |false=>
  obtain⟨v,rfl⟩: ∃v,c=[v]:=List.length_eq_one_iff.1 (by rw[hc];exact nq ha)
  have:xs[l.length]? =some v:=by
   rw[←Array.getElem?_toList,hx,List.append_assoc,List.getElem?_append_right (Nat.le_refl _)];simp
  simp[this,toV,ha]
theorem Ee (S:Sound P E) {n d:Nat} (ih: ∀(t:TypeId) (ty:Ty) (x y:I E.T ty) (cs cs':List Value),JH E n ty=true→E.tk t= .data ty→E.cmp t=true→cF E w M ty x cs→cF E w M ty y cs'→
   (Op.equalIn d t (toV ty cs) (toV ty cs')).run P w= .ok (Lv E ty x y) w) {xs ys:Array Value}:
  ∀(ts:List Ty) (r r':HL E.T ts) (fl:List Field) (l l' c c':List Value),xs.toList=l++c→ys.toList=l'++c'→l.length=l'.length→l7 E w M ts r c→l7 E w M ts r' c'→fl.length=ts.length→
   (∀(q:Nat) (f:Field),fl[q]? =some f→ ∃ty,aR ts q=some ty∧E.tk f.type= .data ty∧f.offset=l.length+((ts.take q).map E.size).sum∧E.cmp f.type=true∧f.name≠ "_" ∧JH E n ty=true)→
   (Op.eqFields d xs ys fl).run P w= .ok (No E ts r r') w
 |[],r,r',fl,l,l',c,c',_,_,_,_,_,hfl,_=>by
  obtain rfl:fl=[]:=List.eq_nil_of_length_eq_zero hfl
  simp[Op.eqFields,No]
 |t::ts,r,r',fl,l,l',c,c',hx,hy,hll,h1,h2,hfl,hf=>by
  cases fl with
  |nil=>cases hfl
  |cons f fl=>
   cases h1 with
   |cons t ts x r c1 c2 g1 g2=>
    cases h2 with
    |cons t ts y r' d1 d2 k1 k2=>
     obtain⟨ty,e1,e2,e3,e4,e5,e6⟩:=hf 0 f rfl
     simp only[dJ,cT,cU,Option.some.injEq]at e1
     subst e1
     simp only[List.take_zero,List.map_nil,List.sum_nil,Nat.add_zero]at e3
     have p1:=mU S e2 (xs:=xs) (l:=l) (c:=c1) (r:=c2) (by rw[hx];simp) (cF.len S.todq g1) w
     have p2:=mU S e2 (xs:=ys) (l:=l') (c:=d1) (r:=d2) (by rw[hy];simp) (cF.len S.todq k1) w
     have p3:=ih f.type t x y c1 d1 e6 e2 e4 g1 k1
     have p4:=Ee S ih ts r r' fl (l++c1) (l'++d1) c2 d2 (by rw[hx];simp) (by rw[hy];simp) (by simp[hll,cF.len S.todq g1,cF.len S.todq k1]) g2 k2 (by simpa using hfl)
      (fun q f hq=>by
       obtain⟨ty,a1,a2,a3,a4,a5,a6⟩:=hf (q+1) f (by simpa using hq)
       exact⟨ty,by simpa [dJ,cT,cU]using a1,a2,by rw[a3];simp[cF.len S.todq g1];omega,a4,a5,a6⟩)
     simp only[Op.eqFields,if_pos e5,Sem.run_bind,e3,p1,Result.andThen_ok]
     rw[hll,p2]
     simp only[Result.andThen_ok,p3,No]
     cases Lv E t x y with
     |true=>simp[p4]
     |false=>simp
theorem Gh (S:Sound P E) {d:Nat} {te:TypeId} {e:Ty} (hte:E.tk te= .data e) (ih: ∀(x y:I E.T e) (cs cs':List Value),cF E w M e x cs→cF E w M e y cs'→(Op.equalIn d te (toV e cs) (toV e cs')).run P w= .ok (Lv E e x y) w) {X Y:Array Value}:
  ∀(xs ys:List (I E.T e)) (k:Nat) (l l' c c':List Value),X.toList=l++c→Y.toList=l'++c'→l.length=k*E.size e→l'.length=k*E.size e→bE E w M e xs c→bE E w M e ys c'→xs.length=ys.length→
   (Op.eqItems d te (E.size e) X Y (List.range' k xs.length)).run P w= .ok (Lv.Vf (Lv E e) xs ys) w
 |[],ys,k,l,l',c,c',hx,hy,hl,hl',h1,h2,hn=>by
  cases ys with
  |nil=>simp[Op.eqItems,Lv.Vf]
  |cons y r=>simp at hn
 |x::xs,ys,k,l,l',c,c',hx,hy,hl,hl',h1,h2,hn=>by
  cases ys with
  |nil=>simp at hn
  |cons y ys=>
   cases h1 with
   |cons e x r c1 c2 g1 g2=>
    cases h2 with
    |cons e y r' d1 d2 k1 k2=>
     have p1:=mU S hte (xs:=X) (l:=l) (c:=c1) (r:=c2) (by rw[hx];simp) (cF.len S.todq g1) w
     have p2:=mU S hte (xs:=Y) (l:=l') (c:=d1) (r:=d2) (by rw[hy];simp) (cF.len S.todq k1) w
     have p3:=ih x y c1 d1 g1 k1
     have p4:=Gh S hte ih xs ys (k+1) (l++c1) (l'++d1) c2 d2 (by rw[hx];simp) (by rw[hy];simp) (by rw[List.length_append,hl,cF.len S.todq g1,Nat.succ_mul]) (by rw[List.length_append,hl',cF.len S.todq k1,Nat.succ_mul]) g2 k2 (by simpa using hn)
     rw[List.length_cons,List.range'_succ]
     rw[hl]at p1
     rw[hl']at p2
     simp only[Op.eqItems,Sem.run_bind,p1,p2,p3,Result.andThen_ok,Lv.Vf]
     cases Lv E e x y with
     |true=>simp[p4]
     |false=>simp
theorem AY (S:Sound P E): ∀(n d:Nat) (t:TypeId) (ty:Ty) (x y:I E.T ty) (cs cs':List Value),n≤d→JH E n ty=true→E.tk t= .data ty→E.cmp t=true→cF E w M ty x cs→cF E w M ty y cs'→
  (Op.equalIn d t (toV ty cs) (toV ty cs')).run P w= .ok (Lv E ty x y) w
 |0,d,t,ty,x,y,cs,cs',_,h,_,_,_,_=>by cases h
 |n+1,0,t,ty,x,y,cs,cs',hd,_,_,_,_,_=>by omega
 |n+1,d+1,t,ty,x,y,cs,cs',hd,he,ht,hc,h1,h2=>by
  have hdesc:=(S.data t ty ht).desc
  cases h1 with
  |bool a=>
   cases h2 with
   |bool b=>have hu:P.underlying t=some .bool:=hdesc;simp[toV,dX,Op.equalIn,bt hu,Lv]
  |int k a=>
   cases h2 with
   |int k b=>have hu:P.underlying t=some (.int k):=hdesc;simp[toV,dX,Op.equalIn,bt hu,Lv]
  |str a ha=>
   have hu:P.underlying t=some .string:=hdesc
   generalize hs:a.data.toList=s at*
   cases h2 with
   |str b hb=>
    subst hs
    simp only[toV,dX,Op.equalIn,Sem.run_bind,bt hu,Result.andThen_ok,List.headD_cons,Lv,Sem.run_pure]
    rw[beq_toListBytes,ByteArray.toList_eq,ByteArray.toList_eq]
  |slice e xs a cap cs hl hm hn hcap=>cases he
  |arr m e xs cs hn hl=>
   cases h2 with
   |arr m e ys cs' hn' hl'=>
    obtain⟨te,hu,hte⟩:=hdesc
    obtain⟨i,hi,hs,_⟩:=(S.data te e hte).info
    have hce:=(S.cmp t hc).2.2.2 m te hu
    have hsz:P.cellsOf te=E.size e:=by unfold Program.cellsOf;rw[hi];exact hs
    simp only[toV,dX]
    rw[Go.run_equalIn_array w d _ _ hu hi,hsz,Lv]
    have:=Gh S hte (fun x y cs cs' g1 g2=>AY S n d te e x y cs cs' (by omega) he hte hce g1 g2) (X:=cs.toArray) (Y:=cs'.toArray) _ _ 0 [] [] cs cs' (by simp) (by simp) (by simp) (by simp) hl hl' (by rw[hn,hn'])
    rw[List.range_eq_range',←hn]
    exact this
  |named i x cs hf=>
   cases h2 with
   |named i y cs' hf'=>
    obtain⟨fs,hu,hsz,hfs⟩:=hdesc
    have hp:=(S.cmp t hc).2.1
    have hq:=(S.cmp t hc).2.2.1 fs hu
    have hfo:P.fieldsOf t=fs:=by simp[Program.fieldsOf,hu]
    simp only[toV,dX]
    rw[run_equalIn_struct (P:=P) w d t _ _ (by rw[hfo];exact hu) hp,hfo,Lv,S.ee]
    simp only[JH,List.all_eq_true]at he
    refine Ee S (n:=n) (d:=d) (fun t ty x y cs cs' e1 e2 e3 e4 e5=>AY S n d t ty x y cs cs' (by omega) e1 e2 e3 e4 e5) (E.fields i) _ _ fs.toList [] [] cs cs' (by simp) (by simp) rfl hf hf' (by simpa using hsz) ?_
    intro q f hqf
    obtain⟨ty,a1,a2,a3,a4,a5⟩:=hfs q f (by simpa using hqf)
    refine⟨ty,a1,a2,by simpa [Env.qM]using a3,hq f (List.mem_of_getElem? hqf),a5,he ty ?_⟩
    rw[cX]at a1
    exact List.mem_of_getElem? a1
end
end
open Go
section
variable {P:Program} {E:Env} {w:World} {σ:Sg} {st:St E.T} {M:Nat→Prop}
theorem V7 (k:IntKind) (n:Int) (h:k= .u8→0≤n∧n<256):a8 E σ st w M (.val (.int k) (As k n)) (.int k n):=by
 have:=mkInt (E:=E) (σ:=σ) (st:=st) (w:=w) (M:=M) k (As k n)
 rwa [toI_ofI k n h]at this
theorem PH (op:BinOp) (t:TypeId) (x y:Operand) (k:IntKind) (a:Int) (u:Value):(eqGuard op t x y (.int k a) u).run P w= .ok () w:=by
 cases op<;>cases u<;>simp[eqGuard]
theorem PG (op:BinOp) (t:TypeId) (x y:Operand) (a:ByteArray) (u:Value):(eqGuard op t x y (.string a) u).run P w= .ok () w:=by
 cases op<;>cases u<;>simp[eqGuard]
theorem Ng (op:BinOp) (t:TypeId) (x y:Operand) (a:Bool) (u:Value):(eqGuard op t x y (.bool a) u).run P w= .ok () w:=by
 cases op<;>cases u<;>simp[eqGuard]
theorem F6 {α:Type} {c:Bool} {t:Tree α} {a:α} (h:(Tree.ite c .fail t).get=some a):c=false∧t.get=some a:=by
 cases c with
 |false=>exact⟨rfl,h⟩
 |true=>cases h
theorem Cr {op:BinOp} {k:IntKind} {a b r:Int} (t:TypeId) (h:It op k a b=some r):(binOp op t (.int k a) (.int k b)).run P w= .ok (.int k r) w∧ ∃m:Int,r=k.wrap m:=by
 cases op<;>simp only[It,Option.some.injEq]at h<;>first|(cases h;done)|(subst h;exact⟨by simp[binOp,Op.intBits],_,rfl⟩)
theorem Th {op:BinOp} {k:IntKind} {x y:J6 k} {v:az E.T} (t:TypeId) (hs:op≠ .shl∧op≠ .shr) (h:(ZJ E op k (toI k x) (toI k y)).get=some v):
  ∃r,(binOp op t (.int k (toI k x)) (.int k (toI k y))).run P w= .ok r w∧a8 E σ st w M v r:=by
 cases op with
 |add=>cases h;exact⟨_,by simp[binOp,Op.intArith],Rc k _⟩
 |sub=>cases h;exact⟨_,by simp[binOp,Op.intArith],Rc k _⟩
 |mul=>cases h;exact⟨_,by simp[binOp,Op.intArith],Rc k _⟩
 |quo=>
  obtain⟨hc,h⟩:=F6 h
  cases h
  have hy:toI k y≠0:=by simpa using hc
  exact⟨_,by simp[binOp,Op.intDiv,hy],Rc k _⟩
 |rem=>
  obtain⟨hc,h⟩:=F6 h
  cases h
  have hy:toI k y≠0:=by simpa using hc
  refine⟨_,by simp[binOp,Op.intDiv,hy],V7 k _ ?_⟩
  rintro rfl
  have hx:=toI_u8_range x
  refine⟨Int.tmod_nonneg _ hx.1,?_⟩
  have h1:=Int.natAbs_tmod (toI .u8 x) (toI .u8 y)
  have h2:=Nat.mod_le (toI .u8 x).natAbs (toI .u8 y).natAbs
  omega
 |eql=>cases h;exact⟨_,by simp[binOp,Op.intCmp],gy _⟩
 |neq=>cases h;exact⟨_,by simp[binOp,Op.intCmp],gy _⟩
 |lss=>cases h;exact⟨_,by simp[binOp,Op.intCmp],gy _⟩
 |leq=>cases h;exact⟨_,by simp[binOp,Op.intCmp],gy _⟩
 |gtr=>cases h;exact⟨_,by simp[binOp,Op.intCmp],gy _⟩
 |geq=>cases h;exact⟨_,by simp[binOp,Op.intCmp],gy _⟩
 |shl=>exact absurd rfl hs.1
 |shr=>exact absurd rfl hs.2
 |and=>obtain⟨r,h1,h2⟩:=Tree.aA h;rw[Tree.dE]at h1;cases h2;obtain⟨h3,m,rfl⟩:=Cr (P:=P) (w:=w) t h1;exact⟨_,h3,Rc k _⟩
 |or=>obtain⟨r,h1,h2⟩:=Tree.aA h;rw[Tree.dE]at h1;cases h2;obtain⟨h3,m,rfl⟩:=Cr (P:=P) (w:=w) t h1;exact⟨_,h3,Rc k _⟩
 |xor=>obtain⟨r,h1,h2⟩:=Tree.aA h;rw[Tree.dE]at h1;cases h2;obtain⟨h3,m,rfl⟩:=Cr (P:=P) (w:=w) t h1;exact⟨_,h3,Rc k _⟩
 |andNot=>obtain⟨r,h1,h2⟩:=Tree.aA h;rw[Tree.dE]at h1;cases h2;obtain⟨h3,m,rfl⟩:=Cr (P:=P) (w:=w) t h1;exact⟨_,h3,Rc k _⟩
theorem Ip {op:BinOp} {k k':IntKind} {x:J6 k} {b:Int} {v:az E.T} (t:TypeId) (h:(Np E op k (toI k x) b).get=some v):
  ∃r,(binOp op t (.int k (toI k x)) (.int k' b)).run P w= .ok r w∧a8 E σ st w M v r:=by
 obtain⟨hc,h⟩:=F6 h
 have hb: ¬b<0:=by simpa using hc
 cases op with
 |shl=>cases h;exact⟨_,by simp[binOp,Op.shift,hb],Rc k _⟩
 |shr=>
  cases h
  refine⟨_,by simp[binOp,Op.shift,hb],V7 k _ ?_⟩
  rintro rfl
  have hx:=toI_u8_range x
  have hp:(0:Int)<2^min b.toNat IntKind.u8.bits:=Int.pow_pos (by decide)
  rw[Int.fdiv_eq_ediv_of_nonneg _ (Int.le_of_lt hp)]
  refine⟨Int.ediv_nonneg hx.1 (Int.le_of_lt hp),?_⟩
  have:=Int.ediv_le_self (2^min b.toNat IntKind.u8.bits) hx.1
  omega
 |_=>cases h
theorem Ta {op:BinOp} {a b:ByteArray} {v:az E.T} (t:TypeId) (h:(ZI E op a.data.toList b.data.toList).get=some v):
  ∃r,(binOp op t (.string a) (.string b)).run P w= .ok r w∧a8 E σ st w M v r:=by
 cases op with
 |add=>
  obtain⟨hc,h⟩:=fM h
  cases h
  have hl:a.size+b.size≤dy:=by
   have:=of_decide_eq_true hc
   rwa [Array.length_toList,Array.length_toList]at this
  have hmax: ¬IntKind.i64.max<(a.size:Int)+b.size:=by
   have:IntKind.i64.max=9223372036854775807:=rfl
   rw[this]
   unfold dy at hl
   omega
  refine⟨.string (a++b),?_,?_⟩
  ·have hm:IntKind.i64.max=9223372036854775807:=rfl
   simp only[binOp,Op.stringOp]
   rw[if_neg (by rw[Int.natCast_add];omega)]
   rfl
  ·have h:=mkStr (E:=E) (σ:=σ) (st:=st) (w:=w) (M:=M) (a++b) (by simpa using hl)
   have e:(a++b).data.toList=a.data.toList++b.data.toList:=by simp
   rwa [e]at h
 |eql=>
  cases h
  refine⟨_,?_,gy _⟩
  simp only[binOp,Op.stringOp,Sem.run_pure]
  rw[ByteArray.toList_eq,ByteArray.toList_eq]
 |neq=>
  cases h
  refine⟨_,?_,gy _⟩
  simp only[binOp,Op.stringOp,Sem.run_pure]
  rw[ByteArray.toList_eq,ByteArray.toList_eq]
 |_=>cases h
theorem E1 (S:Sound P E) (hst:br E σ st w) {t:TypeId} {ty:Ty} (hag: ∀cs,toV ty cs= .agg cs.toArray) {x y v:az E.T} {u u':Value} {f:Bool→Bool} (ht:E.tk t= .data ty) (hc:E.cmp t=true) (he:JH E depth ty=true)
  (hx:a8 E σ st w (MB σ st) x u) (hy:a8 E σ st w (MB σ st) y u') (h:(LJ E st ty x y f).get=some v):
  ∃(xs ys:Array Value) (b:Bool),u= .agg xs∧u'= .agg ys∧(Op.equalIn 10000 t u u').run P w= .ok b w∧v= .val .bool (f b):=by
 obtain⟨a,h1,h⟩:=Tree.aA h
 obtain⟨b,h2,h⟩:=Tree.aA h
 cases h
 rw[Tree.dE]at h1 h2
 obtain⟨cs,hv1,rfl⟩:=nu h1 hx
 obtain⟨cs',hv2,rfl⟩:=nu h2 hy
 have c1:=toData_look S.todq hst depth h1 hv1
 have c2:=toData_look S.todq hst depth h2 hv2
 exact⟨_,_,_,hag cs,hag cs',AY S depth 10000 t ty a b cs cs' (by decide) he ht hc c1 c2,rfl⟩
theorem yt {t:TypeId} {x y:Value} {b:Bool} (h: ∀d,(Op.equalIn (d+1) t x y).run P w= .ok b w):(Op.equal t x y).run P w= .ok b w:=h 9999
theorem Ed (d:Nat) {t t':TypeId} {m:Array (String×TypeId)} {u:Value} (hu:P.underlying t=some (.interface m)):(Op.equalIn (d+1) t (.iface t' u) .nilIface).run P w= .ok false w:=by
 simp[Op.equalIn,bt hu]
theorem Gg (d:Nat) {t:TypeId} {m:Array (String×TypeId)} (hu:P.underlying t=some (.interface m)):(Op.equalIn (d+1) t .nilIface .nilIface).run P w= .ok true w:=by
 simp[Op.equalIn,bt hu]
theorem L8 {t t':TypeId} {u:Value} {b:Bool} (h:(Op.equal t (.iface t' u) .nilIface).run P w= .ok b w):(binOp .eql t (.iface t' u) .nilIface).run P w= .ok (.bool b) w:=by
 simp only[binOp,Sem.run_bind,h,Result.andThen_ok,Sem.run_pure]
theorem L6 {t t':TypeId} {u:Value} {b:Bool} (h:(Op.equal t (.iface t' u) .nilIface).run P w= .ok b w):(binOp .neq t (.iface t' u) .nilIface).run P w= .ok (.bool (!b)) w:=by
 simp only[binOp,Sem.run_bind,h,Result.andThen_ok,Sem.run_pure]
theorem GL {t:TypeId} {b:Bool} (h:(Op.equal t .nilIface .nilIface).run P w= .ok b w):(binOp .eql t .nilIface .nilIface).run P w= .ok (.bool b) w:=by
 simp only[binOp,Sem.run_bind,h,Result.andThen_ok,Sem.run_pure]
theorem GK {t:TypeId} {b:Bool} (h:(Op.equal t .nilIface .nilIface).run P w= .ok b w):(binOp .neq t .nilIface .nilIface).run P w= .ok (.bool (!b)) w:=by
 simp only[binOp,Sem.run_bind,h,Result.andThen_ok,Sem.run_pure]
theorem JV {t:TypeId} {x y b:Bool} (h:(Op.equal t (.bool x) (.bool y)).run P w= .ok b w):(binOp .eql t (.bool x) (.bool y)).run P w= .ok (.bool b) w:=by
 simp only[binOp,Sem.run_bind,h,Result.andThen_ok,Sem.run_pure]
theorem JU {t:TypeId} {x y b:Bool} (h:(Op.equal t (.bool x) (.bool y)).run P w= .ok b w):(binOp .neq t (.bool x) (.bool y)).run P w= .ok (.bool (!b)) w:=by
 simp only[binOp,Sem.run_bind,h,Result.andThen_ok,Sem.run_pure]
theorem Tk (S:Sound P E) (hst:br E σ st w) {op:BinOp} {t:TypeId} {x y v:az E.T} {u u':Value} (xo yo:Operand) (h:(NC E st op t x y).get=some v) (hx:a8 E σ st w (MB σ st) x u) (hy:a8 E σ st w (MB σ st) y u'):
  ∃r,((do eqGuard op t xo yo u u';binOp op t u u'):Sem Value).run P w= .ok r w∧a8 E σ st w (MB σ st) v r:=by
 unfold NC at h
 split at h
 ·rename_i k a k' b
  have:=jg hx;subst this
  have:=jg hy;subst this
  simp only[Sem.run_bind,PH,Result.andThen_ok]
  split at h
  ·exact Ip t h
  ·exact Ip t h
  ·rename_i n1 n2
   split at h
   ·rename_i p _
    have:=p.down;subst this
    exact Th t ⟨n1,n2⟩ h
   ·cases h
 ·rename_i a b
  obtain⟨a,rfl,rfl,_⟩:=tm hx
  obtain⟨b,rfl,rfl,_⟩:=tm hy
  simp only[Sem.run_bind,PG,Result.andThen_ok]
  exact Ta t h
 ·rename_i a b
  have:=zn hx;subst this
  have:=zn hy;subst this
  simp only[Sem.run_bind,Ng,Result.andThen_ok]
  obtain⟨ht,h⟩:=Tree.aO h
  have hu:P.underlying t=some .bool:=(S.data t _ (kY ht)).desc
  split at h<;>cases h
  ·exact⟨.bool (a==b),JV (yt fun d=>run_equalIn_bool' (P:=P) w d t a b hu),gy _⟩
  ·exact⟨.bool (!(a==b)),JU (yt fun d=>run_equalIn_bool' (P:=P) w d t a b hu),gy _⟩
 ·rename_i t' d
  obtain⟨ht,h⟩:=Tree.aO h
  have hi:E.tk t= .iface:=by
   unfold isIface at ht
   split at ht
   ·rename_i h;exact h
   ·cases ht
  obtain⟨⟨m,hu⟩,_⟩:=S.iface t hi
  cases hx with
  |data t d cs hv=>cases hv
  |fD t' d u hv=>
   cases hy with
   |data t d cs hv=>cases hv
   |ct=>
    have hg:(eqGuard op t xo yo (.iface t' u) .nilIface).run P w= .ok () w:=by cases op<;>simp[eqGuard]
    simp only[Sem.run_bind,hg,Result.andThen_ok]
    split at h<;>cases h
    ·exact⟨.bool false,L8 (yt fun d=>Ed d hu),gy _⟩
    ·exact⟨.bool true,L6 (yt fun d=>Ed d hu),gy _⟩
 ·split at h
  ·rename_i i ht
   obtain⟨hc,h⟩:=Tree.aO h
   rw[Bool.and_eq_true]at hc
   split at h
   ·obtain⟨xs,ys,b,rfl,rfl,hr,rfl⟩:=E1 S hst (fun _=>rfl) ht hc.1 hc.2 hx hy h
    refine⟨.bool b,?_,gy _⟩
    simp only[Sem.run_bind,run_eqGuard_agg w .eql t xo yo xs ys (S.cmp t hc.1).1,Result.andThen_ok,run_eql_struct,hr]
   ·obtain⟨xs,ys,b,rfl,rfl,hr,rfl⟩:=E1 S hst (fun _=>rfl) ht hc.1 hc.2 hx hy h
    refine⟨.bool (!b),?_,gy _⟩
    simp only[Sem.run_bind,run_eqGuard_agg w .neq t xo yo xs ys (S.cmp t hc.1).1,Result.andThen_ok,run_neq_struct,hr]
   ·cases h
  ·rename_i n e ht
   obtain⟨hc,h⟩:=Tree.aO h
   rw[Bool.and_eq_true]at hc
   split at h
   ·obtain⟨xs,ys,b,rfl,rfl,hr,rfl⟩:=E1 S hst (fun _=>rfl) ht hc.1 hc.2 hx hy h
    refine⟨.bool b,?_,gy _⟩
    simp only[Sem.run_bind,run_eqGuard_agg w .eql t xo yo xs ys (S.cmp t hc.1).1,Result.andThen_ok,run_eql_struct,hr]
   ·obtain⟨xs,ys,b,rfl,rfl,hr,rfl⟩:=E1 S hst (fun _=>rfl) ht hc.1 hc.2 hx hy h
    refine⟨.bool (!b),?_,gy _⟩
    simp only[Sem.run_bind,run_eqGuard_agg w .neq t xo yo xs ys (S.cmp t hc.1).1,Result.andThen_ok,run_neq_struct,hr]
   ·cases h
  ·cases h
theorem Td (S:Sound P E) {op:BinOp} {t:TypeId} {xo yo:Operand} {x y:az E.T} {b:Bool} {u u':Value} (hi:isIface E t=true) (h:Te E op xo yo x y=some b) (hx:a8 E σ st w M x u) (hy:a8 E σ st w M y u'):
  ((do eqGuard op t xo yo u u';binOp op t u u'):Sem Value).run P w= .ok (.bool b) w:=by
 have ht:E.tk t= .iface:=by
  unfold isIface at hi
  split at hi
  ·rename_i h;exact h
  ·cases hi
 obtain⟨⟨m,hu⟩,_⟩:=S.iface t ht
 unfold Te at h
 split at h
 ·have hux:u= .nilIface:=by
   cases hx with
   |data t d cs hv=>cases hv
   |ct=>rfl
  have huy:u'= .nilIface:=by
   cases hy with
   |data t d cs hv=>cases hv
   |ct=>rfl
  subst hux;subst huy
  have he:(Op.equal t .nilIface .nilIface).run P w= .ok true w:=yt fun d=>Gg d hu
  have hc:(∃c,xo= .const c)∨(∃c,yo= .const c):=by
   split at h
   ·exact .inl ⟨_,rfl⟩
   ·exact .inr ⟨_,rfl⟩
   ·cases h
  have hg:(eqGuard op t xo yo .nilIface .nilIface).run P w= .ok () w:=by
   rcases hc with⟨c,rfl⟩|⟨c,rfl⟩<;>cases op<;>simp[eqGuard]
  have hop:(op= .eql∧b=true)∨(op= .neq∧b=false):=by
   split at h
   ·split at h<;>cases h<;>simp
   ·split at h<;>cases h<;>simp
   ·cases h
  simp only[Sem.run_bind,hg,Result.andThen_ok]
  rcases hop with⟨rfl,rfl⟩|⟨rfl,rfl⟩
  ·exact GL he
  ·exact GK he
 ·cases h
theorem Vh {op:UnOp} {x v:az E.T} {u:Value} (h:(dun E op x).get=some v) (hx:a8 E σ st w M x u): ∃r,(Op.unary op u).run P w= .ok r w∧a8 E σ st w M v r:=by
 unfold dun at h
 split at h
 ·cases h
  have:=zn hx;subst this
  exact⟨_,by simp[Op.unary],gy _⟩
 ·cases h
  have:=jg hx;subst this
  exact⟨_,by simp[Op.unary,Op.intArith],Rc _ _⟩
 ·cases h
theorem PQ (S:Sound P E) {t:TypeId} {x i v:az E.T} {u ui:Value} (h:(JL E t x i).get=some v) (hx:a8 E σ st w M x u) (hi:a8 E σ st w M i ui):
  ∃y,(Instr.index t u ui).run P w= .ok y w∧a8 E σ st w M v y:=by
 unfold JL at h
 split at h
 ·rename_i k a
  have:=jg hi;subst this
  split at h
  ·rename_i s
   obtain⟨ht,h1⟩:=Tree.aO h
   have hu:P.underlying t=some .string:=(S.data t _ (kY ht)).desc
   obtain⟨hr,h2⟩:=fM h1
   rw[mZ]at hr
   simp only[Tree.get]at h2
   obtain⟨y,hy,h3⟩:=Option.bind_eq_some_iff.1 h2
   cases h3
   obtain⟨b,rfl,rfl,_⟩:=tm hx
   have hb:b[(toI k a).toNat]? =some y:=by
    rw[Array.getElem?_toList]at hy
    obtain⟨h4,h5⟩:=Array.getElem?_eq_some_iff.1 hy
    have h6:(toI k a).toNat<b.size:=h4
    rw[getElem?_pos b _ h6]
    exact congrArg some h5
   refine⟨.int .u8 y.toNat,?_,mkInt .u8 y⟩
   simp[Instr.index,asIntOf,bt hu,hr.1,hb]
  ·rename_i n e xs
   split at h
   ·rename_i n' e' ht
    obtain⟨hte,h1⟩:=Tree.aO h
    have hee:=dP hte
    obtain⟨hr,h2⟩:=fM h1
    rw[mZ]at hr
    simp only[Tree.get]at h2
    obtain⟨y,hy,h3⟩:=Option.bind_eq_some_iff.1 h2
    cases h3
    clear h h1 h2
    cases hee
    obtain⟨te,hu,hte'⟩:=(S.data t _ ht).desc
    obtain⟨cs,rfl,hn,hl⟩:=Vn hx
    obtain⟨c,l,r,h4,rfl,h6,_⟩:=bE.split S.todq hl _ y hy
    refine⟨toV e c,?_,.data e _ c (.val e y c h4)⟩
    have hp:=mU S hte' (xs:=(l++c++r).toArray) (l:=l) (c:=c) (r:=r) (by simp) (cF.len S.todq h4) w
    rw[h6]at hp
    simp only[Instr.index,asIntOf,Sem.run_bind,Sem.run_pure,bt hu,Result.andThen_ok]
    rw[if_pos hr]
    simp only[Sem.run_bind,ft S hte',Result.andThen_ok,hp]
   ·cases h
  ·cases h
 ·cases h
theorem RG {mx:Bool} {x y v:az E.T} {u u':Value} (h:(RH E mx x y).get=some v) (hx:a8 E σ st w M x u) (hy:a8 E σ st w M y u'):
  ∃r,(match mx with|true=>Builtin.max2 u u'|false=>Builtin.min2 u u').run P w= .ok r w∧a8 E σ st w M v r:=by
 unfold RH at h
 split at h
 ·rename_i k a k' b
  have:=jg hx;subst this
  have:=jg hy;subst this
  split at h
  ·rename_i p _
   have:=p.down;subst this
   cases h
   cases mx with
   |true=>
    refine⟨_,by simp[Builtin.max2],V7 k _ ?_⟩
    rintro rfl
    have:=toI_u8_range a
    have:=toI_u8_range b
    split<;>omega
   |false=>
    refine⟨_,by simp[Builtin.min2],V7 k _ ?_⟩
    rintro rfl
    have:=toI_u8_range a
    have:=toI_u8_range b
    split<;>omega
  ·cases h
 ·cases h
end
open Go
noncomputable section
section
variable {P:Program} {E:Env} {w:World} {σ:Sg} {st:St E.T} {M:Nat→Prop}
def qD (P:Program) (E:Env) (σ:Sg) (st:St E.T) (w:World) (s:Sem Value) (v:az E.T) (st':St E.T):Prop:=
 ∃y w' σ',s.run P w= .ok y w'∧Mv σ σ' st st' w w'∧a8 E σ' st' w' (MB σ' st') v y
theorem qD.still (hst:br E σ st w) {s:Sem Value} {v:az E.T} (h: ∃y,s.run P w= .ok y w∧a8 E σ st w (MB σ st) v y):qD P E σ st w s v st:=by
 obtain⟨y,h1,h2⟩:=h
 exact⟨y,w,σ,h1,Mv.refl hst,h2⟩
theorem Jy (S:Sound P E) {t:TypeId} (h:Df E t=true): ∃d,P.underlying t=some d:=by
 unfold Df at h
 split at h
 ·rename_i ty ht
  have hd:=(S.data t ty ht).desc
  cases ty with
  |bool=>exact⟨_,hd⟩
  |int k=>exact⟨_,hd⟩
  |str=>exact⟨_,hd⟩
  |slice e=>obtain⟨te,hu,_⟩:=hd;exact⟨_,hu⟩
  |arr n e=>obtain⟨te,hu,_⟩:=hd;exact⟨_,hu⟩
  |named i=>obtain⟨te,hu,_⟩:=hd;exact⟨_,hu⟩
 ·cases h
theorem bE.bytes: ∀{xs:List UInt8} {cs:List Value},bE E w M (.int .u8) xs cs→cs=xs.map fun(b:UInt8)=>Value.int .u8 b.toNat
 |[],_,h=>by
  cases h with
  |nil e=>rfl
 |x::r,_,h=>by
  cases h with
  |cons e y r' c1 c2 h1 h2=>
   cases h1 with
   |int k x=>
    have:=bE.bytes (xs:=r) h2
    rw[this];rfl
theorem EF (S:Sound P E) {src dst:TypeId} (hs:E.tk src= .data (.slice (.int .u8))) (hd:E.tk dst= .data .str) (a:Option Addr) (cap:Nat) (s:List UInt8) (cs:List Value) (hl:bE E w M (.int .u8) s cs) (hm:s=[]∨Mem w M a cs):
  (convert src dst (.slice a s.length cap)).run P w= .ok (.string ⟨s.toArray⟩) w:=by
 obtain⟨te,hu,hte⟩:=(S.data _ _ hs).desc
 have he:P.underlying te=some (.int .u8):=(S.data _ _ hte).desc
 have hd':P.underlying dst=some .string:=(S.data _ _ hd).desc
 have hcs:=bE.bytes hl
 subst hcs
 cases s with
 |nil=>
  rw[List.length_nil,run_convert_bytes_string w src dst te a 0 cap hu he hd']
  cases a with
  |none=>simp[Conv.bytesToString];rfl
  |some a=>simp[Conv.bytesToString,loadCells,loadCellsFrom];rfl
 |cons x r=>
  obtain⟨b,off,rfl,_,_,hq⟩:=hm.resolve_left (by simp)
  have h:=run_convert_bytes_arg (P:=P) w src te hu he b off (x::r).length cap ((x::r).map fun(b:UInt8)=>(b.toNat:Int)) (by simp) (by
   intro i hi
   refine hq i _ ?_
   rw[List.getElem?_map,List.getElem?_eq_getElem hi]
   rw[List.getD_eq_getElem?_getD,List.getElem?_map,List.getElem?_eq_getElem hi]
   rfl) dst hd'
  rw[h]
  have:strOfNums ((x::r).map fun(b:UInt8)=>(b.toNat:Int))=⟨(x::r).toArray⟩:=by
   simp[strOfNums,List.map_map,Function.comp_def]
  rw[this]
theorem BZ {v:Value} {l:RM} {e:Ty} {xs:List (I E.T e)}:a8 E (dN σ st.length v) (st++[.arr l e xs]) w M (.own st.length) v:=by
 have h:=a8.data _ _ _ (VT.own (E:=E) (σ:=dN σ st.length v) (st:=st++[.arr l e xs]) (w:=w) (M:=M) st.length l e xs (by rw[ew,if_pos rfl]))
 have h2:toV (.slice e) [dN σ st.length v st.length]=v:=by simp[toV,dX,dN]
 rwa [h2]at h
theorem bE.xQ: ∀(l:List UInt8),bE E w M (.int .u8) l (l.map fun(x:UInt8)=>Value.int .u8 x.toNat)
 |[]=> .nil _
 |x::r=> .cons (.int .u8) x r [_] _ (.int .u8 x) (bE.xQ r)
theorem uF (w:World) (cV old:Nat) (e:TypeId):cV≤grownCap w cV old e:=by
 unfold grownCap Question.cut
 exact Nat.le_add_right _ _
theorem Ey (w:World) (src te:TypeId) (hu:P.underlying src=some (.slice te)) (he:P.underlying te=some (.int .u8)) (g n cap:Nat) {c:Array Value} {el:TypeId} {fr:Nat×Nat} (hh:w.heap[g]? =some (.cells c el fr)):
  (convert src src (.slice (some ⟨g,0,none⟩) n cap)).run P w= .ok (.slice (some ⟨g,0,none⟩) n cap) (w.freeze ⟨g,c.size,none⟩ 1):=by
 have hs:w.shape? g=some (el,c.size):=by unfold World.shape?;rw[hh]
 simp[convert,bt hu,bt he,markStringish,shape,Sem.run,hs]
theorem LI (S:Sound P E) (hst:br E σ st w) {src dst:TypeId} {x v:az E.T} {st':St E.T} {u:Value} (h:(yD E st src dst x).get=some (v,st')) (hx:a8 E σ st w (MB σ st) x u):
  qD P E σ st w (convert src dst u) v st':=by
 unfold yD at h
 obtain⟨hsd,h1⟩:=Tree.aO h
 clear h
 obtain⟨sd,hsu⟩:=Jy S hsd
 split at h1
 ·rename_i k k' a ht
  cases h1
  have:=jg hx;subst this
  have hu:P.underlying dst=some (.int k):=(S.data _ _ ht).desc
  exact qD.still hst ⟨_,by simp[convert,bt hsu,bt hu,Conv.intToInt],Rc k _⟩
 ·rename_i s ht
  cases h1
  have hu:P.underlying dst=some .string:=(S.data _ _ ht).desc
  obtain⟨b,rfl,rfl,hb⟩:=tm hx
  exact qD.still hst ⟨.string b,by simp[convert,bt hsu,bt hu],mkStr b hb⟩
 ·rename_i s ht
  obtain⟨hst',h2⟩:=Tree.aO h1
  clear h1
  cases h2
  have hsu:P.underlying src=some .string:=(S.data _ _ (kY hst')).desc
  obtain⟨te,hu,hte⟩:=(S.data _ _ ht).desc
  have he:P.underlying te=some (.int .u8):=(S.data _ _ hte).desc
  obtain⟨b,rfl,rfl,hb⟩:=tm hx
  have hrun:=run_bytes_of_string (P:=P) w src dst te b hsu hu he
  have hn:grownCap w b.size 0 te=b.size+(grownCap w b.size 0 te-b.size):=by have:=uF w b.size 0 te;omega
  generalize hg:grownCap w b.size 0 te=cap at hrun hn
  have hsz:(bytesRow b cap).size=cap:=by simp[bytesRow];omega
  have m1:=Mv.drawn hst (w.drawn+1)
  have m2:=Mv.push m1.rep (.cells (bytesRow b cap) te ((bytesRow b cap).size,(bytesRow b cap).size+1)) (.slice (some ⟨w.heap.size,0,none⟩) b.size cap) (.arr .live (.int .u8) b.data.toList) (fun g hg=>j5 hg) (by
   have hlen:b.data.toList.length=b.size:=Array.length_toList
   refine .arr .live _ _ _ (gz.mk' E _ _ (cs:=b.data.toList.map fun(x:UInt8)=>Value.int .u8 x.toNat) (by rw[hlen];exact hb) (by rw[hlen];omega) (c:=bytesRow b cap) (el:=te) (fr:=((bytesRow b cap).size,(bytesRow b cap).size+1)) (by simp) (by simp[Env.size,hsz]) (fun q hq=> ?_) ?_ ?_ hlen.symm)
   ·have hq:=hq rfl
    simp only[Env.size,Nat.mul_one]at hq
    simp[World.frozen?,hsz];omega
   ·exact bE.xQ _
   ·intro q u hq
    have hql:q<b.data.toList.length:=by simpa using (List.getElem?_eq_some_iff.1 hq).1
    have hql':q<b.data.size:=by simpa using hql
    rw[bytesRow,Array.getElem?_append_left (by simpa using hql'),Array.getElem?_map]
    rw[List.getElem?_map]at hq
    simpa using hq)
  exact⟨_,_,_,hrun,m1.trans m2,BZ⟩
 ·rename_i k ht
  obtain⟨hsd2,h2⟩:=Tree.aO h1
  clear h1
  obtain rfl:=Nat.eq_of_beq_eq_true hsd2
  split at h2
  ·rename_i xs hk
   obtain⟨hne,h3⟩:=Tree.aO h2
   cases h3
   obtain⟨te,hu,hte⟩:=(S.data _ _ ht).desc
   have he:P.underlying te=some (.int .u8):=(S.data _ _ hte).desc
   have hu0:=vt hx
   subst hu0
   have hob:=hst.obj k _ hk
   generalize hσ:σ k=s at*
   cases hob with
   |arr _ _ _ _ hown=>
   rcases hown.2 with⟨_,h0⟩|⟨g,cap,c,el,fr,cs,rfl,hcap,hh,hcz,hfz,hlo,hq,ho⟩
   ·rw[h0]at hne;cases hne
   ·obtain⟨lo,hi⟩:=fr
    have hle:lo≤hi:=ho rfl
    have hrun:=Ey (P:=P) w src te hu he g xs.length (cap+1) hh
    have hglt:=(Array.getElem?_eq_some_iff.1 hh).1
    simp only[Env.size,Nat.mul_one]at hcz
    have hnew:(w.freeze ⟨g,c.size,none⟩ 1).heap[g]? =some (.cells c el (if lo==hi then(c.size,c.size+1)else(min lo c.size,max hi (c.size+1)))):=by
     simp[World.freeze,Array.getElem?_modify,hh]
    have hoth: ∀b,b≠g→(w.freeze ⟨g,c.size,none⟩ 1).heap[b]? =w.heap[b]? :=fun b hb=>by
     simp[World.freeze,Array.getElem?_modify,Ne.symm hb]
    have hcs:=bE.bytes hlo
    have m:=Mv.dk hst hk (qQ.refl _) id id (w.freeze ⟨g,c.size,none⟩ 1) (by simp[World.freeze]) (by simp[World.freeze]) (by simp[World.freeze]) (by simp[World.freeze]) (fun b hb=>hoth b (fun h=>hb rfl (by rw[hσ,h];rfl))) (by
     rw[hσ]
     refine .arr .live _ _ _ (gz.mk' E _ _ (cs:=cs) hown.1 hcap hnew (by simpa [Env.size]using hcz) (fun q hq'=> ?_) (by rw[hcs];exact bE.xQ _) hq rfl (ho:=fun _=>by
      by_cases hlh:lo=hi
      ·subst hlh;simp
      ·have:(lo==hi)=false:=by simpa using hlh
       rw[this]
       simp only[Bool.false_eq_true,if_false]
       omega))
     have hq':=hq' rfl
     simp only[Env.size,Nat.mul_one]at hq'
     have h1:w.frozen? ⟨g,q,none⟩=false:=hfz q (fun _=>by simpa [Env.size]using hq')
     have h2:lo<hi→cap+1≤lo:=by
      intro hlt
      rcases Nat.lt_or_ge lo (cap+1)with h|h
      ·have h3:=hfz lo (fun _=>by simpa [Env.size]using h)
       simp[World.frozen?,hh,hlt]at h3
      ·exact h
     simp only[World.frozen?,hnew]
     simp only[World.frozen?,hh]at h1
     by_cases hlh:lo=hi
     ·subst hlh
      simp;omega
     ·have:(lo==hi)=false:=by simpa using hlh
      rw[this]
      simp only[Bool.false_eq_true,if_false]
      simp only[Bool.and_eq_false_iff,decide_eq_false_iff_not]at h1⊢
      rcases Nat.lt_or_ge lo hi with h|h
      ·have:=h2 h
       left;omega
      ·omega)
    refine⟨_,_,_,hrun,m,?_⟩
    have hv:=a8.data _ _ _ (VT.own (E:=E) (σ:=σ) (st:=dk st k (.arr .live (.int .u8) xs)) (w:=w.freeze ⟨g,c.size,none⟩ 1) (M:=MB σ (dk st k (.arr .live (.int .u8) xs))) k .live (.int .u8) xs (by rw[bF,if_pos ⟨rfl,bT hk⟩]))
    rw[hσ]at hv
    exact hv
  ·cases h2
 ·rename_i n1 n2
  split at h1
  ·rename_i hts
   obtain⟨s,hs,h2⟩:=Tree.aA h1
   cases h2
   rw[Tree.dE]at hs
   obtain⟨cs,hv,rfl⟩:=nu hs hx
   have hc:=toData_look S.todq hst depth hs hv
   cases hc with
   |slice e xs a cap cs hl hm hn hcap=>
    refine qD.still hst ⟨_,EF S hts (by assumption) a cap s cs hl hm,U7 s hn⟩
  ·cases h1
 ·cases h1
end
end
open Go
section
variable {P:Program} {E:Env} {w:World} {σ:Sg} {st:St E.T} {M:Nat→Prop}
theorem bE.replicate {e:Ty} {z:I E.T e} {c:List Value} (h:cF E w M e z c): ∀n,bE E w M e (List.replicate n z) (List.replicate n c).flatten
 |0=> .nil e
 |n+1=>by
  have:=bE.cons e z _ c _ h (bE.replicate h n)
  simpa [List.replicate_succ]using this
theorem Ql {f:(t:Ty)→Option (I E.T t)} {g:Ty→List Value} (hf: ∀t z,f t=some z→cF E w M t z (g t)): ∀{ts:List Ty} {r:HL E.T ts},fo.zHL E f ts=some r→l7 E w M ts r (ts.flatMap g)
 |[],r,h=> .nil
 |t::ts,r,h=>by
  simp only[fo.zHL]at h
  split at h
  ·rename_i x hx
   split at h
   ·rename_i y hy
    cases h
    exact .cons t ts x y _ _ (hf t x hx) (Ql hf hy)
   ·cases h
  ·cases h
theorem rb (ok:dq E): ∀(d:Nat) (t:Ty) (z:I E.T t),fo E d t=some z→cF E w M t z (dY E d t)
 |0,_,_,h=>by cases h
 |d+1,t,z,h=>by
  cases t with
  |bool=>cases h;exact .bool false
  |int k=>
   cases h
   have:=cF.int (E:=E) (w:=w) (M:=M) k (As k 0)
   rw[toI_ofI k 0 (fun _=>⟨by decide,by decide⟩)]at this
   exact this
  |str=>cases h;exact .str ⟨#[]⟩ (Nat.zero_le _)
  |slice e=>cases h;exact .slice e [] none 0 [] (.nil e) (.inl rfl) (Nat.zero_le _) (Nat.le_refl _)
  |arr n e=>
   simp only[fo]at h
   split at h
   ·rename_i y hy
    cases h
    exact .arr n e _ _ (by simp) (bE.replicate (rb ok d e y hy) n)
   ·cases h
  |named i=>
   simp only[fo]at h
   split at h
   ·rename_i r hr
    cases h
    exact .named i _ _ (by rw[ok.pC];exact Ql (fun t z=>rb ok d t z) hr)
   ·cases h
theorem Kc {f:(t:Ty)→Option (I E.T t)}: ∀(ts:List Ty),(∀t∈ts,∃z,f t=some z)→ ∃r,fo.zHL E f ts=some r
 |[],_=>⟨(),rfl⟩
 |t::ts,h=>by
  obtain⟨z,hz⟩:=h t (by simp)
  obtain⟨r,hr⟩:=Kc ts (fun t ht=>h t (by simp[ht]))
  exact⟨(z,r),by simp[fo.zHL,hz,hr]⟩
theorem uO: ∀(d:Nat) (t:Ty),Mp E d t=true→ ∃z,fo E d t=some z
 |0,_,h=>by cases h
 |d+1,t,h=>by
  cases t with
  |bool=>exact⟨_,rfl⟩
  |int k=>exact⟨_,rfl⟩
  |str=>exact⟨_,rfl⟩
  |slice e=>exact⟨_,rfl⟩
  |arr n e=>obtain⟨z,hz⟩:=uO d e h;exact⟨List.replicate n z,by simp only[fo,hz]⟩
  |named i=>
   simp only[Mp,List.all_eq_true]at h
   obtain⟨r,hr⟩:=Kc (f:=fo E d) (E.fields i) (fun t ht=>uO d t (h t ht))
   exact⟨E.Dg i r,by simp only[fo,hr]⟩
theorem iB.map {f:Ty→az E.T} {g:Ty→List Value}: ∀(ts:List Ty),(∀t∈ts,VT E σ st w M t (f t) (g t))→iB E σ st w M ts (ts.map f) (ts.flatMap g)
 |[],_=> .nil
 |t::ts,h=> .cons t ts _ _ _ _ (h t (by simp)) (iB.map ts (fun t ht=>h t (by simp[ht])))
theorem nb (ok:dq E): ∀(d:Nat) (t:Ty),Mp E d t=true→VT E σ st w M t (iP E d t) (dY E d t)
 |0,_,h=>by cases h
 |d+1,t,h=>by
  cases t with
  |bool=>exact .val _ _ _ (.bool false)
  |int k=>exact .val _ _ _ (rb ok (d+1) (.int k) _ rfl)
  |str=>exact .val _ _ _ (.str ⟨#[]⟩ (Nat.zero_le _))
  |slice e=>exact .bm e none
  |arr n e=>
   obtain⟨z,hz⟩:=uO d e h
   simp only[iP,hz]
   exact .val _ _ _ (rb ok (d+1) (.arr n e) _ (by simp only[fo,hz]))
  |named i=>
   simp only[Mp,List.all_eq_true]at h
   exact .agg i _ _ (iB.map _ (fun t ht=>nb ok d t (h t ht)))
theorem RB (l:List Value): ∀(k off:Nat) (c:Array Value),(l.zipIdx k).foldl (fun cs x=>cs.setIfInBounds (off+x.2) x.1) c=qq c (off+k) l:=by
 induction l with
 |nil=>intro k off c;rfl
 |cons v r ih=>
  intro k off c
  rw[List.zipIdx_cons,List.foldl_cons,ih (k+1) off]
  rfl
theorem Dl (vs:Array Value) (off:Nat) (c:Array Value):vs.zipIdx.foldl (fun cs (x:Value×Nat)=>cs.setIfInBounds (off+x.2) x.1) c=qq c off vs.toList:=by
 rw[←Array.foldl_toList,Array.toList_zipIdx]
 exact RB vs.toList 0 off c
inductive wX (E:Env) (σ:Sg) (st:St E.T) (w:World) (M:Nat→Prop):List (Nat×az E.T)→List (Nat×Value)→Prop where
 |nil:wX E σ st w M [] []
 |cons (j:Nat) (x:az E.T) (u:Value) (ps:List (Nat×az E.T)) (us:List (Nat×Value)) (h:a8 E σ st w M x u) (h':wX E σ st w M ps us):wX E σ st w M ((j,x) ::ps) ((j,u) ::us)
theorem iB.length: ∀{ts:List Ty} {fs:List (az E.T)} {cs:List Value},iB E σ st w M ts fs cs→fs.length=ts.length
 |_,_,_,.nil=>rfl
 |_,_,_,.cons t ts v r c1 c2 h h'=>by simp[iB.length h']
theorem Oy (ok:dq E) {ts:List Ty} {ev:Nat→Value} {place:Nat→Option (Nat×Nat)} (hp: ∀j t,aR ts j=some t→place j=some (((ts.take j).map E.size).sum,E.size t)):
  ∀(ps:List (Nat×az E.T)) (us:List (Nat×Value)) {fs:List (az E.T)} {cur:Array Value} {f:List (az E.T)→Tree (az E.T)} {v:az E.T},
   (∀(x:az E.T) (u:Value),a8 E σ st w M x u→ ∀t,qB E st t x=true→ ∃cs,VT E σ st w M t x cs∧u.cells=cs.toArray)→
   wX E σ st w M ps us→iB E σ st w M ts fs cur.toList→(kJ.fill E st ts fs ps f).get=some v→
   ∃fs' cur',Instr.fill place cur us=some cur'∧iB E σ st w M ts fs' cur'.toList∧(f fs').get=some v
 |[],us,fs,cur,f,v,hcell,hu,hv,h=>by
  cases hu
  exact⟨fs,cur,rfl,hv,h⟩
 |(j,x) ::ps,us,fs,cur,f,v,hcell,hu,hv,h=>by
  cases hu with
  |cons j x u ps us hx hr=>
   simp only[kJ.fill]at h
   split at h
   ·rename_i t ht
    obtain⟨hfit,h1⟩:=Tree.aO h
    clear h
    obtain⟨cs,hvt,hcs⟩:=hcell x u hx t hfit
    have hjl:j<fs.length:=by
     have h1:=bT ht
     have h2:=iB.length hv
     omega
    obtain⟨t1,c,l,r,e1,e2,e3,e4,e5⟩:=iB.at ok hv j _ (nH (d:= .undef) hjl)
    rw[ht]at e1;cases e1
    have hlen:c.length=cs.length:=by rw[VT.len ok e2,VT.len ok hvt]
    have hspl:(qq cur l.length cs).toList=l++cs++r:=EK e3 hlen
    have hsize:cur.size=l.length+c.length+r.length:=by rw[←Array.length_toList,e3];simp;omega
    obtain⟨fs',cur',g1,g2,g3⟩:=Oy ok (ev:=ev) hp ps us (fs:=dk fs j x) (cur:=qq cur l.length cs) hcell hr (by rw[hspl];exact e5 x cs hvt) h1
    refine⟨fs',cur',?_,g2,g3⟩
    simp only[Instr.fill,hp j t ht,hcs]
    have hl2:=VT.len ok hvt
    have hno: ¬(cs.toArray.size≠E.size t∨((ts.take j).map E.size).sum+cs.toArray.size>cur.size):=by
     rw[←e4]
     simp only[List.size_toArray]
     omega
    rw[if_neg (by rw[Bool.or_eq_true,decide_eq_true_eq,decide_eq_true_eq];exact hno)]
    have:=Dl cs.toArray l.length cur
    simp only[e4]at this⊢
    rw[this]
    simpa [e4]using g1
   ·cases h
end
open Go
section
variable {P:Program} {E:Env} {w:World} {σ:Sg} {st:St E.T} {M:Nat→Prop}
theorem Lo (ok:dq E) (hst:br E σ st w) (x:az E.T) (u:Value) (h:a8 E σ st w M x u) (t:Ty) (hf:qB E st t x=true): ∃cs,VT E σ st w M t x cs∧u.cells=cs.toArray∧u=toV t cs:=by
 obtain⟨t',cs,hv,rfl⟩:=RP ⟨t,hf⟩ h
 have h2:=se hv hf
 have he:toV t' cs=toV t cs:=by
  cases hv with
  |val t' x cs h=>have:=dP hf;subst this;rfl
  |bm e a=>cases t<;>first|rfl|cases hf
  |own k l e xs hk=>
   simp only[qB,hk]at hf
   have:=dP hf;subst this;rfl
  |dD e v h=>cases hf
  |agg i fs cs h=>cases t<;>first|(have:=Nat.eq_of_beq_eq_true hf;subst this;rfl)|cases hf
 refine⟨cs,h2,?_,he⟩
 rw[he]
 exact toV_cells (VT.one hst h2) (fun ha=>by rw[VT.len ok h2];exact nq ha)
theorem uq (S:Sound P E) {t:TypeId} {ty:Ty} (h:E.tk t= .data ty) (w:World):(zeroValue t).run P w= .ok (toV ty (dY E depth ty)) w:=by
 obtain⟨i,hi,_,_,hz⟩:=(S.data t ty h).info
 simp[zeroValue,xD hi,hz]
theorem iU (S:Sound P E) {t:TypeId} {ty:Ty} (h:E.tk t= .data ty) (hst:br E σ st w):(toV ty (dY E depth ty)).cells=(dY E depth ty).toArray:=by
 have hv:=nb (σ:=σ) (st:=st) (w:=w) (M:=MB σ st) S.todq depth ty (S.data t ty h).deep
 exact toV_cells (VT.one hst hv) (fun ha=>by rw[VT.len S.todq hv];exact nq ha)
theorem run_places (S:Sound P E) {i:Nat}: ∀(fl:List Field),(∀f∈fl,∃ty,E.tk f.type= .data ty)→ ∀(w:World),(fl.mapM (fun(f:Field)=>do pure (f.offset,←sizeOf f.type):Field→Sem (Nat×Nat))).run P w=
  .ok (fl.map fun f=>(f.offset,P.cellsOf f.type)) w
 |[],_,w=>by simp
 |f::fl,h,w=>by
  obtain⟨ty,ht⟩:=h f (by simp)
  obtain⟨inf,hi,hs,_⟩:=(S.data _ _ ht).info
  have hc:P.cellsOf f.type=inf.size:=by simp[Program.cellsOf,hi]
  have hr:=run_places S (i:=i) fl (fun f hf=>h f (by simp[hf])) w
  simp only[List.mapM_cons,Sem.run_bind,rz hi,Result.andThen_ok,Sem.run_pure,hr,List.map_cons,hc]
theorem Ho (S:Sound P E) (hst:br E σ st w) {t:TypeId} {i:Nat} (ht:E.tk t= .data (.named i)) {ps:List (Nat×az E.T)} {us:List (Nat×Value)} {v:az E.T} (hu:wX E σ st w (MB σ st) ps us)
  (h:(kJ.fill E st (E.fields i) ((E.fields i).map (iP E depth)) ps fun fs=> .ret (.agg i fs)).get=some v):
  ∃y,(Instr.build t us.toArray).run P w= .ok y w∧a8 E σ st w (MB σ st) v y:=by
 obtain⟨fs,hun,hsz,hfs⟩:=(S.data t _ ht).desc
 have hdeep:=(S.data t _ ht).deep
 have hz:=nb (σ:=σ) (st:=st) (w:=w) (M:=MB σ st) S.todq depth (.named i) hdeep
 have hdeep': ∀ty∈E.fields i,Mp E 7 ty=true:=by simpa [Mp,depth]using hdeep
 have hz2:iB E σ st w (MB σ st) (E.fields i) ((E.fields i).map (iP E depth)) (dY E depth (.named i)):=by
  have h8: ∀(d:Nat) (t:Ty),Mp E d t=true→iP E (d+1) t=iP E d t∧dY E (d+1) t=dY E d t∧fo E (d+1) t=fo E d t:=by
   intro d
   induction d with
   |zero=>intro t h;cases h
   |succ d ih=>
    intro t h
    cases t with
    |bool=>exact⟨rfl,rfl,rfl⟩
    |int k=>exact⟨rfl,rfl,rfl⟩
    |str=>exact⟨rfl,rfl,rfl⟩
    |slice e=>exact⟨rfl,rfl,rfl⟩
    |arr n e=>
     obtain⟨h1,h2,h3⟩:=ih e h
     refine⟨?_,?_,?_⟩
     ·rw[iP,h3];rfl
     ·rw[dY,h2];rfl
     ·rw[fo,h3];rfl
    |named j=>
     simp only[Mp,List.all_eq_true]at h
     refine⟨?_,?_,?_⟩
     ·rw[iP,iP];congr 1;exact List.map_congr_left fun t ht=>(ih t (h t ht)).1
     ·rw[dY,dY]
      have: ∀(ts:List Ty),(∀t∈ts,Mp E d t=true)→ts.flatMap (dY E (d+1))=ts.flatMap (dY E d):=by
       intro ts
       induction ts with
       |nil=>intro _;rfl
       |cons t ts iht=>intro h;simp only[List.flatMap_cons];rw[(ih t (h t (by simp))).2.1,iht (fun t ht=>h t (by simp[ht]))]
      exact this _ h
     ·rw[fo,fo]
      have: ∀(ts:List Ty),(∀t∈ts,Mp E d t=true)→fo.zHL E (fo E (d+1)) ts=fo.zHL E (fo E d) ts:=by
       intro ts
       induction ts with
       |nil=>intro _;rfl
       |cons t ts iht=>intro h;simp only[fo.zHL];rw[(ih t (h t (by simp))).2.2,iht (fun t ht=>h t (by simp[ht]))]
      rw[this _ h]
  have e1:(E.fields i).map (iP E depth)=(E.fields i).map (iP E 7):=List.map_congr_left fun t ht=>(h8 7 t (hdeep' t ht)).1
  rw[e1]
  exact iB.map _ (fun t ht=>nb S.todq 7 t (hdeep' t ht))
 obtain⟨fs',cur',g1,g2,g3⟩:=Oy S.todq (ev:=fun _=> .nilFunc) (place:=fun j=>(fs.toList.map fun f=>(f.offset,P.cellsOf f.type)).toArray[j]?) (ts:=E.fields i) (by
   intro j t' hj
   have hjl:j<fs.size:=by rw[hsz];exact bT hj
   obtain⟨ty,a1,a2,a3,_⟩:=hfs j _ (Array.getElem?_eq_getElem hjl)
   rw[hj]at a1;cases a1
   obtain⟨inf,hi,hs,_⟩:=(S.data _ _ a2).info
   simp[hjl,a3,Env.qM,Program.cellsOf,hi,hs]) ps us (cur:=(dY E depth (.named i)).toArray)
  (fun x u hx t hf=>by obtain⟨cs,c1,c2,_⟩:=Lo S.todq hst x u hx t hf;exact⟨cs,c1,c2⟩) hu (by simpa using hz2) h
 cases g3
 refine⟨.agg cur',?_,?_⟩
 ·have hm:(fs.mapM (fun(f:Field)=>do pure (f.offset,←sizeOf f.type):Field→Sem (Nat×Nat))).run P w= .ok (fs.toList.map fun f=>(f.offset,P.cellsOf f.type)).toArray w:=by
   rw[Array.mapM_eq_mapM_toList,Sem.run_map,run_places S (i:=i) fs.toList (fun f hf=>by
    obtain⟨j,hj,rfl⟩:=List.getElem_of_mem hf
    obtain⟨ty,_,a2,_⟩:=hfs j _ (Array.getElem?_eq_getElem (by simpa using hj))
    exact⟨ty,a2⟩) w]
   rfl
  have hzc:=iU S ht hst
  unfold Instr.build
  simp only[Sem.run_bind,uq S ht,Result.andThen_ok,bt hun,hm,hzc]
  simp only[g1]
  rfl
 ·have:=a8.data _ _ _ (VT.agg i fs' cur'.toList g2)
  simpa [toV,dX]using this
end
open Go
noncomputable section
section
variable {P:Program} {E:Env} {w:World} {σ:Sg} {st:St E.T} {M:Nat→Prop}
theorem PL (ok:dq E) (hst:br E σ st w) {e:Ty} {v:az E.T} {u:Value} {xs:List (I E.T e)} (h:elems E st e v=some xs) (hv:a8 E σ st w (MB σ st) v u):
  ∃a cap cs,u= .slice a xs.length cap∧bE E w (MB σ st) e xs cs∧(xs=[]∨Mem w (fun _=>False) a cs)∧xs.length≤dy∧xs.length≤cap:=by
 obtain⟨cs,hvt,rfl⟩:=nu h hv
 cases hvt with
 |val t x cs hc=>
  simp only[elems,depth,toData]at h
  split at h
  ·rename_i p _
   cases p with|up p=>
   cases h
   cases hc with
   |slice e xs a cap cs hl hm hn hcp=>
    refine⟨a,cap,cs,rfl,hl,hm.imp id fun hm=> ?_,hn,hcp⟩
    obtain⟨b,off,h1,h2,h3,h4⟩:=hm
    exact⟨b,off,h1,fun h=>h,h3,h4⟩
  ·cases h
 |bm e a=>
  simp only[elems,depth,toData,Option.some.injEq]at h
  subst h
  exact⟨a,0,[],rfl,.nil e,.inl rfl,Nat.zero_le _,Nat.le_refl _⟩
 |own k l e xs' hk=>
  simp only[elems,depth,toData,hk]at h
  split at h
  ·rename_i p _
   cases p with|up p=>
   cases h
   have hob:=hst.obj k _ hk
   generalize σ k=s at hob
   cases hob with
   |arr l e xs v hr=>
    rcases hr.2 with⟨⟨a,rfl⟩,rfl⟩|⟨g,cap,c,el,fr,cs,rfl,hcap,hh,hz,hf,hl,hq,hord⟩
    ·exact⟨a,0,[],rfl,.nil e,.inl rfl,Nat.zero_le _,Nat.le_refl _⟩
    ·refine⟨_,cap+1,cs,rfl,hl,.inr ⟨g,0,rfl,fun h=>h,(Array.getElem?_eq_some_iff.1 hh).1,fun q v hv=> ?_⟩,hr.1,hcap⟩
     simp[World.cell?,hh,hq q v hv]
  ·cases h
 |dD e v h1=>simp[elems,depth,toData]at h
theorem toHLWith_mono {f g:(t:Ty)→az E.T→Option (I E.T t)} (hf: ∀t d x,f t d=some x→g t d=some x):
  ∀{ts:List Ty} {fs:List (az E.T)} {r:HL E.T ts},toHLWith E f ts fs=some r→toHLWith E g ts fs=some r
 |[],[],r,h=>h
 |t::ts,v::vs,r,h=>by
  simp only[toHLWith]at h
  split at h
  ·rename_i x hx
   split at h
   ·rename_i y hy
    cases h
    simp only[toHLWith,hf t v x hx,toHLWith_mono hf hy]
   ·cases h
  ·cases h
 |[],_::_,r,h=>by simp[toHLWith]at h
 |_::_,[],r,h=>by simp[toHLWith]at h
theorem toData_mono (st:St E.T): ∀(n:Nat) {t:Ty} {d:az E.T} {x:I E.T t},toData E [] n t d=some x→toData E st n t d=some x
 |0,_,_,_,h=>by cases h
 |n+1,t,d,x,h=>by
  cases d with
  |val t' y=>exact h
  |bm=>exact h
  |own k=>simp[toData,dJ,cT,cU]at h
  |agg i fs=>
   cases t with
   |named j=>
    simp only[toData]at h⊢
    split at h
    ·split at h
     ·rename_i r hr
      rw[toHLWith_mono (fun t d x=>toData_mono st n) hr]
      exact h
     ·cases h
    ·cases h
   |_=>simp[toData]at h
  |_=>simp[toData]at h
theorem HW (ok:dq E) {e:Ty} {x:az E.T} {u:Value} {y:I E.T e} (hy:toData E [] depth e x=some y) (hx:a8 E σ st w M x u): ∃cs,cF E w M e y cs∧u.cells=cs.toArray:=by
 obtain⟨cs,hvt,rfl⟩:=nu (toData_mono st depth hy) hx
 have hc:=toData_nil ok depth hy hvt
 refine⟨cs,hc,toV_cells (cF.one hc) (fun ha=>by rw[cF.len ok hc];exact nq ha)⟩
theorem Lr (ok:dq E) {e:Ty} {f:List (I E.T e)→Tree (az E.T)} {v:az E.T}:
  ∀(ps:List (Nat×az E.T)) (us:List (Nat×Value)) {xs:List (I E.T e)} {cur:Array Value},
   wX E σ st w M ps us→bE E w M e xs cur.toList→(kJ.fillL E e xs ps f).get=some v→
   ∃xs' cur',Instr.fill (fun i=>some (i*E.size e,E.size e)) cur us=some cur'∧bE E w M e xs' cur'.toList∧xs'.length=xs.length∧(f xs').get=some v
 |[],us,xs,cur,hu,hv,h=>by
  cases hu
  exact⟨xs,cur,rfl,hv,rfl,h⟩
 |(j,x) ::ps,us,xs,cur,hu,hv,h=>by
  cases hu with
  |cons j x u ps us hx hr=>
   simp only[kJ.fillL]at h
   obtain⟨y,hy,h1⟩:=Tree.aA h
   rw[Tree.dE]at hy
   obtain⟨hj,h2⟩:=Tree.aO h1
   clear h h1
   rw[Nat.blt_eq]at hj
   obtain⟨cs,hc,hcs⟩:=HW ok hy hx
   obtain⟨c,l,r,e1,e2,e3,e4⟩:=bE.split ok hv j _ (List.getElem?_eq_getElem hj)
   have hlc:c.length=cs.length:=by rw[cF.len ok e1,cF.len ok hc]
   have hspl:(qq cur l.length cs).toList=l++cs++r:=EK e2 hlc
   obtain⟨xs',cur',g1,g2,g3,g4⟩:=Lr ok ps us (xs:=dk xs j y) (cur:=qq cur l.length cs) hr (by rw[hspl,Fb];exact e4 y cs hc) h2
   refine⟨xs',cur',?_,g2,by rw[g3,dL],g4⟩
   have hsize:cur.size=l.length+c.length+r.length:=by rw[←Array.length_toList,e2];simp;omega
   have hl2:=cF.len ok hc
   simp only[Instr.fill,hcs]
   have hno: ¬(cs.toArray.size≠E.size e∨j*E.size e+cs.toArray.size>cur.size):=by
    rw[←e3]
    simp only[List.size_toArray]
    omega
   rw[if_neg (by rw[Bool.or_eq_true,decide_eq_true_eq,decide_eq_true_eq];exact hno)]
   have:=Dl cs.toArray l.length cur
   rw[←e3,this]
   simpa using g1
theorem NA (S:Sound P E) (hst:br E σ st w) {t:TypeId} {n:Nat} {e:Ty} (ht:E.tk t= .data (.arr n e)) {ps:List (Nat×az E.T)} {us:List (Nat×Value)} {v:az E.T} {z:List (I E.T e)} (hz:fo E depth (.arr n e)=some z)
  (hu:wX E σ st w (MB σ st) ps us) (h:(kJ.fillL E e z ps fun xs=> .ret (.val (.arr n e) xs)).get=some v):
  ∃y,(Instr.build t us.toArray).run P w= .ok y w∧a8 E σ st w (MB σ st) v y:=by
 obtain⟨te,hun,hte⟩:=(S.data t _ ht).desc
 have hzc:=rb (w:=w) (M:=MB σ st) S.todq depth (.arr n e) z hz
 cases hzc with
 |arr n e xs cs hn hl=>
  obtain⟨xs',cur',g1,g2,g3,g4⟩:=Lr (v:=v) (f:=fun xs=> .ret (.val (.arr n e) xs)) S.todq ps us (cur:=(dY E depth (.arr n e)).toArray) hu (by simpa using hl) h
  cases g4
  refine⟨.agg cur',?_,?_⟩
  ·have hzc:=iU S ht hst
   unfold Instr.build
   simp only[Sem.run_bind,uq S ht,Result.andThen_ok,bt hun,ft S hte,hzc,g1]
   rfl
  ·have:=a8.data (σ:=σ) (st:=st) _ _ _ (VT.val _ _ _ (cF.arr n e xs' cur'.toList (by omega) g2))
   simpa [toV,dX]using this
theorem PY (S:Sound P E) (hst:br E σ st w) {t:TypeId} {ps:List (Nat×az E.T)} {us:List (Nat×Value)} {v:az E.T} (hu:wX E σ st w (MB σ st) ps us) (h:(kJ E st t ps).get=some v):
  ∃y,(Instr.build t us.toArray).run P w= .ok y w∧a8 E σ st w (MB σ st) v y:=by
 unfold kJ at h
 split at h
 ·rename_i i ht;exact Ho S hst ht hu h
 ·rename_i n e ht
  obtain⟨z,hz,h⟩:=Tree.aA h
  rw[Tree.dE]at hz
  exact NA S hst ht hz hu h
 ·cases h
theorem bE.append: ∀{e:Ty} {xs:List (I E.T e)} {c1:List Value},bE E w M e xs c1→ ∀{ys:List (I E.T e)} {c2:List Value},bE E w M e ys c2→bE E w M e (xs++ys) (c1++c2)
 |_,_,_,.nil e,_,_,h=>h
 |_,_,_,.cons e x r d1 d2 h h',_,_,k=>by
  have:=bE.cons e x _ d1 _ h (bE.append h' k)
  simpa using this
theorem OZ {l:List Value} {n:Nat} {c a b r:List Value} (h:l=a++c++r) (ha:a.length=n):l.take (n+c.length)=l.take n++c:=by
 subst h
 rw[←ha,List.append_assoc,List.take_left,show a.length+c.length=(a++c).length by simp,←List.append_assoc,List.take_left]
theorem NN (ok:dq E) {e:Ty} {v:az E.T}:
  ∀(ps:List (Nat×az E.T)) (us:List (Nat×Value)) (i:Nat) {xs:List (I E.T e)} {cur:Array Value} {f:List (I E.T e)→Tree (az E.T)},
   wX E σ st w M ps us→cur.size=(i+ps.length)*E.size e→xs.length=i→bE E w M e xs (cur.toList.take (i*E.size e))→(eZ.all E e i ps f).get=some v→
   ∃ys cur',Instr.fill (fun i=>some (i*E.size e,E.size e)) cur us=some cur'∧bE E w M e (xs++ys) cur'.toList∧ys.length=ps.length∧cur'.size=cur.size∧(f ys).get=some v
 |[],us,i,xs,cur,f,hu,hs,hx,hl,h=>by
  cases hu
  refine⟨[],cur,rfl,?_,rfl,rfl,h⟩
  rw[List.append_nil]
  rwa [List.take_of_length_le (by rw[Array.length_toList,hs];simp)]at hl
 |(j,x) ::ps,us,i,xs,cur,f,hu,hs,hx,hl,h=>by
  cases hu with
  |cons j x u ps us hx' hr=>
   simp only[eZ.all]at h
   obtain⟨hij,h1⟩:=Tree.aO h
   have:=Nat.eq_of_beq_eq_true hij;subst this
   obtain⟨y,hy,h2⟩:=Tree.aA h1
   rw[Tree.dE]at hy
   clear h h1
   obtain⟨cs,hc,hcs⟩:=HW ok hy hx'
   have hlc:=cF.len ok hc
   have hs':cur.size=i*E.size e+E.size e+ps.length*E.size e:=by rw[hs,List.length_cons];simp only[Nat.add_mul,Nat.one_mul];omega
   have hll:(cur.toList.take (i*E.size e)).length=i*E.size e:=by rw[List.length_take,Array.length_toList];omega
   have hspl:(qq cur (i*E.size e) cs).toList=cur.toList.take (i*E.size e)++cs++cur.toList.drop (i*E.size e+E.size e):=by
    have:=EK (c:=cur) (l:=cur.toList.take (i*E.size e)) (m:=(cur.toList.drop (i*E.size e)).take (E.size e)) (r:=cur.toList.drop (i*E.size e+E.size e)) (vs:=cs) (by
     rw[List.append_assoc,←List.drop_drop,List.take_append_drop,List.take_append_drop]) (by
     rw[List.length_take,List.length_drop,Array.length_toList];omega)
    rw[hll]at this
    exact this
   obtain⟨ys,cur',g1,g2,g3,g4,g5⟩:=NN ok ps us (i+1) (xs:=xs++[y]) (cur:=qq cur (i*E.size e) cs) hr (by rw[gH,hs'];simp only[Nat.add_mul,Nat.one_mul]) (by simp[hx]) (by
    have h3:(i+1)*E.size e=i*E.size e+cs.length:=by rw[hlc,Nat.add_mul,Nat.one_mul]
    have h4:=OZ (b:=[]) hspl hll
    have h5:(qq cur (i*E.size e) cs).toList.take (i*E.size e)=cur.toList.take (i*E.size e):=by
     rw[hspl,List.append_assoc]
     exact List.take_left' hll
    rw[h3,h4,h5]
    have h6:bE E w M e [y] cs:=by
     have:=bE.cons e y [] cs [] hc (.nil e)
     simpa using this
    exact bE.append hl h6) h2
   refine⟨y::ys,cur',?_,by simpa using g2,by simp[g3],by rw[g4,gH],g5⟩
   simp only[Instr.fill,hcs]
   have hno: ¬(cs.toArray.size≠E.size e∨i*E.size e+cs.toArray.size>cur.size):=by
    simp only[List.size_toArray]
    omega
   rw[if_neg (by rw[Bool.or_eq_true,decide_eq_true_eq,decide_eq_true_eq];exact hno)]
   have:=Dl cs.toArray (i*E.size e) cur
   rw[this]
   simpa using g1
theorem Rd {w':World} {g:Nat} {c:Array Value} {el:TypeId} {fr:Nat×Nat} {cs:List Value} (hh:w'.heap[g]? =some (.cells c el fr)) (hM: ¬M g) (hc: ∀(q:Nat) (v:Value),cs[q]? =some v→c[q]? =some v):
  Mem w' M (some ⟨g,0,none⟩) cs:=by
 refine⟨g,0,rfl,hM,(Array.getElem?_eq_some_iff.1 hh).1,fun q v hv=> ?_⟩
 simp[World.cell?,hh,hc q v hv]
theorem Eu (hst:br E σ st w) {b:Nat} (h:MB σ st b):b<w.heap.size:=by
 rcases h with h|⟨o,ob,ho,hm,hb⟩
 ·exact hst.qC b h
 exact lO hst ho (by cases ob<;>first|rfl|cases hm) hb
theorem Ai (σ:Sg) (st:St E.T) {e:Ty} {xs:List (I E.T e)} {a:Option Addr} {cap:Nat} {cs:List Value} (hl:bE E w M e xs cs) (hm:xs=[]∨Mem w M a cs) (hn:xs.length≤dy) (hc:xs.length≤cap):a8 E σ st w M (.val (.slice e) xs) (.slice a xs.length cap):=
 a8.data _ _ _ (VT.val _ _ _ (cF.slice e xs a cap cs hl hm hn hc))
theorem nS (S:Sound P E) (hst:br E σ st w) {t:TypeId} {n:Nat} {ps:List (Nat×az E.T)} {us:List (Nat×Value)} {v:az E.T} (hu:wX E σ st w (MB σ st) ps us) (h:(eZ E st t n ps).get=some v):
  qD P E σ st w (Instr.buildSlice t n us.toArray) v st:=by
 unfold eZ at h
 split at h
 ·rename_i e ht
  obtain⟨te,hun,hte⟩:=(S.data t _ ht).desc
  split at h
  ·cases h
   cases hu
   refine⟨.slice (some ⟨w.heap.size,0,none⟩) 0 0,w.alloc (.cells #[] te),σ,?_,Mv.grow hst _,.data _ _ _ (.bm e _)⟩
   unfold Instr.buildSlice
   simp[bt hun,ft S hte,Instr.fill,newRow,Array.range_zero']
  ·rename_i n' ps' _
   obtain⟨hb,h1⟩:=Tree.aO h
   clear h
   rw[Bool.and_eq_true]at hb
   have hn:=Nat.eq_of_beq_eq_true hb.1
   have hb2:=hb.2
   rw[Bool.and_eq_true]at hb2
   have hbig:=Nat.le_of_ble_eq_true hb2.1
   have hlim:=Nat.le_of_ble_eq_true hb2.2
   clear hb2
   clear hb
   subst hn
   obtain⟨z,hz⟩: ∃z:Array Value,z=(if ps.length*E.size e=0 then(#[]:Array Value)else(dY E depth e).toArray):=⟨_,rfl⟩
   obtain⟨ys,cur',g1,g2,g3,g4,g5⟩:=NN (v:=v) (f:=fun xs=> .ret (.val (.slice e) xs)) S.todq ps us 0 (xs:=[]) (cur:=madeCells z (ps.length*E.size e)) hu (by rw[size_madeCells,Nat.zero_add]) rfl (by rw[Nat.zero_mul];exact .nil e) h1
   cases g5
   have hm:=Mv.grow hst (.cells cur' te)
   refine⟨.slice (some ⟨w.heap.size,0,none⟩) ps.length ps.length,w.alloc (.cells cur' te),σ,?_,hm,?_⟩
   ·unfold Instr.buildSlice
    have hgt: ¬(ps.length*E.size e>2^24):=by omega
    simp only[Sem.run_bind,bt hun,Result.andThen_ok,ft S hte,hgt,if_false,Sem.run_pure]
    unfold madeCells at g1
    by_cases h0:ps.length*E.size e=0
    ·rw[if_pos h0]at hz
     subst hz
     simp only[h0,if_true,Sem.run_bind,Sem.run_pure,Result.andThen_ok,List.toList_toArray]at g1⊢
     simp only[g1]
     simp[newRow]
    ·rw[if_neg h0]at hz
     have hzc:=iU S hte hst
     simp only[h0,if_false,Sem.run_bind,uq S hte,Result.andThen_ok,Sem.run_pure,hzc,List.toList_toArray]
     subst hz
     simp only[g1]
     simp[newRow]
   ·rw[←g3]
    simp only[List.nil_append]at g2
    exact Ai σ st (hm.aM.kept|>fun k=>bE.aM k g2) (.inr (Rd (heap_alloc_new w (.cells cur' te)) (fun h=>Nat.lt_irrefl _ (Eu hst h)) (fun q v hv=>by rw[←Array.getElem?_toList];exact hv))) (by rw[g3];exact hlim) (Nat.le_refl _)
 ·cases h
theorem JN (S:Sound P E) (hst:br E σ st w) {t:TypeId} {n:Nat} {ps:List (Nat×az E.T)} {us:List (Nat×Value)} {xs:List UInt8} (hu:wX E σ st w (MB σ st) ps us) (h:(eZ E st t n ps).get=some (.val (.slice (.int .u8)) xs)):
  qD P E σ st w (Instr.buildSlice t n us.toArray) (.own st.length) (st++[.arr .live (.int .u8) xs]):=by
 unfold eZ at h
 split at h
 ·rename_i e ht
  obtain⟨te,hun,hte⟩:=(S.data t _ ht).desc
  split at h
  ·cases h
  ·rename_i n' ps' _
   obtain⟨hb,h1⟩:=Tree.aO h
   clear h
   rw[Bool.and_eq_true]at hb
   have hn:=Nat.eq_of_beq_eq_true hb.1
   have hb2:=hb.2
   rw[Bool.and_eq_true]at hb2
   have hbig:=Nat.le_of_ble_eq_true hb2.1
   have hlim:=Nat.le_of_ble_eq_true hb2.2
   clear hb2
   clear hb
   subst hn
   obtain⟨z,hz⟩: ∃z:Array Value,z=(if ps.length*E.size e=0 then(#[]:Array Value)else(dY E depth e).toArray):=⟨_,rfl⟩
   obtain⟨ys,cur',g1,g2,g3,g4,g5⟩:=NN (v:= .val (.slice (.int .u8)) xs) (f:=fun xs=> .ret (.val (.slice e) xs)) S.todq ps us 0 (xs:=[]) (cur:=madeCells z (ps.length*E.size e)) hu (by rw[size_madeCells,Nat.zero_add]) rfl (by rw[Nat.zero_mul];exact .nil e) h1
   cases g5
   have hm:=Mv.grow hst (.cells cur' te)
   have hcs:=bE.bytes (w:=w) (by simpa using g2)
   refine⟨.slice (some ⟨w.heap.size,0,none⟩) ps.length ps.length,w.alloc (.cells cur' te),_,?_,Mv.push hst (.cells cur' te) (.slice (some ⟨w.heap.size,0,none⟩) ps.length ps.length) _ (fun g hg=>j5 hg) (.arr .live _ _ _ (gz.mk' E _ _ (cs:=cur'.toList) (by rw[g3];exact hlim) (by rw[g3];exact Nat.le_refl _) (heap_alloc_new w (.cells cur' te)) (by rw[g4,size_madeCells];exact Nat.le_refl _) (fun q _=>by unfold World.frozen?;simp only[heap_alloc_new w (.cells cur' te)];simp) (by rw[hcs];exact bE.xQ _) (fun q v hv=>by rw[←Array.getElem?_toList];exact hv) g3.symm)),BZ⟩
   ·unfold Instr.buildSlice
    have hgt: ¬(ps.length*E.size (.int .u8)>2^24):=by omega
    simp only[Sem.run_bind,bt hun,Result.andThen_ok,ft S hte,hgt,if_false,Sem.run_pure]
    unfold madeCells at g1
    by_cases h0:ps.length*E.size (.int .u8)=0
    ·rw[if_pos h0]at hz
     subst hz
     simp only[h0,if_true,Sem.run_bind,Sem.run_pure,Result.andThen_ok,List.toList_toArray]at g1⊢
     simp only[g1]
     simp[newRow]
    ·rw[if_neg h0]at hz
     have hzc:=iU S hte hst
     simp only[h0,if_false,Sem.run_bind,uq S hte,Result.andThen_ok,Sem.run_pure,hzc,List.toList_toArray]
     subst hz
     simp only[g1]
     simp[newRow]
 ·cases h
end
end
open Go
section
variable {P:Program} {E:Env} {w:World} {σ:Sg} {st:St E.T} {M:Nat→Prop}
inductive J5 (E:Env) (σ:Sg) (st:St E.T) (w:World) (M:Nat→Prop):Option (az E.T)→Option Value→Prop where
 |none:J5 E σ st w M none none
 |some (d:az E.T) (u:Value) (h:a8 E σ st w M d u):J5 E σ st w M (some d) (some u)
theorem q9 {b:Bool} {len cap:Nat} {lo hi:Option (az E.T)} {ulo uhi:Option Value} {l h:Int} (hl:J5 E σ st w M lo ulo) (hh:J5 E σ st w M hi uhi) (h1:nT E lo 0=some l) (h2:nT E hi len=some h) (hc:len≤cap)
  (h3:0≤l) (h4:l≤h) (h5:h≤len):(Instr.sliceBounds b len cap ulo uhi none).run P w= .ok (l.toNat,h.toNat,cap) w:=by
 have hb: ∀{x:Option (az E.T)} {ux:Option Value} {d r:Int},J5 E σ st w M x ux→nT E x d=some r→(x=none∧ux=none∧r=d)∨ ∃k,ux=some (.int k r):=by
  intro x ux d r hx hr
  cases hx with
  |none=>cases hr;exact .inl ⟨rfl,rfl,rfl⟩
  |some v u hv=>
   unfold nT at hr
   split at hr
   ·rename_i heq;cases heq
   ·rename_i k a heq
    cases heq
    cases hr
    have:=jg hv
    subst this
    exact .inr ⟨k,rfl⟩
   ·cases hr
 have eh:(h.toNat:Int)=h:=Int.toNat_of_nonneg (by omega)
 rcases hb hl h1 with⟨_,rfl,rfl⟩|⟨k,rfl⟩<;>rcases hb hh h2 with⟨_,rfl,rfl⟩|⟨k',rfl⟩
 ·simp[Instr.sliceBounds]
 ·simp[Instr.sliceBounds,run_sliceBound,eh,(by omega:0≤h),(by omega:h≤(cap:Int))]
 ·simp[Instr.sliceBounds,run_sliceBound,h3,h4]
 ·simp[Instr.sliceBounds,run_sliceBound,eh,(by omega:0≤h),(by omega:h≤(cap:Int)),h3,h4]
theorem bE.cutAt (ok:dq E): ∀{e:Ty} {xs:List (I E.T e)} {cs:List Value},bE E w M e xs cs→ ∀n,n≤xs.length→ ∃c1 c2,cs=c1++c2∧bE E w M e (xs.take n) c1∧bE E w M e (xs.drop n) c2
 |_,_,_,h,0,_=>⟨[],_,rfl,by simpa using bE.nil _,by simpa using h⟩
 |_,_,_,.nil e,n+1,h=>by simp at h
 |_,_,_,.cons e x r d1 d2 h h',n+1,hn=>by
  obtain⟨c1,c2,rfl,h1,h2⟩:=bE.cutAt ok h' n (by simpa using hn)
  exact⟨d1++c1,c2,by simp,by simpa using bE.cons e x _ d1 c1 h h1,by simpa using h2⟩
theorem bE.cut (ok:dq E) {e:Ty} {xs:List (I E.T e)} {cs:List Value} (hl:bE E w M e xs cs) {l h:Nat} (h1:l≤h) (h2:h≤xs.length):
  ∃c,bE E w M e ((xs.take h).drop l) c∧ ∀(q:Nat) (v:Value),c[q]? =some v→cs[l*E.size e+q]? =some v:=by
 obtain⟨c1,c2,rfl,e1,_⟩:=bE.cutAt ok hl h h2
 obtain⟨d1,d2,rfl,f1,f2⟩:=bE.cutAt ok e1 l (by rw[List.length_take];omega)
 refine⟨d2,f2,fun q v hv=> ?_⟩
 have hd:d1.length=l*E.size e:=by rw[bE.len ok f1,List.length_take,List.length_take,show min l (min h xs.length)=l by omega]
 rw[List.append_assoc,←hd,List.getElem?_append_right (by omega),Nat.add_sub_cancel_left,List.getElem?_append_left (List.getElem?_eq_some_iff.1 hv).1]
 exact hv
theorem Mem.sub {M':Nat→Prop} {b off:Nat} {cs c:List Value} {o:Nat} (hM: ¬M' b) (hm:Mem w M (some ⟨b,off,none⟩) cs) (hc: ∀(q:Nat) (v:Value),c[q]? =some v→cs[o+q]? =some v):Mem w M' (some ⟨b,off+o,none⟩) c:=by
 obtain⟨b',off',ha,_,hlt,hq⟩:=hm
 cases ha
 exact⟨b,off+o,rfl,hM,hlt,fun q v hv=>by rw[Nat.add_assoc];exact hq _ v (hc q v hv)⟩
theorem Cs (ok:dq E) {st':St E.T} {M':Nat→Prop} (hM: ∀b,M' b→M b) {e:Ty} {xs:List (I E.T e)} {cs:List Value} {a:Option Addr} {cap:Nat} (hl:bE E w M e xs cs) (hm:xs=[]∨ ∃b off M0,a=some ⟨b,off,none⟩∧ ¬M' b∧Mem w M0 a cs) (hn:xs.length≤dy) (hc:xs.length≤cap) {l h:Int}
  (h3:0≤l) (h4:l≤h) (h5:h≤xs.length):
  a8 E σ st' w M' (.val (.slice e) ((xs.take h.toNat).drop l.toNat)) (.slice (if cap=l.toNat then a else a.map (·.add (l.toNat*E.size e))) (h.toNat-l.toNat) (cap-l.toNat)):=by
 obtain⟨c,hc1,hc2⟩:=bE.cut ok hl (l:=l.toNat) (h:=h.toNat) (by omega) (by omega)
 have hlen:((xs.take h.toNat).drop l.toNat).length=h.toNat-l.toNat:=by rw[List.length_drop,List.length_take];omega
 have hc3:=bE.aM (Kept.weaken hM) hc1
 rw[←hlen]
 refine Ai σ st' hc3 ?_ (by rw[hlen];omega) (by rw[hlen];omega)
 by_cases he:l.toNat=h.toNat
 ·left
  apply List.eq_nil_of_length_eq_zero
  rw[hlen];omega
 ·right
  rcases hm with rfl|⟨b,off,M0,rfl,hb,hm⟩
  ·simp at h5;omega
  ·rw[if_neg (by omega)]
   simp only[Option.map_some,dS]
   exact Mem.sub hb hm hc2
theorem yC {α:Type} {xs:List α} {l h:Int} {f:List α→Tree (Out E)} {r:Out E} (hg:(EE E xs l h f).get=some r):0≤l∧l≤h∧h≤xs.length∧(f ((xs.take h.toNat).drop l.toNat)).get=some r:=by
 unfold EE at hg
 obtain⟨h1,h2⟩:=fM hg
 simp only[Bool.and_eq_true,decide_eq_true_eq]at h1
 exact⟨h1.1,h1.2.1,h1.2.2,h2⟩
theorem Mv.calm (hst:br E σ st w) {o:Nat} {ob ob':Obj E.T} (ho:aR st o=some ob) (ht:qQ ob ob') (hm:dt ob'=false) (hd:dC ob=false) (hr:cZ E σ (D.dk st o ob') w (MB σ (D.dk st o ob')) (σ o) ob'):
  Mv σ σ st (D.dk st o ob') w w∧ ∀b,k9 (σ o)=some b→ ¬MB σ (D.dk st o ob') b:=by
 refine⟨Mv.dk hst ho ht (fun h=>by rw[hm]at h;cases h) (fun h=> ?_) w rfl rfl rfl rfl (fun _ _=>rfl) hr,fun b hb h=> ?_⟩
 ·cases ht with
  |box=>rfl
  |arr l l' e xs xs'=>cases l'<;>first|rfl|cases hm
  |dead=>rfl
 ·rcases h with h|⟨p,q,hp,hq,hbp⟩
  ·exact hst.out o ob b ho hd hb h
  rw[bF]at hp
  by_cases h':o=p∧p<st.length
  ·rw[if_pos h']at hp;cases hp;rw[hm]at hq;cases hq
  ·rw[if_neg h']at hp
   have hne:p≠o:=fun h=>h' ⟨h.symm,bT hp⟩
   exact hst.apart p o q ob b hne hp ho hq hd hbp hb
theorem UM {b:ByteArray} {l h:Nat} (h1:l≤h) (h2:h≤b.size):(b.extract l h).data.toList=(b.data.toList.take h).drop l:=by
 rw[ByteArray.data_extract,Array.toList_extract,List.extract_eq_take_drop,List.take_drop,show l+(h-l)=h by omega]
theorem PM (S:Sound P E) (hst:br E σ st w) {st':St E.T} {t:TypeId} {x v:az E.T} {lo hi mx:Option (az E.T)} {u:Value} {ulo uhi umx:Option Value} (hx:a8 E σ st w (MB σ st) x u) (hlo:J5 E σ st w (MB σ st) lo ulo) (hhi:J5 E σ st w (MB σ st) hi uhi)
  (hmx:J5 E σ st w (MB σ st) mx umx) (h:(wi E st t x lo hi mx).get=some (v,st')):qD P E σ st w (Instr.sliceAt t u ulo uhi umx) v st':=by
 unfold wi at h
 cases hmx with
 |some d u hd=>cases h
 |none=>
  cases x with
  |val ty xs=>
   cases ty with
   |str=>
    obtain⟨hty,h1⟩:=Tree.aO h
    obtain⟨l,hl,h2⟩:=Tree.aA h1
    obtain⟨hh,hhe,h3⟩:=Tree.aA h2
    rw[Tree.dE]at hl hhe
    obtain⟨c1,c2,c3,h4⟩:=yC h3
    cases h4
    obtain⟨b,rfl,rfl,hb⟩:=tm hx
    have hu:P.underlying t=some .string:=(S.data _ _ (kY hty)).desc
    have hlen:b.data.toList.length=b.size:=Array.length_toList
    rw[hlen]at hhe c3
    refine qD.still hst ⟨.string (b.extract l.toNat hh.toNat),?_,?_⟩
    ·have:=q9 (P:=P) (b:=false) hlo hhi hl hhe (Nat.le_refl _) c1 c2 c3
     simp[Instr.sliceAt,bt hu,Instr.slice,this]
    ·have:=mkStr (E:=E) (σ:=σ) (st:=st) (w:=w) (M:=MB σ st) (b.extract l.toNat hh.toNat) (by simp[ByteArray.size_extract];omega)
     rwa [UM (by omega) (by omega)]at this
   |slice e=>
    obtain⟨hty,h1⟩:=Tree.aO h
    obtain⟨l,hl,h2⟩:=Tree.aA h1
    obtain⟨hh,hhe,h3⟩:=Tree.aA h2
    rw[Tree.dE]at hl hhe
    obtain⟨c1,c2,c3,h4⟩:=yC h3
    cases h4
    obtain⟨a,cap,cs,rfl,hlr,hm,hn,hc⟩:=BK hx
    obtain⟨te,hu,hte⟩:=(S.data _ _ (kY hty)).desc
    refine qD.still hst ⟨_,?_,Cs S.todq (a:=a) (fun _ h=>h) hlr (hm.imp id fun hm=> ?_) hn hc c1 c2 c3⟩
    ·have:=q9 (P:=P) (b:=true) hlo hhi hl hhe hc c1 c2 c3
     simp[Instr.sliceAt,bt hu,Instr.slice,this,ft S hte]
    ·obtain⟨b,off,ha,hb,hlt,hq⟩:=hm
     subst ha
     exact⟨b,off,_,rfl,hb,b,off,rfl,hb,hlt,hq⟩
   |_=>cases h
  |own k=>
   simp only at h
   split at h
   ·rename_i lv e xs hk
    obtain⟨hty,h1⟩:=Tree.aO h
    obtain⟨l,hl,h2⟩:=Tree.aA h1
    obtain⟨hh,hhe,h3⟩:=Tree.aA h2
    rw[Tree.dE]at hl hhe
    obtain⟨c1,c2,c3,h4⟩:=yC h3
    cases h4
    clear h h1 h2 h3
    have hf:freeze E st [k]=dk st k (.arr .bc e xs):=by simp[freeze,hk]
    rw[hf]
    have hu':=vt hx
    subst hu'
    obtain⟨te,hu,hte⟩:=(S.data _ _ (kY hty)).desc
    have hob:=hst.obj k _ hk
    have hbl: ∀b,k9 (σ k)=some b→k9 (σ k)=some b:=fun _ h=>h
    have hr:cZ E σ (dk st k (.arr .bc e xs)) w (MB σ (dk st k (.arr .bc e xs))) (σ k) (.arr .bc e xs):=by
     have:=cZ.aM (σ':=σ) (st':=dk st k (.arr .bc e xs)) (Kept.weaken (M':=MB σ (dk st k (.arr .bc e xs))) (fun b h=>ua hk (fun h=>by cases h) h)) (fun g _=>rfl) (fun j hj=>by simp[cf]at hj) hob
     generalize σ k=s at this
     cases this with
     |arr l e xs v h=>exact .arr .bc e xs s h
    obtain⟨hmv,hnot⟩:=Mv.calm hst hk (.arr lv .bc e xs xs) rfl rfl hr
    generalize hs:σ k=s at*
    cases hob with
    |arr l' e xs v hown=>
     rcases hown.2 with⟨⟨a,rfl⟩,rfl⟩|⟨g,cap,c,el,fr,cs,rfl,hcap,hh',hz,hfz,hlr,hq,hord⟩
     ·refine⟨_,w,σ,?_,hmv,Cs S.todq (M:=MB σ st) (a:=a) (fun b h=>ua hk (fun h=>by cases h) h) (.nil e) (.inl rfl) hown.1 (Nat.le_refl _) c1 c2 c3⟩
      have:=q9 (P:=P) (b:=true) hlo hhi hl hhe (Nat.le_refl _) c1 c2 c3
      simp only[List.length_nil]at this
      simp[Instr.sliceAt,bt hu,Instr.slice,this,ft S hte]
     ·refine⟨_,w,σ,?_,hmv,Cs S.todq (M:=MB σ st) (a:=some ⟨g,0,none⟩) (fun b h=>ua hk (fun h=>by cases h) h) hlr (.inr ⟨g,0,fun _=>False,rfl,hnot g rfl,g,0,rfl,fun h=>h,(Array.getElem?_eq_some_iff.1 hh').1,fun q v hv=> ?_⟩) hown.1 hcap c1 c2 c3⟩
      ·have:=q9 (P:=P) (b:=true) hlo hhi hl hhe hcap c1 c2 c3
       simp[Instr.sliceAt,bt hu,Instr.slice,this,ft S hte]
      ·simp[World.cell?,hh',hq q v hv]
   ·cases h
  |eg ty xs=>
   cases ty with
   |arr n e=>
    obtain⟨hty,h1⟩:=Tree.aO h
    rw[Bool.and_eq_true]at hty
    obtain⟨hty,hnl⟩:=hty
    have hnl:=Nat.le_of_ble_eq_true hnl
    obtain⟨l,hl,h2⟩:=Tree.aA h1
    obtain⟨hh,hhe,h3⟩:=Tree.aA h2
    rw[Tree.dE]at hl hhe
    obtain⟨c1,c2,c3,h4⟩:=yC h3
    cases h4
    cases hx with
    |data t d cs hv=>cases hv
    |eg t y a cs hc hm=>
     cases hc with
     |arr n e xs cs hn hlr=>
      obtain⟨te,hu,hte⟩:=(S.data _ _ (kY hty)).desc
      have hn:List.length xs=n:=hn
      obtain⟨b,off,ha,hb,hlt,hq⟩:=hm
      cases ha
      refine qD.still hst ⟨_,?_,Cs S.todq (a:=some ⟨b,off,none⟩) (fun _ h=>h) hlr (.inr ⟨b,off,_,rfl,hb,b,off,rfl,hb,hlt,hq⟩) (by rw[hn];exact hnl) (cap:=n) (Nat.le_of_eq hn) c1 c2 c3⟩
      have:=q9 (P:=P) (b:=false) hlo hhi hl hhe (Nat.le_refl _) c1 c2 (by rw[hn]at c3;exact c3)
      simp[Instr.sliceAt,Instr.sureAddr,bt hu,this,ft S hte]
      split<;>rfl
   |_=>cases h
  |ptr o p=>
   simp only at h
   split at h
   ·rename_i ro c ho
    obtain⟨v0,hv0,h0⟩:=Tree.aA h
    clear h
    split at h0
    ·rename_i n e xs
     obtain⟨hty,h1⟩:=Tree.aO h0
     rw[Bool.and_eq_true]at hty
     obtain⟨hty,hnl⟩:=hty
     have hnl:=Nat.le_of_ble_eq_true hnl
     obtain⟨l,hl,h2⟩:=Tree.aA h1
     obtain⟨hh,hhe,h3⟩:=Tree.aA h2
     rw[Tree.dE]at hl hhe
     obtain⟨c1,c2,c3,h4⟩:=yC h3
     cases h4
     cases hx with
     |data t' d cs hv=>cases hv
     |ptr o p b hb hlt=>
      obtain⟨te,hu,hte⟩:=(S.data _ _ (kY hty)).desc
      have hob:=hst.obj o _ ho
      have hr:cZ E σ (dk st o (.box true c)) w (MB σ (dk st o (.box true c))) (σ o) (.box true c):=by
       have:=cZ.aM (σ':=σ) (st':=dk st o (.box true c)) (Kept.weaken (M':=MB σ (dk st o (.box true c))) (fun b h=>ua ho (fun h=>by cases h) h)) (fun g _=>rfl) (fun j hj=>xC ho (.box ro true c c) j) hob
       generalize σ o=s at this
       cases this with
       |box ro c b cc el fr h1 h2 h3=>exact .box true c b cc el fr h1 h2 h3
      obtain⟨hmv,hnot⟩:=Mv.calm hst ho (.box ro true c c) rfl rfl hr
      rcases JE S.todq (ob:= .box ro c) hv0 (fun h=>by cases h) hob hb with⟨t',c',hvt,hcell⟩|⟨y,_,hs,_⟩
      ·cases hvt with
       |val _ _ _ hc=>
        cases hc with
        |arr n e xs _ hn hlr=>
         have hn:List.length xs=n:=hn
         refine⟨_,w,σ,?_,hmv,Cs S.todq (M:=MB σ st) (a:=some ⟨b,E.cE p,none⟩) (fun b h=>ua ho (fun h=>by cases h) h) hlr (.inr ⟨b,E.cE p,fun _=>False,rfl,hnot b hb,b,E.cE p,rfl,fun h=>h,lO hst ho rfl hb,fun q v hv=> ?_⟩) (by rw[hn];exact hnl) (cap:=n) (Nat.le_of_eq hn) c1 c2 c3⟩
         ·have:=q9 (P:=P) (b:=false) hlo hhi hl hhe (Nat.le_refl _) c1 c2 (by rw[hn]at c3;exact c3)
          simp[Instr.sliceAt,Instr.sureAddr,bt hu,this,ft S hte]
          split<;>rfl
         ·exact hcell q v hv
      ·cases hs
    ·cases h0
   ·cases h
  |_=>cases h
end
open Go
section
variable {P:Program} {E:Env} {w:World} {σ:Sg} {st:St E.T} {M:Nat→Prop}
theorem Pz (z:Array Value) (n:Nat):(madeCells z (n*z.size)).toList=(List.replicate n z.toList).flatten:=by
 induction n with
 |zero=>simp[madeCells,Array.range_zero']
 |succ n ih=>
  unfold madeCells at ih⊢
  rw[Array.toList_map,Array.toList_range]at ih⊢
  rw[Nat.succ_mul,List.range_add,List.map_append,ih,List.replicate_succ',List.flatten_append]
  congr 1
  simp only[List.flatten_cons,List.flatten_nil,List.append_nil,List.map_map]
  apply List.ext_getElem?
  intro i
  rw[List.getElem?_map,Array.getElem?_toList (xs:=z)]
  rcases Nat.lt_or_ge i z.size with h|h
  ·rw[List.getElem?_range h,Option.map_some,Function.comp_apply,Nat.mul_add_mod_of_lt' h,getElem!_pos z i h,Array.getElem?_eq_getElem h]
  ·rw[List.getElem?_eq_none (by simpa using h),Array.getElem?_eq_none h];rfl
where
 Nat.mul_add_mod_of_lt' {n m i:Nat} (h:i<m):(n*m+i)%m=i:=by rw[Nat.mul_comm,Nat.mul_add_mod,Nat.mod_eq_of_lt h]
theorem KX (ok:dq E) {e:Ty} {x:I E.T e} {c:List Value} (h:cF E w M e x c) (n:Nat):bE E w M e (List.replicate n x) (madeCells c.toArray (n*E.size e)).toList:=by
 have hs:E.size e=c.toArray.size:=by simpa using (cF.len ok h).symm
 rw[hs,Pz]
 exact bE.replicate h n
theorem mD {c:Array Value} {el:TypeId} (q:Nat):(w.alloc (.cells c el)).frozen? ⟨w.heap.size,q,none⟩=false:=by
 unfold World.frozen?
 simp only[heap_alloc_new w (.cells c el)]
 simp
theorem zU (S:Sound P E) (hst:br E σ st w) {dr:Bool} {st':St E.T} {t:TypeId} {l c v:az E.T} {ul uc:Value} (hl:a8 E σ st w (MB σ st) l ul) (hc:a8 E σ st w (MB σ st) c uc) (h:(er E dr st t l c).get=some (v,st')):
  qD P E σ st w (Instr.makeSlice t ul uc) v st':=by
 unfold er at h
 split at h
 ·rename_i e k a k' b ht
  obtain⟨h1,h2⟩:=fM h
  simp only[Bool.and_eq_true,decide_eq_true_eq]at h1
  obtain⟨z,hz,h3⟩:=Tree.aA h2
  rw[Tree.dE]at hz
  have:=jg hl;subst this
  have:=jg hc;subst this
  obtain⟨te,hu,hte⟩:=(S.data _ _ ht).desc
  obtain⟨i,hi,hs,hby,hzero⟩:=(S.data _ _ hte).info
  generalize toI k a=n at*
  generalize toI k' b=n' at*
  obtain⟨h0,rfl,hlim⟩:=h1
  have hb:(i.bytes:Int)*n≤281474976710656:=by
   have h8:(i.bytes:Int)≤8192:=by omega
   have h9:n≤2147483648:=hlim
   have:=Int.mul_le_mul h8 h9 h0 (by omega)
   omega
  have hrun:=run_make (P:=P) w t te i _ hu hi hzero k k' n n h0 (Int.le_refl _) hb (by have:n≤2147483648:=hlim;omega)
  have hzc:=iU S hte hst
  rw[hzc,hs]at hrun
  have hcz:=rb (w:=w) (M:=MB σ st) S.todq depth e z hz
  have hlr:=KX S.todq hcz n.toNat
  have hll:(List.replicate n.toNat z).length=n.toNat:=List.length_replicate
  cases dr with
  |true=>
   cases h3
   have hm:=Mv.grow hst (.cells (madeCells (dY E depth e).toArray (n.toNat*E.size e)) te)
   refine⟨_,_,σ,hrun,hm,?_⟩
   have:=Ai σ st (a:=some ⟨w.heap.size,0,none⟩) (cap:=n.toNat) (bE.aM hm.aM.kept hlr) (.inr (Rd (heap_alloc_new w (.cells (madeCells (dY E depth e).toArray (n.toNat*E.size e)) te)) (fun h=>Nat.lt_irrefl _ (Eu hst h)) (fun q v hv=>by rw[←Array.getElem?_toList];exact hv))) (by rw[hll];omega) (by rw[hll];exact Nat.le_refl _)
   rw[hll]at this
   exact this
  |false=>
   cases h3
   have hm:=Mv.grow hst (.cells (madeCells (dY E depth e).toArray (n.toNat*E.size e)) te)
   refine⟨_,_,_,hrun,Mv.push hst _ (.slice (some ⟨w.heap.size,0,none⟩) n.toNat n.toNat) _ (fun g hg=>j5 hg) ?_,BZ⟩
   refine .arr .live _ _ _ (gz.mk' E _ _ (by rw[hll];omega) (by rw[hll];exact Nat.le_refl _) (heap_alloc_new w (.cells (madeCells (dY E depth e).toArray (n.toNat*E.size e)) te)) (by rw[size_madeCells];exact Nat.le_refl _) (fun q _=>mD q) ?_ (fun q v hv=>by rw[←Array.getElem?_toList];exact hv) hll.symm)
   refine bE.aM ⟨?_,?_,?_⟩ hlr
   ·exact hm.aM.size
   ·exact hm.aM.kept.block
   ·intro b hb hM
    rcases E5 hM with h|h
    ·exact h
    ·have:=j5 h;omega
 ·cases h
end
open Go
structure afG (P:Program) (i:TypeInfo) (z:Value) (tx:TypeId) (x:Value) (n:Nat) (news:List Value):Prop where
 kind: ∃k,P.underlying tx=some (.int k)
 val: ∃k,x= .int k (n:Int)
 bnd:n≤2147483648
 bytes:i.bytes≤8192
 zero:i.zero=some z
 V9:z.cells.size=i.size
 made:(Builtin.zeroCells z.cells n)=news.toArray
 one: ∀u∈news,kU u=true
inductive EG (P:Program) (i:TypeInfo) (z:Value) (tx:TypeId) (x:Value) (n:Nat) (news:List Value) (w:World):Prop where
 |src (h:Src P i.size tx x n news w)
 |zero (h:afG P i z tx x n news)
section
variable {P:Program} {w:World} {i:TypeInfo} {z:Value} {tx:TypeId} {x:Value} {n:Nat} {news:List Value}
theorem Jc (v:Value):kU v=v.oneCell':=by cases v<;>rfl
theorem EG.len (h:EG P i z tx x n news w):news.length=n*i.size:=by
 cases h with
 |src h=>exact h.newsLen
 |zero h=>
  have:=congrArg Array.size h.made
  rw[size_zeroCells,h.V9]at this
  simpa using this.symm
theorem EG.one (h:EG P i z tx x n news w): ∀u∈news,kU u=true:=by
 cases h with
 |src h=>intro u hu;rw[Jc];exact h.one u hu
 |zero h=>exact h.one
theorem Mb (t ty e:TypeId) (ht:P.underlying t=some (.slice e)) (hi:P.info? e=some i) {b off sLen sCap:Nat} {c:Array Value} {el:TypeId} {fr:Nat×Nat} (hs:EG P i z tx x n news w)
  (hroom:sLen+n≤sCap) (hh:w.heap[b]? =some (.cells c el fr)) (hl:off+sLen*i.size+news.length≤c.size) (hf: ∀q,off+sLen*i.size≤q→q<off+sLen*i.size+news.length→w.frozen? ⟨b,q,none⟩=false):
  (Builtin.append_ #[t,tx] ty #[.slice (some ⟨b,off,none⟩) sLen sCap,x]).run P w= .ok (.slice (some ⟨b,off,none⟩) (sLen+n) sCap) (iL w b (.cells (qq c (off+sLen*i.size) news) el fr)):=by
 have hst:=nt P b (off+sLen*i.size) el fr news 0 w c hh (by simpa using hl) hs.one (by simpa using hf)
 simp only[Nat.add_zero]at hst
 cases hs with
 |src hs=>rcases hs.kind with⟨e',hk⟩|hk<;>simp[Builtin.append_,run_underlying ht,run_underlying hk,sizeOf,typeInfo,hi,hs.len,hroom,hs.cells,dS,hst]
 |zero hs=>
  obtain⟨k,hk⟩:=hs.kind
  obtain⟨k',rfl⟩:=hs.val
  have hb:=hs.bnd
  have hby:=hs.bytes
  have hwr:IntKind.i64.wrap (n:Int)=n:=by rw[IntKind.wrap_i64];omega
  have hneg: ¬((n:Int)<0):=by omega
  have hbig: ¬(281474976710656<(n:Int)*(i.bytes:Int)):=by
   rw[←Int.natCast_mul]
   have:=Nat.mul_le_mul hb hby
   omega
  by_cases hz0:n*i.size=0
  ·have hnl:news=[]:=List.eq_nil_of_length_eq_zero (by rw[EG.len (w:=w) (.zero hs),hz0])
   subst hnl
   have hst:(storeCells ⟨b,off+sLen*i.size,none⟩ [] 0).run P w= .ok () (iL w b (.cells (qq c (off+sLen*i.size) []) el fr)):=hst
   simp[Builtin.append_,run_underlying ht,run_underlying hk,sizeOf,typeInfo,zeroValue,hi,hs.zero,asInt,asIntOf,hwr,hneg,hbig,hroom,hz0,dS,hst]
  ·simp[Builtin.append_,run_underlying ht,run_underlying hk,sizeOf,typeInfo,zeroValue,hi,hs.zero,asInt,asIntOf,hwr,hneg,hbig,hroom,hz0,hs.made,dS,hst]
theorem Mc (t ty e:TypeId) (ht:P.underlying t=some (.slice e)) (hi:P.info? e=some i) (base:Option Addr) {sLen sCap:Nat} (hle:sLen≤sCap) (hs:EG P i z tx x 0 [] w):
  (Builtin.append_ #[t,tx] ty #[.slice base sLen sCap,x]).run P w= .ok (.slice base sLen sCap) w:=by
 cases hs with
 |src hs=>exact run_append_nothing w t tx ty e i ht hi base sLen sCap hle x hs
 |zero hs=>
  obtain⟨k,hk⟩:=hs.kind
  obtain⟨k',rfl⟩:=hs.val
  have hwr:IntKind.i64.wrap 0=0:=by rw[IntKind.wrap_i64];rfl
  cases base<;>simp[Builtin.append_,run_underlying ht,run_underlying hk,sizeOf,typeInfo,hi,asInt,asIntOf,hwr,hle,storeCells]
theorem yR (t ty e:TypeId) (ht:P.underlying t=some (.slice e)) (hi:P.info? e=some i) (hz:i.zero=some z) (hby:i.bytes≤8192) (base:Option Addr) {sLen sCap:Nat} {olds:List Value}
  (hold:(Builtin.firstCells i.size sLen (.slice base sLen sCap)).run P w.drew= .ok olds.toArray w.drew) (hs:EG P i z tx x n news w)
  (hg:sCap<sLen+n) (hlim:sLen+n≤2147483648):
  (Builtin.append_ #[t,tx] ty #[.slice base sLen sCap,x]).run P w=
   .ok (.slice (some ⟨w.heap.size,0,none⟩) (sLen+n) (grownCap w (sLen+n) sCap e))
    (w.drew.alloc (.cells ((olds++news).toArray++Builtin.zeroCells z.cells (grownCap w (sLen+n) sCap e-(sLen+n))) e)):=by
 have hfit:Builtin.nextslicecap (sLen+n) sCap*i.bytes≤281474976710656:=growslice_fits hg (by
  have:=Nat.mul_le_mul hlim hby
  omega)
 cases hs with
 |src hs=>exact run_append_grow_src w t tx ty e i z ht hi hz base sLen sCap olds hold x n news hs hg (by omega) hfit
 |zero hs=>
  obtain⟨k,hk⟩:=hs.kind
  obtain⟨k',rfl⟩:=hs.val
  have hb:=hs.bnd
  have hwr:IntKind.i64.wrap (n:Int)=n:=by rw[IntKind.wrap_i64];omega
  have hneg: ¬((n:Int)<0):=by omega
  have hbig: ¬(281474976710656<(n:Int)*(i.bytes:Int)):=by
   rw[←Int.natCast_mul]
   have:=Nat.mul_le_mul hb hby
   omega
  have hn: ¬(sLen+n≤sCap):=by omega
  have h63': ¬(9223372036854775807<((sLen:Int)+(n:Int))):=by omega
  have h48': ¬(281474976710656<Builtin.nextslicecap (sLen+n) sCap*i.bytes):=by omega
  by_cases hz0:n*i.size=0
  ·have hnl:news=[]:=List.eq_nil_of_length_eq_zero (by rw[EG.len (w:=w) (.zero hs),hz0])
   subst hnl
   simp[Builtin.append_,run_underlying ht,run_underlying hk,sizeOf,typeInfo,zeroValue,hi,hz,asInt,asIntOf,hwr,hneg,hbig,hn,h63',h48',Question.forced,hold,newRow,grownCap,hz0]
  ·simp[Builtin.append_,run_underlying ht,run_underlying hk,sizeOf,typeInfo,zeroValue,hi,hz,asInt,asIntOf,hwr,hneg,hbig,hn,h63',h48',Question.forced,hold,newRow,grownCap,hz0,hs.made]
   congr 2
   apply Array.ext'
   simp[List.append_assoc]
end
open Go
section
variable {P:Program} {E:Env} {w:World} {σ:Sg} {st:St E.T} {M:Nat→Prop}
theorem M8 (S:Sound P E) {t:TypeId} (h:yl E t=true): ∃e,P.underlying t=some (.slice e):=by
 unfold yl at h
 split at h
 ·rename_i e ht
  obtain⟨te,hu,_⟩:=(S.data _ _ ht).desc
  exact⟨te,hu⟩
 ·cases h
theorem O5 (ok:dq E) (hst:br E σ st w) {tx te:TypeId} (hk:P.underlying tx=some (.slice te)) {e:Ty} {x:az E.T} {u:Value} {ys:List (I E.T e)} (h:elems E st e x=some ys) (hx:a8 E σ st w (MB σ st) x u):
  ∃cs,bE E w (MB σ st) e ys cs∧Src P (E.size e) tx u ys.length cs w:=by
 obtain⟨a,cap,cs,rfl,hl,hm,_,_⟩:=PL ok hst h hx
 refine⟨cs,hl,?_⟩
 have h1: ∀u∈cs,u.oneCell'=true:=fun u hu=>by rw[←Jc];exact bE.one hl u hu
 have hlen:=bE.len ok hl
 cases a with
 |none=>
  rcases hm with rfl|⟨b,off,ha,_⟩
  ·cases hl
   exact Src.ofNil w hk cap
  ·cases ha
 |some a=>
  refine Src.ofSlice w hk a ys.length cap cs hlen (fun j v hv=> ?_) h1
  rcases hm with rfl|⟨b,off,ha,_,_,hq⟩
  ·cases hl;cases hv
  ·cases ha
   rw[dS];exact hq j v hv
theorem yQ (S:Sound P E) (hst:br E σ st w) {tx te:TypeId} {i:TypeInfo} {e:Ty} (hte:E.tk te= .data e) (hi:P.info? te=some i) {x:az E.T} {u:Value} {k:List (I E.T e)→Tree (Out E)} {r:Out E} (h:(appended E st tx e x k).get=some r) (hx:a8 E σ st w (MB σ st) x u):
  ∃ys cs,(k ys).get=some r∧bE E w (MB σ st) e ys cs∧EG P i (toV e (dY E depth e)) tx u ys.length cs w:=by
 obtain⟨i',hi',hs,hby,hz⟩:=(S.data _ _ hte).info
 rw[hi]at hi';cases hi'
 have hels: ∀{x:az E.T},a8 E σ st w (MB σ st) x u→(Tree.cV (yl E tx) ((Tree.e9 (elems E st e x)).bind k)).get=some r→ ∃ys cs,(k ys).get=some r∧bE E w (MB σ st) e ys cs∧EG P i (toV e (dY E depth e)) tx u ys.length cs w:=by
  intro x hx h
  obtain⟨h1,h2⟩:=Tree.aO h
  obtain⟨ys,hys,h3⟩:=Tree.aA h2
  rw[Tree.dE]at hys
  obtain⟨e',hk⟩:=M8 S h1
  obtain⟨cs,hl,hsrc⟩:=O5 S.todq hst hk hys hx
  exact⟨ys,cs,h3,hl,.src (by rw[hs];exact hsrc)⟩
 unfold appended at h
 split at h
 ·rename_i ki a
  obtain⟨h1,h2⟩:=Tree.aO h
  obtain⟨h3,h4⟩:=fM h2
  obtain⟨z,hz',h5⟩:=Tree.aA h4
  rw[Tree.dE]at hz'
  simp only[Bool.and_eq_true,decide_eq_true_eq]at h3
  have:=jg hx;subst this
  generalize toI ki a=n at*
  have hcz:=rb (w:=w) (M:=MB σ st) S.todq depth e z hz'
  have hzc:=iU S hte hst
  have hlr:=KX S.todq hcz n.toNat
  refine⟨_,_,h5,hlr,.zero ⟨?_,⟨ki,by rw[List.length_replicate,Int.toNat_of_nonneg h3.1]⟩,by rw[List.length_replicate];have:n≤2147483648:=h3.2;omega,hby,hz,by rw[hzc,hs];simpa using cF.len S.todq hcz,?_,bE.one hlr⟩⟩
  ·unfold isNum at h1
   split at h1
   ·rename_i k' hk'
    exact⟨k',(S.data _ _ hk').desc⟩
   ·cases h1
  ·rw[List.length_replicate,hzc]
   have hsz:(dY E depth e).length=E.size e:=cF.len S.todq hcz
   unfold Builtin.zeroCells madeCells
   simp[hsz]
   apply Array.ext'
   simp
 ·rename_i s
  obtain⟨h1,h2⟩:=Tree.aO h
  split at h2
  ·rename_i p _
   cases p with|up p=>
   cases p
   obtain⟨b,rfl,rfl,hb⟩:=tm hx
   have hu:P.underlying tx=some .string:=(S.data _ _ (kY h1)).desc
   refine⟨_,_,h2,bE.xQ _,.src ?_⟩
   have:=Src.ofString (P:=P) w hu b
   rw[hs]
   exact this
  ·cases h2
 ·exact hels hx h
theorem zf (S:Sound P E) {te:TypeId} {e:Ty} (hte:E.tk te= .data e) (hst:br E σ st w) {w':World} {M':Nat→Prop} {g cap:Nat} {xs:List (I E.T e)} {cs:List Value} {el:TypeId} {fr:Nat×Nat} (hl:bE E w' M' e xs cs) (hn:xs.length≤dy) (hc:xs.length≤cap)
  (hh:w'.heap[g]? =some (.cells (cs.toArray++Builtin.zeroCells (toV e (dY E depth e)).cells (cap-xs.length)) el fr)) (hf: ∀q,w'.frozen? ⟨g,q,none⟩=false) {n:Nat} (hnx:n=xs.length) (ho:fr.1≤fr.2:=by exact Nat.le_refl _):
  gz E w' M' e xs (.slice (some ⟨g,0,none⟩) n cap):=by
 have hz:=iU S hte hst
 have hdeep:=(S.data _ _ hte).deep
 have hzs:(dY E depth e).length=E.size e:=VT.len S.todq (nb (σ:=σ) (st:=st) (w:=w) (M:=MB σ st) S.todq depth e hdeep)
 refine gz.mk' E _ _ hn hc hh ?_ (fun q _=>hf q) hl (fun q u hq=> ?_) hnx
 ·rw[Array.size_append,size_zeroCells,hz,List.size_toArray,List.size_toArray,bE.len S.todq hl,hzs,←Nat.add_mul]
  exact Nat.mul_le_mul_right _ (by omega)
 ·rw[Array.getElem?_append_left (by simpa using (List.getElem?_eq_some_iff.1 hq).1)]
  simpa using hq
theorem JO (S:Sound P E) (hst:br E σ st w) {st':St E.T} {t tx ty:TypeId} {x v:az E.T} {us u:Value} (hs:a8 E σ st w (MB σ st) .bm us) (hx:a8 E σ st w (MB σ st) x u) (h:(nU E st t tx .bm x).get=some (v,st')):
  qD P E σ st w (Builtin.append_ #[t,tx] ty #[us,u]) v st':=by
 simp only[nU]at h
 split at h
 ·rename_i e ht
  obtain⟨te,hu,hte⟩:=(S.data _ _ ht).desc
  obtain⟨i,hi,hsz,hby,hz⟩:=(S.data _ _ hte).info
  obtain⟨ys,cs,h1,hl,hsrc⟩:=yQ S hst hte hi h hx
  obtain⟨h2,h3⟩:=fM h1
  rw[decide_eq_true_eq]at h2
  cases h3
  obtain⟨a,rfl⟩:=Jf hs
  by_cases h0:ys.length=0
  ·have hy:ys=[]:=List.eq_nil_of_length_eq_zero h0
   subst hy
   cases hl
   have hrun:=Mc (P:=P) t ty te hu hi a (Nat.le_refl 0) hsrc
   have m:=Mv.KF hst (.slice a 0 0) (.arr .live e []) (E2 a) (fun σ' st' w' M'=> .arr .live e [] _ ⟨Nat.zero_le _,.inl ⟨⟨a,rfl⟩,rfl⟩⟩)
   exact⟨_,_,_,hrun,m,BZ⟩
  ·have hrun:=yR (P:=P) t ty te hu hi hz hby a (sLen:=0) (sCap:=0) (olds:=[]) (by
    have:(Builtin.firstCells i.size 0 (.slice a 0 0)).run P w.drew= .ok #[] w.drew:=by
     cases a<;>simp[Builtin.firstCells,loadCells,loadCellsFrom]
    exact this) hsrc (by omega) (by rw[Nat.zero_add];exact h2)
   simp only[Nat.zero_add,List.nil_append]at hrun
   have hge:=uF w ys.length 0 te
   generalize grownCap w ys.length 0 te=cap at*
   have m1:=Mv.drawn hst (w.drawn+1)
   have m2:=Mv.push m1.rep (.cells (cs.toArray++Builtin.zeroCells (toV e (dY E depth e)).cells (cap-ys.length)) te) (.slice (some ⟨w.heap.size,0,none⟩) ys.length cap) (.arr .live e ys) (fun g hg=>j5 hg) (by
    refine .arr .live _ _ _ (zf S hte hst (bE.aM (M:=MB σ st) (w:=w) ⟨?_,?_,?_⟩ hl) h2 hge (heap_alloc_new w.drew _) (fun q=>mD (w:=w.drew) q) rfl)
    ·simp
    ·intro b hb _
     show(w.heap.push _)[b]? =w.heap[b]?
     simp[Array.getElem?_push,Nat.ne_of_lt hb]
    ·intro b hb hM
     rcases E5 hM with h|h
     ·exact h
     ·have:=j5 h;omega)
   exact⟨_,_,_,hrun,m1.trans m2,BZ⟩
 ·cases h
end
end Go.Proofs.YtlejgahbbfeagaaGreatDoor.D

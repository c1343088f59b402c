/- Loads and stores. Operations that leave the objects as they are. Equality, arithmetic, texts. Arithmetic, texts, conversions. Operations that make objects or change them: conversions, cuts, literals, make. Zero values, literals, make, append, cuts. Literals, make, append, cuts, new variables. Literals of rows, make, cuts. Cuts, make. Make, append. Append: what the machine does, whatever is appended. Append: what the evaluator says of it. -/
import Derived.Test.YtlejgahbbfeagaaGreatDoorBase1
import Derived.Laws.BytesArg
import Derived.Laws.StructEq
import Derived.ChangeKeysEq
import Derived.Laws.IdiomStrings
import Derived.Deep.AppendSrc
import Derived.Laws.MakeOwn
import Derived.Laws.Slices
import Derived.Deep.Upon
set_option linter.unusedVariables false
set_option linter.unusedSimpArgs false
namespace Go.Proofs.YtlejgahbbfeagaaGreatDoor.D
open Go
section
variable {P:Program} {E:Env} {w:World} {σ:Sg} {st:St E.T} {M:Nat→Prop}
theorem toV_cells {ty:Ty} {cs:List Value} (h1: ∀v∈cs,kV v=true) (hs:dU ty=false→cs.length=1):(toV ty cs).cells=cs.toArray:=by
 unfold toV
 cases ha:dU ty with
 |true=>rfl
 |false=>
  obtain⟨v,rfl⟩:=List.length_eq_one_iff.1 (hs ha)
  have:=h1 v (by simp)
  cases v<;>first|(simp[kV]at this;done)|rfl
theorem IZ (ok:dk E) {ob:Obj E.T} {p:List Step} {v:az E.T} {b:Nat} {u:Value} (h:(BP E ob p).get=some v) (hn:v≠ .undef) (hv:cW E σ st w M u ob) (hb:lf u=some b):
  (∃t c,VT E σ st w M t v c∧ ∀q x,c[q]? =some x→w.cell? ⟨b,E.cw p+q,none⟩=some x)∨
   (∃x,p=[]∧single E v=true∧aZ E σ st w M v x∧w.cell? ⟨b,0,none⟩=some x):=by
 cases hv with
 |box ro d b' c el fr hh hf hc=>
  simp only[lf,Option.some.injEq]at hb
  subst hb
  simp only[BP]at h
  have hcell: ∀(q:Nat) (x:Value),c[q]? =some x→w.cell? ⟨b',q,none⟩=some x:=fun q x hq=>by simp[World.cell?,hh,hq]
  rcases hc with⟨t,ht⟩|⟨hs,x,hx,ho,hr⟩
  ·obtain⟨t',c',l,r,h1,h2,h3⟩:=yK ok p h ht hn
   refine .inl ⟨t',c',h1,fun q x hq=>hcell _ _ ?_⟩
   rw[←Array.getElem?_toList,h2,List.append_assoc,List.getElem?_append_right (by omega),h3,Nat.add_sub_cancel_left,List.getElem?_append_left (List.getElem?_eq_some_iff.1 hq).1]
   exact hq
  ·cases p with
   |nil=>
    cases h
    exact .inr ⟨x,rfl,Oe hs hn,hr,hcell 0 x (by rw[←Array.getElem?_toList,hx];rfl)⟩
   |cons s p=>
    exfalso
    cases s with
    |td i j=>
     simp only[rU]at h
     have:mH E i j d= .undef:=by cases d<;>first|rfl|cases hs
     rw[this]at h
     exact hn (yK.getP_undef p h)
    |idx e n=>cases d<;>first|(cases hs;done)|(cases h;done)
 |arr l e xs v hr=>
  cases p with
  |nil=>cases h
  |cons s p=>
   cases s with
   |td i j=>cases h
   |idx e' n=>
    simp only[BP]at h
    obtain⟨he,h⟩:=Tree.aO h
    have:=dN he;subst this
    simp only[Tree.get]at h
    obtain⟨x,hx,h⟩:=Option.bind_eq_some_iff.1 h
    rcases hr.2 with⟨⟨a,rfl⟩,_⟩|⟨g,cap,c,el,fr,cs,rfl,hc,hh,hz,hf,hl,hq,ho⟩
    ·rw[Ey]at hb;cases hb
    ·simp only[lf,Option.some.injEq]at hb
     subst hb
     obtain⟨c1,l1,r1,h1,rfl,h3,_⟩:=bD.split ok hl n x hx
     obtain⟨t',c',l',r',h5,rfl,h6⟩:=yK (σ:=σ) (st:=st) ok p h (.val e' x c1 h1) hn
     refine .inl ⟨t',c',h5,fun q y hy=> ?_⟩
     have:c[E.cw (.idx e' n::p)+q]? =some y:=by
      refine hq _ y ?_
      have hlt:=(List.getElem?_eq_some_iff.1 hy).1
      rw[show l1++(l'++c'++r')++r1=(l1++l')++(c'++(r'++r1))by simp,List.getElem?_append_right (by simp[Env.cw,Env.iW];omega),
       List.getElem?_append_left (by simp[Env.cw,Env.iW];omega)]
      rw[show E.cw (.idx e' n::p)+q-(l1++l').length=q by simp[Env.cw,Env.iW];omega]
      exact hy
     simp[World.cell?,hh,this]
 |dead v=>cases h
theorem Dr {t:TypeId} {v:az E.T} (hf:fits E st t v=true) (hs:single E v=true):E.tk t= .ptr∨E.tk t= .func∨E.tk t= .iface:=by
 unfold fits at hf
 cases ht:E.tk t with
 |data ty=>rw[ht]at hf;cases v<;>first|(cases hs;done)|(cases hf;done)
 |ptr=>exact .inl rfl
 |func=>exact .inr (.inl rfl)
 |iface=>exact .inr (.inr rfl)
 |other=>rw[ht]at hf;cases hf
theorem CS {t:TypeId} {v:az E.T} (hf:fits E st t v=true):(∃ty,E.tk t= .data ty)∨single E v=true:=by
 unfold fits at hf
 cases ht:E.tk t with
 |data ty=>exact .inl ⟨ty,rfl⟩
 |ptr=>rw[ht]at hf;exact .inr hf
 |func=>rw[ht]at hf;exact .inr hf
 |iface=>rw[ht]at hf;exact .inr hf
 |other=>rw[ht]at hf;cases hf
theorem OF {t:TypeId} {v:az E.T} (hf:fits E st t v=true):v≠ .undef:=by
 rintro rfl
 unfold fits at hf
 cases ht:E.tk t<;>rw[ht]at hf<;>cases hf
theorem KR (S:Sound P E) (hst:bm E σ st w) {t:TypeId} {x v:az E.T} {u:Value} (h:(xY E st t x).get=some v) (hx:aZ E σ st w (MB σ st) x u):
  ∃y,(Instr.loadAt t u).run P w= .ok y w∧aZ E σ st w (MB σ st) v y:=by
 cases x with
 |ptr o p=>
  simp only[xY]at h
  split at h
  ·rename_i ob hob
   obtain⟨v',h1,h2⟩:=Tree.aB h
   obtain⟨hf,h3⟩:=Tree.aO h2
   cases h3
   cases hx with
   |data t' d cs hv=>cases hv
   |ptr o p b hb hlt=>
    have hr:=hst.obj o ob hob
    have hun:=OF hf
    rcases IZ S.todk h1 hun hr hb with⟨t',c,hv,hc⟩|⟨y,rfl,hs,hv,hc⟩
    ·rcases CS hf with⟨ty,ht⟩|hs
     ·have hfd:qg E st ty v=true:=by unfold fits at hf;rw[ht]at hf;exact hf
      have hv':=rE hv hfd
      refine⟨toV ty c,?_,.data ty v c hv'⟩
      have:=tK S ht b (E.cw p) c (VT.len S.todk hv') hc nh
      simp[Instr.loadAt,Instr.sureAddr,this]
     ·exfalso;cases hv<;>cases hs
    ·have hk:=Dr hf hs
     refine⟨y,?_,hv⟩
     have hag:=Cq S hk w
     simp[Instr.loadAt,Instr.sureAddr,loadVar,hag,Env.cw,run_load,hc]
  ·cases h
 |dZ t' y=>
  simp only[xY]at h
  split at h
  ·rename_i ty ht
   obtain⟨he,h2⟩:=Tree.aO h
   cases h2
   have:=dN he;subst this
   cases hx with
   |data t'' d cs hv=>cases hv
   |dZ t'' y a cs hc hm=>
    obtain⟨b,off,ha,hb,hlt,hq⟩:=hm
    cases ha
    refine⟨toV t' cs,?_,.data t' _ cs (.val t' y cs hc)⟩
    have:=tK S ht b off cs (cx.len S.todk hc) hq nh
    simp[Instr.loadAt,Instr.sureAddr,this]
  ·cases h
 |_=>cases h
theorem uO (s s':Step) (p:List Step):qo E (s::s'::p)=qo E (s'::p):=by cases s<;>rfl
theorem Eh (ok:dk E) {okf:az E.T→Bool} {v:az E.T} {ty:Ty} {cv:List Value} (hv:VT E σ st w M ty v cv): ∀(p:List Step) {d d':az E.T} {t:Ty} {cs:List Value},p≠[]→
  qo E p=some ty→(uA E okf v p d).get=some d'→VT E σ st w M t d cs→ ∃l c r,cs=l++c++r∧l.length=E.cw p∧c.length=cv.length∧VT E σ st w M t d' (l++cv++r)
 |[],_,_,_,_,hne,_,_,_=>absurd rfl hne
 | .td i j::p,d,d',t,cs,_,hp,h,hd=>by
  simp only[uA]at h
  split at h
  ·rename_i i' fs he
   obtain⟨hb,h⟩:=Tree.aO h
   rw[Bool.and_eq_true]at hb
   have hi:=Nat.eq_of_beq_eq_true hb.1;subst hi
   have hj:j<fs.length:=by have:=hb.2;rw[Nat.blt_eq]at this;exact this
   obtain⟨rfl,hs⟩:=Au hd he
   obtain⟨t1,c1,l1,r1,h1,h2,rfl,h4,h5⟩:=iw.at ok hs j _ (nu (d:= .undef) hj)
   obtain⟨d1,h6,h7⟩:=Tree.aB h
   cases h7
   cases p with
   |nil=>
    simp only[uA]at h6
    obtain⟨_,h6⟩:=Tree.aO h6
    cases h6
    simp only[qo]at hp
    rw[h1]at hp;cases hp
    exact⟨l1,c1,r1,rfl,by simp[Env.cw,Env.iW,Env.qu,h4],by rw[VT.len ok h2,VT.len ok hv],.agg i _ _ (h5 v cv hv)⟩
   |cons s p=>
    rw[uO]at hp
    obtain⟨l,c,r,rfl,hl,hc,hvt⟩:=Eh ok hv (s::p) (by simp) hp h6 h2
    refine⟨l1++l,c,r++r1,by simp,by simp[Env.cw,Env.iW,Env.qu,h4,hl],hc,?_⟩
    have:=VT.agg i _ _ (h5 d1 _ hvt)
    simpa using this
  ·cases h
 | .idx e n::p,d,d',t,cs,_,hp,h,hd=>by
  cases hd with
  |val t x cs hc=>
   cases hc with
   |arr m e' xs cs hm hl=>
    simp only[uA]at h
    obtain⟨he,h⟩:=Tree.aO h
    have:=dN he;subst this
    simp only[Tree.get]at h
    obtain⟨x,hx,h⟩:=Option.bind_eq_some_iff.1 h
    obtain⟨d1,h6,h7⟩:=Tree.aB h
    obtain⟨y,h8,h9⟩:=Tree.aB h7
    rw[Tree.dB]at h8
    cases h9
    obtain⟨c1,l1,r1,h1,rfl,h3,h4⟩:=bD.split ok hl n x hx
    cases p with
    |nil=>
     simp only[uA]at h6
     obtain⟨_,h6⟩:=Tree.aO h6
     cases h6
     simp only[qo,Option.some.injEq]at hp
     subst hp
     have hy:=toData_nil ok depth h8 hv
     refine⟨l1,c1,r1,rfl,by simp[Env.cw,Env.iW,h3],by rw[cx.len ok h1,cx.len ok hy],.val _ _ _ (.arr m e _ _ (by simp[hm]) (h4 y cv hy))⟩
    |cons s p=>
     rw[uO]at hp
     obtain⟨l,c,r,rfl,hl',hc',hvt⟩:=Eh ok hv (s::p) (by simp) hp h6 (.val e x c1 h1)
     have hy:=toData_nil ok depth h8 hvt
     refine⟨l1++l,c,r++r1,by simp,by simp[Env.cw,Env.iW,h3,hl'],hc',?_⟩
     have:=VT.val (σ:=σ) (st:=st) _ _ _ (.arr m e _ _ (by simp[hm]) (h4 y _ hy))
     simpa using this
   |bool b=>cases h
   |int k x=>cases h
   |str s hs=>cases h
   |slice e xs a cap cs hl hm hn' hc=>cases h
   |named i x cs hf=>cases h
  |bj e a=>cases h
  |own k l e xs hk=>cases h
  |dA e v hs=>cases h
  |agg i fs cs hs=>cases h
theorem Eg {c:Array Value} {l m r vs:List Value} (h:c.toList=l++m++r) (hl:m.length=vs.length):(qa c l.length vs).toList=l++vs++r:=by
 have hsz:c.size=l.length+m.length+r.length:=by rw[←Array.length_toList,h];simp;omega
 apply List.ext_getElem?
 intro q
 rw[Array.getElem?_toList,qk _ _ _ _ (by omega)]
 by_cases h1:l.length≤q∧q<l.length+vs.length
 ·rw[if_pos h1,List.append_assoc,List.getElem?_append_right h1.1,List.getElem?_append_left (by omega)]
 ·rw[if_neg h1,←Array.getElem?_toList,h]
  rcases Nat.lt_or_ge q l.length with h2|h2
  ·rw[List.append_assoc,List.getElem?_append_left h2,List.append_assoc,List.getElem?_append_left h2]
  ·rw[List.append_assoc,List.getElem?_append_right h2,List.getElem?_append_right (by omega),List.append_assoc,List.getElem?_append_right h2,List.getElem?_append_right (by omega),hl]
theorem ES {v:az E.T} {u:Value} (hs:single E v=true) (h:aZ E σ st w M v u):kV u=true:=by
 cases h with
 |data t d cs h=>cases h<;>cases hs
 |undef v=>cases hs
 |ptr o p b h hl=>rfl
 |cM=>rfl
 |dZ t x a cs h hm=>rfl
 |jk vs us h=>cases hs
 |fn f vs us h=>rfl
 |ea=>rfl
 |fG t d v h=>rfl
 |cr=>rfl
theorem VT.L6 {t:Ty} {d:az E.T} {cs:List Value} (h:VT E σ st w M t d cs):single E d=false:=by cases h<;>rfl
theorem zd (P:Program) {w:World} {t:TypeId} {b off:Nat} {u:Value} {cv:List Value} {i:TypeInfo} {c:Array Value} {el:TypeId} {fr:Nat×Nat} (hi:P.info? t=some i) (hs:i.size=cv.length)
  (hu:u.cells=cv.toArray) (h1: ∀v∈cv,kV v=true) (hh:w.heap[b]? =some (.cells c el fr)) (hl:off+cv.length≤c.size)
  (hf: ∀q,off≤q→q<off+cv.length→w.frozen? ⟨b,q,none⟩=false):
  (Instr.storeAt t (.pointer (some ⟨b,off,none⟩)) u).run P w= .ok () (iI w b (.cells (qa c off cv) el fr)):=by
 have hst:=nk P b off el fr cv 0 w c hh (by simpa using hl) h1 (by simpa using hf)
 simp only[Nat.add_zero]at hst
 simp[Instr.storeAt,Instr.sureAddr,storeVar,q8 hi,hu,hs,hst]
theorem An {w:World} {b:Nat} {c c':Array Value} {el:TypeId} {fr:Nat×Nat} (hh:w.heap[b]? =some (.cells c el fr)) (q:Nat):(iI w b (.cells c' el fr)).frozen? ⟨b,q,none⟩=w.frozen? ⟨b,q,none⟩:=by
 have hb:=(Array.getElem?_eq_some_iff.1 hh).1
 unfold World.frozen?
 simp only[kT hb,hh]
theorem Kl (hst:bm E σ st w) {o:Nat} {ob ob':Obj E.T} (ho:aR st o=some ob) (hm:dn ob=true) (hm':dn ob'=true→dn ob=true) {b:Nat} (hb:lf (σ o)=some b) (x:Go.Obj):
  Kept (MB σ st) (MB σ (D.df st o ob')) w (iI w b x):=
 ⟨by rw[iH];exact Nat.le_refl _,fun g hg hM=>ns (fun h=>hM (.inr ⟨o,ob,ho,hm,by rw[←h];exact hb⟩)),fun g _ h=>tt ho hm' h⟩
theorem w8 {o:Nat} {ob ob':Obj E.T} (ho:aR st o=some ob) (ht:qy ob ob') (k:Nat):ib σ σ st (D.df st o ob') k:=by
 refine⟨rfl,fun l e xs h=> ?_,fun h=>by rw[dH];exact h⟩
 rw[bE]
 by_cases h':o=k
 ·subst h'
  rw[ho]at h;cases h
  rw[if_pos ⟨rfl,bM ho⟩]
  cases ht with
  |arr l l' e xs xs'=>exact⟨l',xs',rfl⟩
 ·rw[if_neg (fun h=>h' h.1)];exact⟨l,xs,h⟩
theorem zS {t:TypeId} {p:List Step} (h:yH E t p=true) (hp:p≠[]): ∃ty,E.tk t= .data ty∧qo E p=some ty:=by
 unfold yH at h
 split at h
 ·rename_i ty ty' h1 h2
  have:=dN h;subst this
  exact⟨_,h1,h2⟩
 ·cases p with
  |nil=>exact absurd rfl hp
  |cons s p=>cases h
theorem CV (S:Sound P E) (hst:bm E σ st w) {st':St E.T} {t:TypeId} {x v:az E.T} {u uv:Value} (h:(Ax E st t x v).get=some st') (hx:aZ E σ st w (MB σ st) x u) (hv:aZ E σ st w (MB σ st) v uv):
  ∃w',(Instr.storeAt t u uv).run P w= .ok () w'∧Mv σ σ st st' w w':=by
 cases x with
 |ptr o p=>
  simp only[Ax]at h
  split at h
  ·rename_i ob hob
   obtain⟨hfp,h⟩:=Tree.aO h
   rw[Bool.and_eq_true]at hfp
   obtain⟨hf,hp⟩:=hfp
   obtain⟨ob',hset,h⟩:=Tree.aB h
   cases h
   cases hx with
   |data t' d cs hv=>cases hv
   |ptr o p b hb hlt=>
    have hr:=hst.obj o ob hob
    cases ob with
    |dead=>cases hset
    |box ro d0=>
     cases ro with
     |true=>cases hset
     |false=>
      simp only[zK]at hset
      obtain⟨d',hd',hset⟩:=Tree.aB hset
      cases hset
      generalize hσ:σ o=s at hr hb
      cases hr with
      |box ro d b' c el fr hh hfz hc=>
       simp only[lf,Option.some.injEq]at hb
       subst hb
       have hbk:lf (σ o)=some b':=by rw[hσ];rfl
       have key: ∃(cv l m r:List Value) (i:TypeInfo),P.info? t=some i∧i.size=cv.length∧uv.cells=cv.toArray∧(∀v∈cv,kV v=true)∧c.toList=l++m++r∧l.length=E.cw p∧m.length=cv.length∧
         ((∃t,VT E σ st w (MB σ st) t d' (l++cv++r))∨(D0 E d'=true∧ ∃v,l++cv++r=[v]∧kV v=true∧aZ E σ st w (MB σ st) d' v)):=by
        rcases CS hf with⟨ty,ht⟩|hs
        ·obtain⟨cv,hvt,rfl⟩:=CT ht hf hv
         obtain⟨i,hi,hsz,_⟩:=(S.data t ty ht).info
         have hlen:=VT.len S.todk hvt
         have hcells:=toV_cells (ty:=ty) (VT.one hst hvt) (fun ha=>by rw[hlen];exact nh ha)
         by_cases hpe:p=[]
         ·subst hpe
          simp only[uA]at hd'
          obtain⟨hok,hd'⟩:=Tree.aO hd'
          cases hd'
          have hok':OC E st ty d0=true:=by unfold mg at hok;rw[ht]at hok;exact hok
          have hold:c.toList.length=cv.length:=by
           rcases hc with⟨t0,h0⟩|⟨hs0,_⟩
           ·rw[VT.len S.todk (R5 h0 hok'),hlen]
           ·cases d0<;>first|(cases hs0;done)|(cases hok';done)
          exact⟨cv,[],c.toList,[],i,hi,by rw[hsz,hlen],hcells,VT.one hst hvt,by simp,rfl,hold,.inl ⟨ty,by simpa using hvt⟩⟩
         ·obtain⟨ty',ht',hpt⟩:=zS hp hpe
          rw[ht]at ht';cases ht'
          rcases hc with⟨t0,h0⟩|⟨hs0,_⟩
          ·obtain⟨l,m,r,h1,h2,h3,h4⟩:=Eh S.todk hvt p hpe hpt hd' h0
           exact⟨cv,l,m,r,i,hi,by rw[hsz,hlen],hcells,VT.one hst hvt,h1,h2,h3,.inl ⟨t0,h4⟩⟩
          ·exfalso
           cases p with
           |nil=>exact hpe rfl
           |cons s p=>
            cases s with
            |td i j=>cases d0<;>first|(cases hs0;done)|(cases hd';done)
            |idx e n=>cases d0<;>first|(cases hs0;done)|(cases hd';done)
        ·have hk:=Dr hf hs
         have hpe:p=[]:=by
          cases p with
          |nil=>rfl
          |cons s p=>
           obtain⟨ty,ht,_⟩:=zS hp (by simp)
           rw[ht]at hk
           rcases hk with hk|hk|hk<;>cases hk
         subst hpe
         simp only[uA]at hd'
         obtain⟨hok,hd'⟩:=Tree.aO hd'
         cases hd'
         have hs0:single E d0=true:=by
          unfold mg at hok
          rcases hk with hk|hk|hk<;>(rw[hk]at hok;exact hok)
         have ho:=ES hs hv
         have hold:c.toList.length=1:=by
          rcases hc with⟨t0,h0⟩|⟨_,x,hx,_⟩
          ·rw[h0.L6]at hs0;cases hs0
          ·rw[hx];rfl
         obtain⟨i,hi,hsz⟩: ∃i,P.info? t=some i∧i.size=1:=by
          rcases hk with hk|hk|hk
          ·obtain⟨_,i,hi,hsz,_⟩:=S.ptr t hk;exact⟨i,hi,hsz⟩
          ·obtain⟨_,i,hi,hsz,_⟩:=S.func t hk;exact⟨i,hi,hsz⟩
          ·obtain⟨_,i,hi,hsz,_⟩:=S.iface t hk;exact⟨i,hi,hsz⟩
         refine⟨[uv],[],c.toList,[],i,hi,hsz,?_,by simpa using ho,by simp,rfl,hold,.inr ⟨Nb hs,uv,rfl,ho,hv⟩⟩
         cases uv<;>first|(simp[kV]at ho;done)|rfl
       obtain⟨cv,l,m,r,i,hi,hsz,hcells,h1,hlc,hpo,hml,hnew⟩:=key
       have hcs:c.size=l.length+m.length+r.length:=by rw[←Array.length_toList,hlc];simp;omega
       have hrun:=zd P hi hsz hcells h1 hh (off:=E.cw p) (by omega) (fun q _ _=>hfz q)
       refine⟨_,hrun,Mv.df hst hob (.box false false d0 d') (fun _=>rfl) (fun _=>rfl) _ rfl rfl rfl iH (fun g hg=>ns (fun h=>hg rfl (by rw[hbk,h]))) ?_⟩
       have hkp:=Kl (ob':= .box false d') hst hob rfl (fun _=>rfl) hbk (.cells (qa c (E.cw p) cv) el fr)
       rw[hσ]
       have hbz:=(Array.getElem?_eq_some_iff.1 hh).1
       have hspl:(qa c (E.cw p) cv).toList=l++cv++r:=by rw[←hpo];exact Eg hlc hml
       refine .box false d' b' _ el fr (kT hbz) (fun q=>by rw[An hh];exact hfz q) ?_
       rw[hspl]
       rcases hnew with⟨t0,h0⟩|⟨hs,v,hv1,ho,hv2⟩
       ·exact .inl ⟨t0,VT.aH hkp h0 (fun k _=>w8 hob (.box false false d0 d') k)⟩
       ·exact .inr ⟨hs,v,hv1,ho,aZ.aH hkp hv2 (fun k _=>w8 hob (.box false false d0 d') k)⟩
    |arr l0 e xs=>
      cases p with
      |nil=>cases hset
      |cons s p=>
       cases s with
       |td i j=>cases hset
       |idx e' n=>
        simp only[zK]at hset
        obtain⟨hme,hset⟩:=Tree.aO hset
        rw[Bool.and_eq_true]at hme
        obtain⟨hmay,he⟩:=hme
        have:=dN he;subst this
        simp only[Tree.get]at hset
        obtain⟨x,hx,hset⟩:=Option.bind_eq_some_iff.1 hset
        obtain⟨d1,h6,hset⟩:=Tree.aB hset
        obtain⟨y,h8,hset⟩:=Tree.aB hset
        rw[Tree.dB]at h8
        cases hset
        obtain⟨ty,ht,hpt⟩:=zS hp (by simp)
        obtain⟨cv,hvt,rfl⟩:=CT ht hf hv
        obtain⟨i,hi,hsz,_⟩:=(S.data t ty ht).info
        have hlen:=VT.len S.todk hvt
        have hcells:=toV_cells (ty:=ty) (VT.one hst hvt) (fun ha=>by rw[hlen];exact nh ha)
        generalize hσ:σ o=s at hr hb
        cases hr with
        |arr l e xs _ hown=>
         rcases hown.2 with⟨⟨a,rfl⟩,_⟩|⟨g,cap,c,el,fr,cs,rfl,hcap,hh,hz,hfz,hl,hq,ho⟩
         ·rw[Ey]at hb;cases hb
         ·simp only[lf,Option.some.injEq]at hb
          subst hb
          have hbk:lf (σ o)=some g:=by rw[hσ];rfl
          obtain⟨c1,l1,r1,h1,rfl,h3,h4⟩:=bD.split S.todk hl n x hx
          have key: ∃l m r,c1=l++m++r∧l.length=E.cw p∧m.length=cv.length∧cx E w (MB σ st) e' y (l++cv++r):=by
           cases p with
           |nil=>
            simp only[uA]at h6
            obtain⟨_,h6⟩:=Tree.aO h6
            cases h6
            simp only[qo,Option.some.injEq]at hpt
            subst hpt
            have hy:=toData_nil S.todk depth h8 hvt
            exact⟨[],c1,[],by simp,rfl,by rw[cx.len S.todk h1,cx.len S.todk hy],by simpa using hy⟩
           |cons s p=>
            rw[uO]at hpt
            obtain⟨l,m,r,e1,e2,e3,e4⟩:=Eh S.todk hvt (s::p) (by simp) hpt h6 (.val e' x c1 h1)
            exact⟨l,m,r,e1,e2,e3,toData_nil S.todk depth h8 e4⟩
          obtain⟨l,m,r,rfl,hpo,hml,hy⟩:=key
          have hlen':=bD.len S.todk hl
          have hnx:n<xs.length:=(List.getElem?_eq_some_iff.1 hx).1
          have hcapsz:(l1++(l++m++r)++r1).length≤(cap+1)*E.size e':=by rw[hlen'];exact Nat.mul_le_mul_right _ hcap
          have hoff:E.cw (.idx e' n::p)=(l1++l).length:=by simp[Env.cw,Env.iW,h3,hpo]
          have hrun:=zd P hi (by rw[hsz,hlen]) hcells (VT.one hst hvt) hh (off:=E.cw (.idx e' n::p)) (by rw[hoff];simp at hcapsz⊢;omega)
           (fun q h1 h2=>hfz q (by rw[hoff]at h2;simp at hcapsz h2;omega))
          refine⟨_,hrun,Mv.df hst hob (.arr l0 l0 e' xs (xs.set n y)) (fun h=>h) (fun h=>h) _ rfl rfl rfl iH (fun g' hg=>ns (fun h=>hg hmay (by rw[hbk,h]))) ?_⟩
          have hkp:=Kl (ob':= .arr l0 e' (xs.set n y)) hst hob hmay (fun h=>h) hbk (.cells (qa c (E.cw (.idx e' n::p)) cv) el fr)
          rw[hσ]
          have hbz:=(Array.getElem?_eq_some_iff.1 hh).1
          refine .arr l0 e' _ _ ⟨by simpa using hown.1,.inr ⟨g,cap,_,el,fr,l1++(l++cv++r)++r1,by simp,by simpa using hcap,kT hbz,by rw[gD];exact hz,fun q hq'=>by rw[An hh];exact hfz q hq',
           bD.aH hkp (h4 y _ hy),fun q u hu=> ?_,ho⟩⟩
          rw[qk _ _ _ _ (by rw[hoff];simp at hcapsz⊢;omega),hoff]
          by_cases hin:(l1++l).length≤q∧q<(l1++l).length+cv.length
          ·rw[if_pos hin]
           rw[show l1++(l++cv++r)++r1=(l1++l)++(cv++(r++r1))by simp,List.getElem?_append_right hin.1,List.getElem?_append_left (by omega)]at hu
           exact hu
          ·rw[if_neg hin]
           refine hq q u ?_
           rw[show l1++(l++cv++r)++r1=(l1++l)++(cv++(r++r1))by simp]at hu
           rw[show l1++(l++m++r)++r1=(l1++l)++(m++(r++r1))by simp]
           rcases Nat.lt_or_ge q (l1++l).length with h9|h9
           ·rw[List.getElem?_append_left h9]at hu⊢;exact hu
           ·rw[List.getElem?_append_right h9]at hu⊢
            rw[List.getElem?_append_right (by omega)]at hu⊢
            rw[hml];exact hu
  ·cases h
 |_=>cases h
end
open Go
section
variable {P:Program} {E:Env} {w:World} {σ:Sg} {st:St E.T} {M:Nat→Prop}
theorem kZ {t:TypeId} {ty:Ty} (h:wA E t ty=true):E.tk t= .data ty:=by
 unfold wA at h
 split at h
 ·rename_i ty' ht
  have:=dN h;subst this;exact ht
 ·cases h
theorem Bm (p:List Step) (s:Step):E.cw (p++[s])=E.cw p+E.iW s:=by
 induction p with
 |nil=>simp[Env.cw]
 |cons x r ih=>simp[Env.cw,ih];omega
theorem EF {t:Ty} {x:I E.T t} {u:Value} (h:aZ E σ st w M (.val t x) u): ∃cs,cx E w M t x cs∧u=toV t cs:=by
 cases h with
 |data t' d cs h=>
  cases h with
  |val t x cs h=>exact⟨cs,h,rfl⟩
theorem jd {k:IntKind} {x:Jq k} {u:Value} (h:aZ E σ st w M (.val (.int k) x) u):u= .int k (toI k x):=by
 obtain⟨cs,hc,rfl⟩:=EF h
 cases hc;rfl
theorem yR {b:Bool} {u:Value} (h:aZ E σ st w M (.val .bool b) u):u= .bool b:=by
 obtain⟨cs,hc,rfl⟩:=EF h
 cases hc;rfl
theorem sJ {s:List UInt8} {u:Value} (h:aZ E σ st w M (.val .str s) u): ∃b:ByteArray,u= .string b∧b.data.toList=s∧b.size≤dK:=by
 obtain⟨cs,hc,rfl⟩:=EF h
 cases hc with
 |str b hb=>exact⟨b,rfl,rfl,hb⟩
theorem Bf {e:Ty} {xs:List (I E.T e)} {u:Value} (h:aZ E σ st w M (.val (.slice e) xs) u):
  ∃a cap cs,u= .slice a xs.length cap∧bD E w M e xs cs∧(xs=[]∨Mem w M a cs)∧xs.length≤dK∧xs.length≤cap:=by
 obtain⟨cs,hc,rfl⟩:=EF h
 cases hc with
 |slice e xs a cap cs hl hm hn hc=>exact⟨a,cap,cs,rfl,hl,hm,hn,hc⟩
theorem UW {n:Nat} {e:Ty} {xs:List (I E.T e)} {u:Value} (h:aZ E σ st w M (.val (.arr n e) xs) u): ∃cs:List Value,u= .agg cs.toArray∧xs.length=n∧bD E w M e xs cs:=by
 obtain⟨cs,hc,rfl⟩:=EF h
 cases hc with
 |arr n e xs cs hn hl=>exact⟨cs,rfl,hn,hl⟩
theorem IA {u:Value} (h:aZ E σ st w M .bj u): ∃a,u= .slice a 0 0:=by
 cases h with
 |data t d cs h=>
  cases h with
  |bj e a=>exact⟨a,rfl⟩
theorem uQ {k:Nat} {u:Value} (h:aZ E σ st w M (.own k) u):u=σ k:=by
 cases h with
 |data t d cs h=>
  cases h with
  |own k l e xs h=>rfl
theorem mkInt (k:IntKind) (x:Jq k):aZ E σ st w M (.val (.int k) x) (.int k (toI k x)):= .data (.int k) _ _ (.val _ x _ (.int k x))
theorem gx (b:Bool):aZ E σ st w M (.val .bool b) (.bool b):= .data .bool _ _ (.val _ b _ (.bool b))
theorem mkStr (b:ByteArray) (h:b.size≤dK):aZ E σ st w M (.val .str b.data.toList) (.string b):= .data .str _ _ (.val _ _ _ (.str b h))
theorem UG (s:List UInt8) (h:s.length≤dK):aZ E σ st w M (.val .str s) (.string ⟨s.toArray⟩):=by
 have:=mkStr (E:=E) (σ:=σ) (st:=st) (w:=w) (M:=M) ⟨s.toArray⟩ (by simpa [ByteArray.size]using h)
 simpa using this
theorem toI_ofI (k:IntKind) (n:Int) (h:k= .u8→0≤n∧n<256):toI k (zU k n)=n:=by
 cases k<;>first|rfl|skip
 obtain⟨h0,h1⟩:=h rfl
 simp only[toI,zU]
 have:n.toNat<256:=by omega
 simp[UInt8.toNat_ofNat',Nat.mod_eq_of_lt this]
 omega
theorem wrap_u8 (n:Int):0≤IntKind.u8.wrap n∧IntKind.u8.wrap n<256:=by
 simp only[IntKind.wrap,IntKind.signed,IntKind.bits,Bool.false_and]
 constructor
 ·simp;omega
 ·simp;omega
theorem toI_wrap (k:IntKind) (n:Int):toI k (zU k (k.wrap n))=k.wrap n:=toI_ofI k _ fun h=>by subst h;exact wrap_u8 n
theorem toI_u8_range (x:Jq .u8):0≤toI .u8 x∧toI .u8 x<256:=by
 have:=UInt8.toNat_lt x
 simp only[toI];omega
theorem Qn (k:IntKind) (n:Int):aZ E σ st w M (.val (.int k) (zU k (k.wrap n))) (.int k (k.wrap n)):=by
 have:=mkInt (E:=E) (σ:=σ) (st:=st) (w:=w) (M:=M) k (zU k (k.wrap n))
 rwa [toI_wrap]at this
theorem GN (S:Sound P E) {t:TypeId} {x v:az E.T} {j:Nat} {u:Value} (h:(vP E t x j).get=some v) (hx:aZ E σ st w M x u):
  ∃y,(Instr.fieldAt t u j).run P w= .ok y w∧aZ E σ st w M v y:=by
 unfold vP at h
 split at h
 ·rename_i i ht
  obtain⟨hj,h⟩:=Tree.aO h
  rw[Nat.blt_eq]at hj
  obtain⟨fs,hu,hsz,hfs⟩:=(S.data t _ ht).desc
  obtain⟨f,hf⟩: ∃f,fs[j]? =some f:=⟨fs[j]'(by omega),Array.getElem?_eq_getElem _⟩
  obtain⟨ty,h1,h2,h3,h4,_⟩:=hfs j f hf
  obtain⟨inf,hi,hsi,_⟩:=(S.data _ _ h2).info
  cases x with
  |ptr o p=>
   cases h
   cases hx with
   |data t' d cs hv=>cases hv
   |ptr o p b hb hl=>
    refine⟨.pointer (some ⟨b,E.cw (p++[.td i j]),none⟩),?_,.ptr o _ b hb hl⟩
    simp[Instr.fieldAt,bq hu,hf,Instr.sureAddr,fieldPlace,q8 hi,hsi,h4,dP,Bm,Env.iW,h3]
  |dZ ty0 y=>
   cases ty0 with
   |named i'=>
   obtain⟨hii,h⟩:=Tree.aO h
   have:=Nat.eq_of_beq_eq_true hii;subst this
   split at h
   ·rename_i t' z hz
    cases h
    cases hx with
    |data t'' d cs hv=>cases hv
    |dZ t'' y a cs hc hm=>
     obtain⟨b,off,ha,hb,hlt,hq⟩:=hm
     cases ha
     have hvts:iw E σ st w M (E.fields i) (parts E i y) cs:=by
      cases hc with
      |named i y cs hf=>exact iw.ofF hf
     have hlen:j<(parts E i y).length:=by
      rcases Nat.lt_or_ge j (parts E i y).length with h|h
      ·exact h
      ·rw[ko,List.getD_eq_getElem?_getD,List.getElem?_eq_none h]at hz;cases hz
     obtain⟨t1,c,l,r,g1,g2,rfl,g4,_⟩:=iw.at S.todk hvts j _ (nu (d:= .undef) hlen)
     rw[hz]at g2
     cases g2 with
     |val t1 z c g2=>
      rw[h1]at g1;cases g1
      refine⟨.pointer (some ⟨b,off+E.qu i j,none⟩),?_,.dZ _ z _ c g2 ⟨b,off+E.qu i j,rfl,hb,hlt,fun q x hx=> ?_⟩⟩
      ·simp[Instr.fieldAt,bq hu,hf,Instr.sureAddr,fieldPlace,q8 hi,hsi,h4,dP,h3]
      ·have hlc:=(List.getElem?_eq_some_iff.1 hx).1
       have:=hq (E.qu i j+q) x (by
        rw[show E.qu i j=l.length from g4.symm,List.append_assoc,List.getElem?_append_right (by omega),Nat.add_sub_cancel_left,List.getElem?_append_left hlc];exact hx)
       rw[Nat.add_assoc];exact this
   ·cases h
   |bool=>cases h
   |int k=>cases h
   |str=>cases h
   |slice e=>cases h
   |arr n e=>cases h
  |val t x=>cases h
  |bj=>cases h
  |own k=>cases h
  |cM=>cases h
  |agg i fs=>cases h
  |jk vs=>cases h
  |fn f cap=>cases h
  |ea=>cases h
  |fG t v=>cases h
  |cr=>cases h
  |dA e=>cases h
  |undef=>cases h
 ·cases h
theorem mT {i:Int} {n:Nat}:sy i n=true↔0≤i∧i<n:=by simp[sy]
theorem fN {α:Type} {c:Bool} {t:Tree α} {a:α} (h:(Tree.ite c t .fail).get=some a):c=true∧t.get=some a:=by
 cases c with
 |true=>exact⟨rfl,h⟩
 |false=>cases h
theorem fy (S:Sound P E) {te:TypeId} {e:Ty} (h:E.tk te= .data e) (w:World):(sizeOf te).run P w= .ok (E.size e) w:=by
 obtain⟨inf,hi,hsi,_⟩:=(S.data _ _ h).info
 rw[q8 hi,hsi]
theorem J6 (ok:dk E) {e:Ty} {xs:List (I E.T e)} {cs:List Value} {b off i:Nat} {y:I E.T e} (hl:bD E w M e xs cs) (hb: ¬M b) (hlt:b<w.heap.size)
  (hq: ∀q v,cs[q]? =some v→w.cell? ⟨b,off+q,none⟩=some v) (hy:xs[i]? =some y):aZ E σ st w M (.dZ e y) (.pointer (some ⟨b,off+i*E.size e,none⟩)):=by
 obtain⟨c,hc,hcq⟩:=bD.at ok hl i y hy
 exact .dZ e y _ c hc ⟨b,off+i*E.size e,rfl,hb,hlt,fun q v hv=>by rw[Nat.add_assoc];exact hq _ v (hcq q v hv)⟩
theorem GM (S:Sound P E) (hst:bm E σ st w) {t:TypeId} {x i v:az E.T} {u ui:Value} (h:(mG E st t x i).get=some v) (hx:aZ E σ st w (MB σ st) x u) (hi:aZ E σ st w (MB σ st) i ui):
  ∃y,(Instr.indexAt t u ui).run P w= .ok y w∧aZ E σ st w (MB σ st) v y:=by
 unfold mG at h
 split at h
 ·rename_i k a
  have:=jd hi;subst this
  split at h
  ·rename_i e xs
   obtain⟨ht,h⟩:=Tree.aO h
   have ht:=kZ ht
   obtain⟨hr,h⟩:=fN h
   rw[mT]at hr
   simp only[Tree.get]at h
   obtain⟨y,hy,h⟩:=Option.bind_eq_some_iff.1 h
   cases h
   obtain⟨te,hu,hte⟩:=(S.data t _ ht).desc
   obtain⟨ad,cap,cs,rfl,hl,hm,_,_⟩:=Bf hx
   have hne:xs≠[]:=by rintro rfl;simp at hy
   obtain⟨b,off,rfl,hb,hlt,hq⟩:=hm.resolve_left hne
   refine⟨.pointer (some ⟨b,off+(toI k a).toNat*E.size e,none⟩),?_,J6 S.todk hl hb hlt hq hy⟩
   simp[Instr.indexAt,asIntOf,bq hu,hr.1,hr.2,fy S hte,dP]
  ·rename_i o
   split at h
   ·rename_i l e xs ho
    obtain⟨ht,h⟩:=Tree.aO h
    have ht:=kZ ht
    obtain⟨hr,h⟩:=fN h
    rw[mT]at hr
    cases h
    obtain⟨te,hu,hte⟩:=(S.data t _ ht).desc
    have:=uQ hx;subst this
    have hob:=hst.obj o _ ho
    generalize hσ:σ o=s at hob
    cases hob with
    |arr l e xs _ hown=>
     rcases hown.2 with⟨⟨a,rfl⟩,rfl⟩|⟨g,cap,c,el,fr,cs,rfl,hcap,hh,hz,hfz,hl,hq,hord⟩
     ·simp at hr;omega
     ·refine⟨.pointer (some ⟨g,(toI k a).toNat*E.size e,none⟩),?_,?_⟩
      ·simp[Instr.indexAt,asIntOf,bq hu,hr.1,hr.2,fy S hte,dP]
      ·have:=aZ.ptr (E:=E) (σ:=σ) (st:=st) (w:=w) (M:=MB σ st) o [.idx e (toI k a).toNat] g (by rw[hσ];rfl) (bM ho)
       simpa [Env.cw,Env.iW]using this
   ·cases h
  ·rename_i o p
   split at h
   ·rename_i n e ht
    obtain⟨hr,h⟩:=fN h
    rw[mT]at hr
    cases h
    obtain⟨te,hu,hte⟩:=(S.data t _ ht).desc
    cases hx with
    |data t' d cs hv=>cases hv
    |ptr o p b hb hl=>
     refine⟨.pointer (some ⟨b,E.cw (p++[.idx e (toI k a).toNat]),none⟩),?_,.ptr o _ b hb hl⟩
     simp[Instr.indexAt,asIntOf,bq hu,hr.1,hr.2,fy S hte,dP,Instr.sureAddr,Bm,Env.iW]
   ·cases h
  ·rename_i n e xs
   split at h
   ·rename_i n' e' ht
    obtain⟨hte',h2⟩:=Tree.aO h
    have hee:=dN hte'
    clear h
    obtain⟨hr,h3⟩:=fN h2
    clear h2
    rw[mT]at hr
    simp only[Tree.get]at h3
    obtain⟨y,hy,h4⟩:=Option.bind_eq_some_iff.1 h3
    cases h4
    cases hee
    obtain⟨te,hu,hte⟩:=(S.data t _ ht).desc
    cases hx with
    |data t'' d cs hv=>cases hv
    |dZ t'' x a' cs hc hm=>
     obtain⟨b,off,ha,hb,hlt,hq⟩:=hm
     cases ha
     cases hc with
     |arr n e xs cs hn hl=>
      refine⟨.pointer (some ⟨b,off+(toI k a).toNat*E.size e,none⟩),?_,J6 S.todk hl hb hlt hq hy⟩
      simp[Instr.indexAt,asIntOf,bq hu,hr.1,hr.2,fy S hte,dP,Instr.sureAddr]
   ·cases h
  ·cases h
 ·cases h
theorem SB (S:Sound P E) (hst:bm E σ st w) {t:TypeId} {x v:az E.T} {u:Value} {ty:TypeId} {ts:Array TypeId} (hts:ts[0]? =some t) (h:(MD E st t x).get=some v) (hx:aZ E σ st w (MB σ st) x u):
  ∃y,(Builtin.len_ ts ty #[u]).run P w= .ok y w∧aZ E σ st w (MB σ st) v y:=by
 unfold MD at h
 split at h
 ·rename_i s ht
  cases h
  obtain⟨b,rfl,rfl,hb⟩:=sJ hx
  have hu:P.underlying t=some .string:=(S.data t _ ht).desc
  refine⟨.int .i64 b.size,?_,?_⟩
  ·simp[Builtin.len_,hts,bq hu,goInt]
  ·have:=mkInt (E:=E) (σ:=σ) (st:=st) (w:=w) (M:=MB σ st) .i64 (b.data.toList.length:Int)
   rw[Array.length_toList]at this⊢
   exact this
 ·rename_i e e' xs ht
  cases h
  obtain⟨te,hu,hte⟩:=(S.data t _ ht).desc
  obtain⟨ad,cap,cs,rfl,hl,hm,_,_⟩:=Bf hx
  exact⟨.int .i64 xs.length,by simp[Builtin.len_,hts,bq hu,goInt],mkInt .i64 (xs.length:Int)⟩
 ·rename_i e ht
  cases h
  obtain⟨te,hu,hte⟩:=(S.data t _ ht).desc
  obtain⟨a,rfl⟩:=IA hx
  exact⟨.int .i64 0,by simp[Builtin.len_,hts,bq hu,goInt],mkInt .i64 (0:Int)⟩
 ·rename_i e k ht
  split at h
  ·rename_i l e' xs ho
   cases h
   obtain⟨te,hu,hte⟩:=(S.data t _ ht).desc
   have:=uQ hx;subst this
   have hob:=hst.obj k _ ho
   generalize σ k=s at hob hx
   cases hob with
   |arr l e xs _ hown=>
    rcases hown.2 with⟨⟨a,rfl⟩,rfl⟩|⟨g,cap,c,el,fr,cs,rfl,_⟩
    ·exact⟨.int .i64 0,by simp[Builtin.len_,hts,bq hu,goInt],mkInt .i64 (0:Int)⟩
    ·exact⟨.int .i64 xs.length,by simp[Builtin.len_,hts,bq hu,goInt],mkInt .i64 (xs.length:Int)⟩
  ·cases h
 ·cases h
end
open Go
noncomputable section
section
variable {P:Program} {E:Env} {w:World} {σ:Sg} {st:St E.T} {M:Nat→Prop}
theorem toData_ty {t:Ty} {x:I E.T t} {d:az E.T} {cs:List Value} {t':Ty} (h:VT E σ st w M t' d cs) (n:Nat) (hx:toData E st n t d=some x):VT E σ st w M t d cs:=by
 cases n with
 |zero=>cases hx
 |succ n=>
  cases h with
  |val t' y cs hc=>
   simp only[toData]at hx
   split at hx
   ·rename_i p _
    cases p with|up p=>
    subst p;exact .val _ y cs hc
   ·cases hx
  |bj e a=>
   cases t with
   |slice e'=>exact .bj e' a
   |_=>simp[toData]at hx
  |own k l e xs hk=>
   simp only[toData,hk]at hx
   split at hx
   ·rename_i p _
    cases p with|up p=>
    subst p;exact .own k l e xs hk
   ·cases hx
  |dA e v hv=>simp[toData]at hx
  |agg i fs cs hs=>
   cases t with
   |named j=>
    simp only[toData]at hx
    split at hx
    ·rename_i p _
     cases p with|up p=>
     subst p;exact .agg i fs cs hs
    ·cases hx
   |_=>simp[toData]at hx
theorem JV (hst:bm E σ st w) {k:Nat} {l:RM} {e:Ty} {xs:List (I E.T e)} (hk:aR st k=some (.arr l e xs)) (hM: ∀b,M b→MB σ st b) (hb: ∀b,lf (σ k)=some b→ ¬M b):cx E w M (.slice e) xs [σ k]:=by
 have hob:=hst.obj k _ hk
 generalize hσ:σ k=s at hob hb
 cases hob with
 |arr l e xs _ hown=>
  rcases hown.2 with⟨⟨a,rfl⟩,rfl⟩|⟨g,cap,c,el,fr,cs,rfl,hcap,hh,hz,hfz,hl,hq,hord⟩
  ·exact .slice e [] a 0 [] (.nil e) (.inl rfl) (Nat.zero_le _) (Nat.le_refl _)
  ·refine .slice e xs (some ⟨g,0,none⟩) (cap+1) cs (bD.aH (Kept.weaken hM) hl) ?_ hown.1 hcap
   refine .inr ⟨g,0,rfl,hb g rfl,(Array.getElem?_eq_some_iff.1 hh).1,fun q v hv=> ?_⟩
   simp[World.cell?,hh,hq q v hv]
theorem toHLWith_ok' {f:(t:Ty)→az E.T→Option (I E.T t)} {M':Nat→Prop}:
  ∀{ts:List Ty} {fs:List (az E.T)} {cs:List Value},iw E σ st w M ts fs cs→(∀t d x cs,d∈fs→f t d=some x→VT E σ st w M t d cs→cx E w M' t x cs)→ ∀{r:HL E.T ts},toHLWith E f ts fs=some r→l7 E w M' ts r cs
 |_,_,_,.nil,_=>by
  intro _
  exact .nil
 |_,_,_,.cons t ts v vs c1 c2 hv hvs,hf=>by
  intro h
  simp only[toHLWith]at h
  split at h
  ·rename_i x hx
   split at h
   ·rename_i y hy
    cases h
    exact .cons t ts x y c1 c2 (hf t v x c1 (by simp) hx hv) (toHLWith_ok' hvs (fun t d x cs hd=>hf t d x cs (by simp[hd])) hy)
   ·cases h
  ·cases h
theorem EX {d:az E.T}: ∀{fs:List (az E.T)},d∈fs→ ∀k∈refs d,k∈bg fs
 |v::r,h,k,hk=>by
  simp only[bg,List.mem_append]
  rcases List.mem_cons.1 h with rfl|h
  ·exact .inl hk
  ·exact .inr (EX h k hk)
theorem toData_ok (ok:dk E) (hst:bm E σ st w) {M:Nat→Prop} (hM: ∀b,M b→MB σ st b)
  : ∀(n:Nat) {t:Ty} {d:az E.T} {x:I E.T t} {cs:List Value},(∀k∈refs d,∀l e xs b,aR st k=some (.arr l e xs)→lf (σ k)=some b→ ¬M b)→toData E st n t d=some x→VT E σ st w (MB σ st) t d cs→cx E w M t x cs
 |0,_,_,_,_,_,h,_=>by cases h
 |n+1,t,d,x,cs,hb,h,hv=>by
  cases hv with
  |val t y cs hc=>
   simp only[toData]at h
   split at h
   ·rename_i p _
    cases p with|up p=>
    cases h;exact cx.aH (Kept.weaken hM) hc
   ·cases h
  |bj e a=>
   simp only[toData,Option.some.injEq]at h
   subst h
   exact .slice e [] a 0 [] (.nil e) (.inl rfl) (Nat.zero_le _) (Nat.le_refl _)
  |own k l e xs hk=>
   simp only[toData,hk]at h
   split at h
   ·rename_i p _
    cases p with|up p=>
    cases h
    exact JV hst hk hM (fun b=>hb k (by simp[refs]) l e xs b hk)
   ·cases h
  |dA e v hv=>simp[toData]at h
  |agg i fs cs hs=>
   simp only[toData]at h
   split at h
   ·split at h
    ·rename_i r hr
     cases h
     exact .named i _ cs (by rw[ok.pe];exact toHLWith_ok' hs (fun t d x cs hd=>toData_ok ok hst hM n (fun k hk=>hb k (by simp only[refs];exact EX hd k hk))) hr)
    ·cases h
   ·cases h
theorem toData_look (ok:dk E) (hst:bm E σ st w) (n:Nat) {t:Ty} {d:az E.T} {x:I E.T t} {cs:List Value} (h:toData E st n t d=some x) (hv:VT E σ st w (MB σ st) t d cs):cx E w (fun _=>False) t x cs:=
 toData_ok ok hst (fun b h=>h.elim) n (fun _ _ _ _ _ _ _ _ h=>h) h hv
theorem np {t:Ty} {d:az E.T} {x:I E.T t} {n:Nat} {u:Value} (h:toData E st n t d=some x) (hv:aZ E σ st w M d u): ∃cs,VT E σ st w M t d cs∧u=toV t cs:=by
 cases n with
 |zero=>cases h
 |succ n=>
 cases hv with
 |data t' d cs hv=>
  have h2:=toData_ty hv (n+1) h
  refine⟨cs,h2,?_⟩
  cases h2 with
  |val t x cs h=>cases hv;rfl
  |bj e a=>cases hv;rfl
  |own k l e xs h=>cases hv;rfl
  |dA e v h=>cases hv;rfl
  |agg i fs cs h=>cases hv;rfl
 |undef v=>cases t<;>cases h
 |ptr o p b hb hl=>cases t<;>cases h
 |cM=>cases t<;>cases h
 |dZ t x a cs hc hm=>cases t<;>cases h
 |jk vs us hu=>cases t<;>cases h
 |fn f vs us hu=>cases t<;>cases h
 |ea=>cases t<;>cases h
 |fG t d v hu=>cases t<;>cases h
 |cr=>cases t<;>cases h
theorem mQ (S:Sound P E) {t:TypeId} {ty:Ty} (h:E.tk t= .data ty) {xs:Array Value} {l c r:List Value} (hx:xs.toList=l++c++r) (hc:c.length=E.size ty) (w:World):
  (part t xs l.length).run P w= .ok (toV ty c) w:=by
 obtain⟨i,hi,hs,_⟩:=(S.data t ty h).info
 unfold part
 simp only[Sem.run_bind,G6 S h,Result.andThen_ok]
 cases ha:dU ty with
 |true=>
  have he:xs.extract l.length (l.length+E.size ty)=c.toArray:=by
   apply Array.ext'
   rw[Array.toList_extract,hx]
   simp only[List.extract,List.append_assoc]
   rw[List.drop_append_of_le_length (Nat.le_refl _),List.drop_length,List.nil_append,Nat.add_sub_cancel_left,←hc,List.take_append_of_le_length (Nat.le_refl _),List.take_length]
  simp[q8 hi,hs,he,toV,ha]
 |false=>
  obtain⟨v,rfl⟩: ∃v,c=[v]:=List.length_eq_one_iff.1 (by rw[hc];exact nh ha)
  have:xs[l.length]? =some v:=by
   rw[←Array.getElem?_toList,hx,List.append_assoc,List.getElem?_append_right (Nat.le_refl _)];simp
  simp[this,toV,ha]
theorem DK (S:Sound P E) {n d:Nat} (ih: ∀(t:TypeId) (ty:Ty) (x y:I E.T ty) (cs cs':List Value),I2 E n ty=true→E.tk t= .data ty→E.cmp t=true→cx E w M ty x cs→cx E w M ty y cs'→
   (Op.equalIn d t (toV ty cs) (toV ty cs')).run P w= .ok (KL E ty x y) w) {xs ys:Array Value}:
  ∀(ts:List Ty) (r r':HL E.T ts) (fl:List Field) (l l' c c':List Value),xs.toList=l++c→ys.toList=l'++c'→l.length=l'.length→l7 E w M ts r c→l7 E w M ts r' c'→fl.length=ts.length→
   (∀(q:Nat) (f:Field),fl[q]? =some f→ ∃ty,aR ts q=some ty∧E.tk f.type= .data ty∧f.offset=l.length+((ts.take q).map E.size).sum∧E.cmp f.type=true∧f.name≠ "_" ∧I2 E n ty=true)→
   (Op.eqFields d xs ys fl).run P w= .ok (Mx E ts r r') w
 |[],r,r',fl,l,l',c,c',_,_,_,_,_,hfl,_=>by
  obtain rfl:fl=[]:=List.eq_nil_of_length_eq_zero hfl
  simp[Op.eqFields,Mx]
 |t::ts,r,r',fl,l,l',c,c',hx,hy,hll,h1,h2,hfl,hf=>by
  cases fl with
  |nil=>cases hfl
  |cons f fl=>
   cases h1 with
   |cons t ts x r c1 c2 g1 g2=>
    cases h2 with
    |cons t ts y r' d1 d2 k1 k2=>
     obtain⟨ty,e1,e2,e3,e4,e5,e6⟩:=hf 0 f rfl
     simp only[dF,cP,cQ,Option.some.injEq]at e1
     subst e1
     simp only[List.take_zero,List.map_nil,List.sum_nil,Nat.add_zero]at e3
     have p1:=mQ S e2 (xs:=xs) (l:=l) (c:=c1) (r:=c2) (by rw[hx];simp) (cx.len S.todk g1) w
     have p2:=mQ S e2 (xs:=ys) (l:=l') (c:=d1) (r:=d2) (by rw[hy];simp) (cx.len S.todk k1) w
     have p3:=ih f.type t x y c1 d1 e6 e2 e4 g1 k1
     have p4:=DK S ih ts r r' fl (l++c1) (l'++d1) c2 d2 (by rw[hx];simp) (by rw[hy];simp) (by simp[hll,cx.len S.todk g1,cx.len S.todk k1]) g2 k2 (by simpa using hfl)
      (fun q f hq=>by
       obtain⟨ty,a1,a2,a3,a4,a5,a6⟩:=hf (q+1) f (by simpa using hq)
       exact⟨ty,by simpa [dF,cP,cQ]using a1,a2,by rw[a3];simp[cx.len S.todk g1];omega,a4,a5,a6⟩)
     simp only[Op.eqFields,if_pos e5,Sem.run_bind,e3,p1,Result.andThen_ok]
     rw[hll,p2]
     simp only[Result.andThen_ok,p3,Mx]
     cases KL E t x y with
     |true=>simp[p4]
     |false=>simp
theorem FH (S:Sound P E) {d:Nat} {te:TypeId} {e:Ty} (hte:E.tk te= .data e) (ih: ∀(x y:I E.T e) (cs cs':List Value),cx E w M e x cs→cx E w M e y cs'→(Op.equalIn d te (toV e cs) (toV e cs')).run P w= .ok (KL E e x y) w) {X Y:Array Value}:
  ∀(xs ys:List (I E.T e)) (k:Nat) (l l' c c':List Value),X.toList=l++c→Y.toList=l'++c'→l.length=k*E.size e→l'.length=k*E.size e→bD E w M e xs c→bD E w M e ys c'→xs.length=ys.length→
   (Op.eqItems d te (E.size e) X Y (List.range' k xs.length)).run P w= .ok (KL.UN (KL E e) xs ys) w
 |[],ys,k,l,l',c,c',hx,hy,hl,hl',h1,h2,hn=>by
  cases ys with
  |nil=>simp[Op.eqItems,KL.UN]
  |cons y r=>simp at hn
 |x::xs,ys,k,l,l',c,c',hx,hy,hl,hl',h1,h2,hn=>by
  cases ys with
  |nil=>simp at hn
  |cons y ys=>
   cases h1 with
   |cons e x r c1 c2 g1 g2=>
    cases h2 with
    |cons e y r' d1 d2 k1 k2=>
     have p1:=mQ S hte (xs:=X) (l:=l) (c:=c1) (r:=c2) (by rw[hx];simp) (cx.len S.todk g1) w
     have p2:=mQ S hte (xs:=Y) (l:=l') (c:=d1) (r:=d2) (by rw[hy];simp) (cx.len S.todk k1) w
     have p3:=ih x y c1 d1 g1 k1
     have p4:=FH S hte ih xs ys (k+1) (l++c1) (l'++d1) c2 d2 (by rw[hx];simp) (by rw[hy];simp) (by rw[List.length_append,hl,cx.len S.todk g1,Nat.succ_mul]) (by rw[List.length_append,hl',cx.len S.todk k1,Nat.succ_mul]) g2 k2 (by simpa using hn)
     rw[List.length_cons,List.range'_succ]
     rw[hl]at p1
     rw[hl']at p2
     simp only[Op.eqItems,Sem.run_bind,p1,p2,p3,Result.andThen_ok,KL.UN]
     cases KL E e x y with
     |true=>simp[p4]
     |false=>simp
theorem Av (S:Sound P E): ∀(n d:Nat) (t:TypeId) (ty:Ty) (x y:I E.T ty) (cs cs':List Value),n≤d→I2 E n ty=true→E.tk t= .data ty→E.cmp t=true→cx E w M ty x cs→cx E w M ty y cs'→
  (Op.equalIn d t (toV ty cs) (toV ty cs')).run P w= .ok (KL E ty x y) w
 |0,d,t,ty,x,y,cs,cs',_,h,_,_,_,_=>by cases h
 |n+1,0,t,ty,x,y,cs,cs',hd,_,_,_,_,_=>by omega
 |n+1,d+1,t,ty,x,y,cs,cs',hd,he,ht,hc,h1,h2=>by
  have hdesc:=(S.data t ty ht).desc
  cases h1 with
  |bool a=>
   cases h2 with
   |bool b=>have hu:P.underlying t=some .bool:=hdesc;simp[toV,dU,Op.equalIn,bq hu,KL]
  |int k a=>
   cases h2 with
   |int k b=>have hu:P.underlying t=some (.int k):=hdesc;simp[toV,dU,Op.equalIn,bq hu,KL]
  |str a ha=>
   have hu:P.underlying t=some .string:=hdesc
   generalize hs:a.data.toList=s at*
   cases h2 with
   |str b hb=>
    subst hs
    simp only[toV,dU,Op.equalIn,Sem.run_bind,bq hu,Result.andThen_ok,List.headD_cons,KL,Sem.run_pure]
    rw[beq_toListBytes,ByteArray.toList_eq,ByteArray.toList_eq]
  |slice e xs a cap cs hl hm hn hcap=>cases he
  |arr m e xs cs hn hl=>
   cases h2 with
   |arr m e ys cs' hn' hl'=>
    obtain⟨te,hu,hte⟩:=hdesc
    obtain⟨i,hi,hs,_⟩:=(S.data te e hte).info
    have hce:=(S.cmp t hc).2.2.2 m te hu
    have hsz:P.cellsOf te=E.size e:=by unfold Program.cellsOf;rw[hi];exact hs
    simp only[toV,dU]
    rw[Go.run_equalIn_array w d _ _ hu hi,hsz,KL]
    have:=FH S hte (fun x y cs cs' g1 g2=>Av S n d te e x y cs cs' (by omega) he hte hce g1 g2) (X:=cs.toArray) (Y:=cs'.toArray) _ _ 0 [] [] cs cs' (by simp) (by simp) (by simp) (by simp) hl hl' (by rw[hn,hn'])
    rw[List.range_eq_range',←hn]
    exact this
  |named i x cs hf=>
   cases h2 with
   |named i y cs' hf'=>
    obtain⟨fs,hu,hsz,hfs⟩:=hdesc
    have hp:=(S.cmp t hc).2.1
    have hq:=(S.cmp t hc).2.2.1 fs hu
    have hfo:P.fieldsOf t=fs:=by simp[Program.fieldsOf,hu]
    simp only[toV,dU]
    rw[run_equalIn_struct (P:=P) w d t _ _ (by rw[hfo];exact hu) hp,hfo,KL,S.er]
    simp only[I2,List.all_eq_true]at he
    refine DK S (n:=n) (d:=d) (fun t ty x y cs cs' e1 e2 e3 e4 e5=>Av S n d t ty x y cs cs' (by omega) e1 e2 e3 e4 e5) (E.fields i) _ _ fs.toList [] [] cs cs' (by simp) (by simp) rfl hf hf' (by simpa using hsz) ?_
    intro q f hqf
    obtain⟨ty,a1,a2,a3,a4,a5⟩:=hfs q f (by simpa using hqf)
    refine⟨ty,a1,a2,by simpa [Env.qu]using a3,hq f (List.mem_of_getElem? hqf),a5,he ty ?_⟩
    rw[cT]at a1
    exact List.mem_of_getElem? a1
end
end
open Go
section
variable {P:Program} {E:Env} {w:World} {σ:Sg} {st:St E.T} {M:Nat→Prop}
theorem VF (k:IntKind) (n:Int) (h:k= .u8→0≤n∧n<256):aZ E σ st w M (.val (.int k) (zU k n)) (.int k n):=by
 have:=mkInt (E:=E) (σ:=σ) (st:=st) (w:=w) (M:=M) k (zU k n)
 rwa [toI_ofI k n h]at this
theorem OT (op:BinOp) (t:TypeId) (x y:Operand) (k:IntKind) (a:Int) (u:Value):(eqGuard op t x y (.int k a) u).run P w= .ok () w:=by
 cases op<;>cases u<;>simp[eqGuard]
theorem OS (op:BinOp) (t:TypeId) (x y:Operand) (a:ByteArray) (u:Value):(eqGuard op t x y (.string a) u).run P w= .ok () w:=by
 cases op<;>cases u<;>simp[eqGuard]
theorem Mq (op:BinOp) (t:TypeId) (x y:Operand) (a:Bool) (u:Value):(eqGuard op t x y (.bool a) u).run P w= .ok () w:=by
 cases op<;>cases u<;>simp[eqGuard]
theorem Fw {α:Type} {c:Bool} {t:Tree α} {a:α} (h:(Tree.ite c .fail t).get=some a):c=false∧t.get=some a:=by
 cases c with
 |false=>exact⟨rfl,h⟩
 |true=>cases h
theorem BY {op:BinOp} {k:IntKind} {a b r:Int} (t:TypeId) (h:HO op k a b=some r):(binOp op t (.int k a) (.int k b)).run P w= .ok (.int k r) w∧ ∃m:Int,r=k.wrap m:=by
 cases op<;>simp only[HO,Option.some.injEq]at h<;>first|(cases h;done)|(subst h;exact⟨by simp[binOp,Op.intBits],_,rfl⟩)
theorem SC {op:BinOp} {k:IntKind} {x y:Jq k} {v:az E.T} (t:TypeId) (hs:op≠ .shl∧op≠ .shr) (h:(Zc E op k (toI k x) (toI k y)).get=some v):
  ∃r,(binOp op t (.int k (toI k x)) (.int k (toI k y))).run P w= .ok r w∧aZ E σ st w M v r:=by
 cases op with
 |add=>cases h;exact⟨_,by simp[binOp,Op.intArith],Qn k _⟩
 |sub=>cases h;exact⟨_,by simp[binOp,Op.intArith],Qn k _⟩
 |mul=>cases h;exact⟨_,by simp[binOp,Op.intArith],Qn k _⟩
 |quo=>
  obtain⟨hc,h⟩:=Fw h
  cases h
  have hy:toI k y≠0:=by simpa using hc
  exact⟨_,by simp[binOp,Op.intDiv,hy],Qn k _⟩
 |rem=>
  obtain⟨hc,h⟩:=Fw h
  cases h
  have hy:toI k y≠0:=by simpa using hc
  refine⟨_,by simp[binOp,Op.intDiv,hy],VF k _ ?_⟩
  rintro rfl
  have hx:=toI_u8_range x
  refine⟨Int.tmod_nonneg _ hx.1,?_⟩
  have h1:=Int.natAbs_tmod (toI .u8 x) (toI .u8 y)
  have h2:=Nat.mod_le (toI .u8 x).natAbs (toI .u8 y).natAbs
  omega
 |eql=>cases h;exact⟨_,by simp[binOp,Op.intCmp],gx _⟩
 |neq=>cases h;exact⟨_,by simp[binOp,Op.intCmp],gx _⟩
 |lss=>cases h;exact⟨_,by simp[binOp,Op.intCmp],gx _⟩
 |leq=>cases h;exact⟨_,by simp[binOp,Op.intCmp],gx _⟩
 |gtr=>cases h;exact⟨_,by simp[binOp,Op.intCmp],gx _⟩
 |geq=>cases h;exact⟨_,by simp[binOp,Op.intCmp],gx _⟩
 |shl=>exact absurd rfl hs.1
 |shr=>exact absurd rfl hs.2
 |and=>obtain⟨r,h1,h2⟩:=Tree.aB h;rw[Tree.dB]at h1;cases h2;obtain⟨h3,m,rfl⟩:=BY (P:=P) (w:=w) t h1;exact⟨_,h3,Qn k _⟩
 |or=>obtain⟨r,h1,h2⟩:=Tree.aB h;rw[Tree.dB]at h1;cases h2;obtain⟨h3,m,rfl⟩:=BY (P:=P) (w:=w) t h1;exact⟨_,h3,Qn k _⟩
 |xor=>obtain⟨r,h1,h2⟩:=Tree.aB h;rw[Tree.dB]at h1;cases h2;obtain⟨h3,m,rfl⟩:=BY (P:=P) (w:=w) t h1;exact⟨_,h3,Qn k _⟩
 |andNot=>obtain⟨r,h1,h2⟩:=Tree.aB h;rw[Tree.dB]at h1;cases h2;obtain⟨h3,m,rfl⟩:=BY (P:=P) (w:=w) t h1;exact⟨_,h3,Qn k _⟩
theorem HK {op:BinOp} {k k':IntKind} {x:Jq k} {b:Int} {v:az E.T} (t:TypeId) (h:(My E op k (toI k x) b).get=some v):
  ∃r,(binOp op t (.int k (toI k x)) (.int k' b)).run P w= .ok r w∧aZ E σ st w M v r:=by
 obtain⟨hc,h⟩:=Fw h
 have hb: ¬b<0:=by simpa using hc
 cases op with
 |shl=>cases h;exact⟨_,by simp[binOp,Op.shift,hb],Qn k _⟩
 |shr=>
  cases h
  refine⟨_,by simp[binOp,Op.shift,hb],VF k _ ?_⟩
  rintro rfl
  have hx:=toI_u8_range x
  have hp:(0:Int)<2^min b.toNat IntKind.u8.bits:=Int.pow_pos (by decide)
  rw[Int.fdiv_eq_ediv_of_nonneg _ (Int.le_of_lt hp)]
  refine⟨Int.ediv_nonneg hx.1 (Int.le_of_lt hp),?_⟩
  have:=Int.ediv_le_self (2^min b.toNat IntKind.u8.bits) hx.1
  omega
 |_=>cases h
theorem Sv {op:BinOp} {a b:ByteArray} {v:az E.T} (t:TypeId) (h:(Za E op a.data.toList b.data.toList).get=some v):
  ∃r,(binOp op t (.string a) (.string b)).run P w= .ok r w∧aZ E σ st w M v r:=by
 cases op with
 |add=>
  obtain⟨hc,h⟩:=fN h
  cases h
  have hl:a.size+b.size≤dK:=by
   have:=of_decide_eq_true hc
   rwa [Array.length_toList,Array.length_toList]at this
  have hmax: ¬IntKind.i64.max<(a.size:Int)+b.size:=by
   have:IntKind.i64.max=9223372036854775807:=rfl
   rw[this]
   unfold dK at hl
   omega
  refine⟨.string (a++b),?_,?_⟩
  ·have hm:IntKind.i64.max=9223372036854775807:=rfl
   simp only[binOp,Op.stringOp]
   rw[if_neg (by rw[Int.natCast_add];omega)]
   rfl
  ·have h:=mkStr (E:=E) (σ:=σ) (st:=st) (w:=w) (M:=M) (a++b) (by simpa using hl)
   have e:(a++b).data.toList=a.data.toList++b.data.toList:=by simp
   rwa [e]at h
 |eql=>
  cases h
  refine⟨_,?_,gx _⟩
  simp only[binOp,Op.stringOp,Sem.run_pure]
  rw[ByteArray.toList_eq,ByteArray.toList_eq]
 |neq=>
  cases h
  refine⟨_,?_,gx _⟩
  simp only[binOp,Op.stringOp,Sem.run_pure]
  rw[ByteArray.toList_eq,ByteArray.toList_eq]
 |_=>cases h
theorem Ex (S:Sound P E) (hst:bm E σ st w) {t:TypeId} {ty:Ty} (hag: ∀cs,toV ty cs= .agg cs.toArray) {x y v:az E.T} {u u':Value} {f:Bool→Bool} (ht:E.tk t= .data ty) (hc:E.cmp t=true) (he:I2 E depth ty=true)
  (hx:aZ E σ st w (MB σ st) x u) (hy:aZ E σ st w (MB σ st) y u') (h:(KX E st ty x y f).get=some v):
  ∃(xs ys:Array Value) (b:Bool),u= .agg xs∧u'= .agg ys∧(Op.equalIn 10000 t u u').run P w= .ok b w∧v= .val .bool (f b):=by
 obtain⟨a,h1,h⟩:=Tree.aB h
 obtain⟨b,h2,h⟩:=Tree.aB h
 cases h
 rw[Tree.dB]at h1 h2
 obtain⟨cs,hv1,rfl⟩:=np h1 hx
 obtain⟨cs',hv2,rfl⟩:=np h2 hy
 have c1:=toData_look S.todk hst depth h1 hv1
 have c2:=toData_look S.todk hst depth h2 hv2
 exact⟨_,_,_,hag cs,hag cs',Av S depth 10000 t ty a b cs cs' (by decide) he ht hc c1 c2,rfl⟩
theorem xW {t:TypeId} {x y:Value} {b:Bool} (h: ∀d,(Op.equalIn (d+1) t x y).run P w= .ok b w):(Op.equal t x y).run P w= .ok b w:=h 9999
theorem DJ (d:Nat) {t t':TypeId} {m:Array (String×TypeId)} {u:Value} (hu:P.underlying t=some (.interface m)):(Op.equalIn (d+1) t (.iface t' u) .nilIface).run P w= .ok false w:=by
 simp[Op.equalIn,bq hu]
theorem FG (d:Nat) {t:TypeId} {m:Array (String×TypeId)} (hu:P.underlying t=some (.interface m)):(Op.equalIn (d+1) t .nilIface .nilIface).run P w= .ok true w:=by
 simp[Op.equalIn,bq hu]
theorem Lg {t t':TypeId} {u:Value} {b:Bool} (h:(Op.equal t (.iface t' u) .nilIface).run P w= .ok b w):(binOp .eql t (.iface t' u) .nilIface).run P w= .ok (.bool b) w:=by
 simp only[binOp,Sem.run_bind,h,Result.andThen_ok,Sem.run_pure]
theorem Lf {t t':TypeId} {u:Value} {b:Bool} (h:(Op.equal t (.iface t' u) .nilIface).run P w= .ok b w):(binOp .neq t (.iface t' u) .nilIface).run P w= .ok (.bool (!b)) w:=by
 simp only[binOp,Sem.run_bind,h,Result.andThen_ok,Sem.run_pure]
theorem Gg {t:TypeId} {b:Bool} (h:(Op.equal t .nilIface .nilIface).run P w= .ok b w):(binOp .eql t .nilIface .nilIface).run P w= .ok (.bool b) w:=by
 simp only[binOp,Sem.run_bind,h,Result.andThen_ok,Sem.run_pure]
theorem Gf {t:TypeId} {b:Bool} (h:(Op.equal t .nilIface .nilIface).run P w= .ok b w):(binOp .neq t .nilIface .nilIface).run P w= .ok (.bool (!b)) w:=by
 simp only[binOp,Sem.run_bind,h,Result.andThen_ok,Sem.run_pure]
theorem Jg {t:TypeId} {x y b:Bool} (h:(Op.equal t (.bool x) (.bool y)).run P w= .ok b w):(binOp .eql t (.bool x) (.bool y)).run P w= .ok (.bool b) w:=by
 simp only[binOp,Sem.run_bind,h,Result.andThen_ok,Sem.run_pure]
theorem Jf {t:TypeId} {x y b:Bool} (h:(Op.equal t (.bool x) (.bool y)).run P w= .ok b w):(binOp .neq t (.bool x) (.bool y)).run P w= .ok (.bool (!b)) w:=by
 simp only[binOp,Sem.run_bind,h,Result.andThen_ok,Sem.run_pure]
theorem SG (S:Sound P E) (hst:bm E σ st w) {op:BinOp} {t:TypeId} {x y v:az E.T} {u u':Value} (xo yo:Operand) (h:(MM E st op t x y).get=some v) (hx:aZ E σ st w (MB σ st) x u) (hy:aZ E σ st w (MB σ st) y u'):
  ∃r,((do eqGuard op t xo yo u u';binOp op t u u'):Sem Value).run P w= .ok r w∧aZ E σ st w (MB σ st) v r:=by
 unfold MM at h
 split at h
 ·rename_i k a k' b
  have:=jd hx;subst this
  have:=jd hy;subst this
  simp only[Sem.run_bind,OT,Result.andThen_ok]
  split at h
  ·exact HK t h
  ·exact HK t h
  ·rename_i n1 n2
   split at h
   ·rename_i p _
    have:=p.down;subst this
    exact SC t ⟨n1,n2⟩ h
   ·cases h
 ·rename_i a b
  obtain⟨a,rfl,rfl,_⟩:=sJ hx
  obtain⟨b,rfl,rfl,_⟩:=sJ hy
  simp only[Sem.run_bind,OS,Result.andThen_ok]
  exact Sv t h
 ·rename_i a b
  have:=yR hx;subst this
  have:=yR hy;subst this
  simp only[Sem.run_bind,Mq,Result.andThen_ok]
  obtain⟨ht,h⟩:=Tree.aO h
  have hu:P.underlying t=some .bool:=(S.data t _ (kZ ht)).desc
  split at h<;>cases h
  ·exact⟨.bool (a==b),Jg (xW fun d=>run_equalIn_bool' (P:=P) w d t a b hu),gx _⟩
  ·exact⟨.bool (!(a==b)),Jf (xW fun d=>run_equalIn_bool' (P:=P) w d t a b hu),gx _⟩
 ·rename_i t' d
  obtain⟨ht,h⟩:=Tree.aO h
  have hi:E.tk t= .iface:=by
   unfold isIface at ht
   split at ht
   ·rename_i h;exact h
   ·cases ht
  obtain⟨⟨m,hu⟩,_⟩:=S.iface t hi
  cases hx with
  |data t d cs hv=>cases hv
  |fG t' d u hv=>
   cases hy with
   |data t d cs hv=>cases hv
   |cr=>
    have hg:(eqGuard op t xo yo (.iface t' u) .nilIface).run P w= .ok () w:=by cases op<;>simp[eqGuard]
    simp only[Sem.run_bind,hg,Result.andThen_ok]
    split at h<;>cases h
    ·exact⟨.bool false,Lg (xW fun d=>DJ d hu),gx _⟩
    ·exact⟨.bool true,Lf (xW fun d=>DJ d hu),gx _⟩
 ·split at h
  ·rename_i i ht
   obtain⟨hc,h⟩:=Tree.aO h
   rw[Bool.and_eq_true]at hc
   split at h
   ·obtain⟨xs,ys,b,rfl,rfl,hr,rfl⟩:=Ex S hst (fun _=>rfl) ht hc.1 hc.2 hx hy h
    refine⟨.bool b,?_,gx _⟩
    simp only[Sem.run_bind,run_eqGuard_agg w .eql t xo yo xs ys (S.cmp t hc.1).1,Result.andThen_ok,run_eql_struct,hr]
   ·obtain⟨xs,ys,b,rfl,rfl,hr,rfl⟩:=Ex S hst (fun _=>rfl) ht hc.1 hc.2 hx hy h
    refine⟨.bool (!b),?_,gx _⟩
    simp only[Sem.run_bind,run_eqGuard_agg w .neq t xo yo xs ys (S.cmp t hc.1).1,Result.andThen_ok,run_neq_struct,hr]
   ·cases h
  ·rename_i n e ht
   obtain⟨hc,h⟩:=Tree.aO h
   rw[Bool.and_eq_true]at hc
   split at h
   ·obtain⟨xs,ys,b,rfl,rfl,hr,rfl⟩:=Ex S hst (fun _=>rfl) ht hc.1 hc.2 hx hy h
    refine⟨.bool b,?_,gx _⟩
    simp only[Sem.run_bind,run_eqGuard_agg w .eql t xo yo xs ys (S.cmp t hc.1).1,Result.andThen_ok,run_eql_struct,hr]
   ·obtain⟨xs,ys,b,rfl,rfl,hr,rfl⟩:=Ex S hst (fun _=>rfl) ht hc.1 hc.2 hx hy h
    refine⟨.bool (!b),?_,gx _⟩
    simp only[Sem.run_bind,run_eqGuard_agg w .neq t xo yo xs ys (S.cmp t hc.1).1,Result.andThen_ok,run_neq_struct,hr]
   ·cases h
  ·cases h
theorem Sy (S:Sound P E) {op:BinOp} {t:TypeId} {xo yo:Operand} {x y:az E.T} {b:Bool} {u u':Value} (hi:isIface E t=true) (h:Sz E op xo yo x y=some b) (hx:aZ E σ st w M x u) (hy:aZ E σ st w M y u'):
  ((do eqGuard op t xo yo u u';binOp op t u u'):Sem Value).run P w= .ok (.bool b) w:=by
 have ht:E.tk t= .iface:=by
  unfold isIface at hi
  split at hi
  ·rename_i h;exact h
  ·cases hi
 obtain⟨⟨m,hu⟩,_⟩:=S.iface t ht
 unfold Sz at h
 split at h
 ·have hux:u= .nilIface:=by
   cases hx with
   |data t d cs hv=>cases hv
   |cr=>rfl
  have huy:u'= .nilIface:=by
   cases hy with
   |data t d cs hv=>cases hv
   |cr=>rfl
  subst hux;subst huy
  have he:(Op.equal t .nilIface .nilIface).run P w= .ok true w:=xW fun d=>FG d hu
  have hc:(∃c,xo= .const c)∨(∃c,yo= .const c):=by
   split at h
   ·exact .inl ⟨_,rfl⟩
   ·exact .inr ⟨_,rfl⟩
   ·cases h
  have hg:(eqGuard op t xo yo .nilIface .nilIface).run P w= .ok () w:=by
   rcases hc with⟨c,rfl⟩|⟨c,rfl⟩<;>cases op<;>simp[eqGuard]
  have hop:(op= .eql∧b=true)∨(op= .neq∧b=false):=by
   split at h
   ·split at h<;>cases h<;>simp
   ·split at h<;>cases h<;>simp
   ·cases h
  simp only[Sem.run_bind,hg,Result.andThen_ok]
  rcases hop with⟨rfl,rfl⟩|⟨rfl,rfl⟩
  ·exact Gg he
  ·exact Gf he
 ·cases h
theorem UP {op:UnOp} {x v:az E.T} {u:Value} (h:(dun E op x).get=some v) (hx:aZ E σ st w M x u): ∃r,(Op.unary op u).run P w= .ok r w∧aZ E σ st w M v r:=by
 unfold dun at h
 split at h
 ·cases h
  have:=yR hx;subst this
  exact⟨_,by simp[Op.unary],gx _⟩
 ·cases h
  have:=jd hx;subst this
  exact⟨_,by simp[Op.unary,Op.intArith],Qn _ _⟩
 ·cases h
theorem O0 (S:Sound P E) {t:TypeId} {x i v:az E.T} {u ui:Value} (h:(I6 E t x i).get=some v) (hx:aZ E σ st w M x u) (hi:aZ E σ st w M i ui):
  ∃y,(Instr.index t u ui).run P w= .ok y w∧aZ E σ st w M v y:=by
 unfold I6 at h
 split at h
 ·rename_i k a
  have:=jd hi;subst this
  split at h
  ·rename_i s
   obtain⟨ht,h1⟩:=Tree.aO h
   have hu:P.underlying t=some .string:=(S.data t _ (kZ ht)).desc
   obtain⟨hr,h2⟩:=fN h1
   rw[mT]at hr
   simp only[Tree.get]at h2
   obtain⟨y,hy,h3⟩:=Option.bind_eq_some_iff.1 h2
   cases h3
   obtain⟨b,rfl,rfl,_⟩:=sJ hx
   have hb:b[(toI k a).toNat]? =some y:=by
    rw[Array.getElem?_toList]at hy
    obtain⟨h4,h5⟩:=Array.getElem?_eq_some_iff.1 hy
    have h6:(toI k a).toNat<b.size:=h4
    rw[getElem?_pos b _ h6]
    exact congrArg some h5
   refine⟨.int .u8 y.toNat,?_,mkInt .u8 y⟩
   simp[Instr.index,asIntOf,bq hu,hr.1,hb]
  ·rename_i n e xs
   split at h
   ·rename_i n' e' ht
    obtain⟨hte,h1⟩:=Tree.aO h
    have hee:=dN hte
    obtain⟨hr,h2⟩:=fN h1
    rw[mT]at hr
    simp only[Tree.get]at h2
    obtain⟨y,hy,h3⟩:=Option.bind_eq_some_iff.1 h2
    cases h3
    clear h h1 h2
    cases hee
    obtain⟨te,hu,hte'⟩:=(S.data t _ ht).desc
    obtain⟨cs,rfl,hn,hl⟩:=UW hx
    obtain⟨c,l,r,h4,rfl,h6,_⟩:=bD.split S.todk hl _ y hy
    refine⟨toV e c,?_,.data e _ c (.val e y c h4)⟩
    have hp:=mQ S hte' (xs:=(l++c++r).toArray) (l:=l) (c:=c) (r:=r) (by simp) (cx.len S.todk h4) w
    rw[h6]at hp
    simp only[Instr.index,asIntOf,Sem.run_bind,Sem.run_pure,bq hu,Result.andThen_ok]
    rw[if_pos hr]
    simp only[Sem.run_bind,fy S hte',Result.andThen_ok,hp]
   ·cases h
  ·cases h
 ·cases h
theorem QW {mx:Bool} {x y v:az E.T} {u u':Value} (h:(QX E mx x y).get=some v) (hx:aZ E σ st w M x u) (hy:aZ E σ st w M y u'):
  ∃r,(match mx with|true=>Builtin.max2 u u'|false=>Builtin.min2 u u').run P w= .ok r w∧aZ E σ st w M v r:=by
 unfold QX at h
 split at h
 ·rename_i k a k' b
  have:=jd hx;subst this
  have:=jd hy;subst this
  split at h
  ·rename_i p _
   have:=p.down;subst this
   cases h
   cases mx with
   |true=>
    refine⟨_,by simp[Builtin.max2],VF k _ ?_⟩
    rintro rfl
    have:=toI_u8_range a
    have:=toI_u8_range b
    split<;>omega
   |false=>
    refine⟨_,by simp[Builtin.min2],VF k _ ?_⟩
    rintro rfl
    have:=toI_u8_range a
    have:=toI_u8_range b
    split<;>omega
  ·cases h
 ·cases h
end
open Go
noncomputable section
section
variable {P:Program} {E:Env} {w:World} {σ:Sg} {st:St E.T} {M:Nat→Prop}
def qi (P:Program) (E:Env) (σ:Sg) (st:St E.T) (w:World) (s:Sem Value) (v:az E.T) (st':St E.T):Prop:=
 ∃y w' σ',s.run P w= .ok y w'∧Mv σ σ' st st' w w'∧aZ E σ' st' w' (MB σ' st') v y
theorem qi.still (hst:bm E σ st w) {s:Sem Value} {v:az E.T} (h: ∃y,s.run P w= .ok y w∧aZ E σ st w (MB σ st) v y):qi P E σ st w s v st:=by
 obtain⟨y,h1,h2⟩:=h
 exact⟨y,w,σ,h1,Mv.refl hst,h2⟩
theorem IS (S:Sound P E) {t:TypeId} (h:CK E t=true): ∃d,P.underlying t=some d:=by
 unfold CK at h
 split at h
 ·rename_i ty ht
  have hd:=(S.data t ty ht).desc
  cases ty with
  |bool=>exact⟨_,hd⟩
  |int k=>exact⟨_,hd⟩
  |str=>exact⟨_,hd⟩
  |slice e=>obtain⟨te,hu,_⟩:=hd;exact⟨_,hu⟩
  |arr n e=>obtain⟨te,hu,_⟩:=hd;exact⟨_,hu⟩
  |named i=>obtain⟨te,hu,_⟩:=hd;exact⟨_,hu⟩
 ·cases h
theorem bD.bytes: ∀{xs:List UInt8} {cs:List Value},bD E w M (.int .u8) xs cs→cs=xs.map fun(b:UInt8)=>Value.int .u8 b.toNat
 |[],_,h=>by
  cases h with
  |nil e=>rfl
 |x::r,_,h=>by
  cases h with
  |cons e y r' c1 c2 h1 h2=>
   cases h1 with
   |int k x=>
    have:=bD.bytes (xs:=r) h2
    rw[this];rfl
theorem Eb (S:Sound P E) {src dst:TypeId} (hs:E.tk src= .data (.slice (.int .u8))) (hd:E.tk dst= .data .str) (a:Option Addr) (cap:Nat) (s:List UInt8) (cs:List Value) (hl:bD E w M (.int .u8) s cs) (hm:s=[]∨Mem w M a cs):
  (convert src dst (.slice a s.length cap)).run P w= .ok (.string ⟨s.toArray⟩) w:=by
 obtain⟨te,hu,hte⟩:=(S.data _ _ hs).desc
 have he:P.underlying te=some (.int .u8):=(S.data _ _ hte).desc
 have hd':P.underlying dst=some .string:=(S.data _ _ hd).desc
 have hcs:=bD.bytes hl
 subst hcs
 cases s with
 |nil=>
  rw[List.length_nil,run_convert_bytes_string w src dst te a 0 cap hu he hd']
  cases a with
  |none=>simp[Conv.bytesToString];rfl
  |some a=>simp[Conv.bytesToString,loadCells,loadCellsFrom];rfl
 |cons x r=>
  obtain⟨b,off,rfl,_,_,hq⟩:=hm.resolve_left (by simp)
  have h:=run_convert_bytes_arg (P:=P) w src te hu he b off (x::r).length cap ((x::r).map fun(b:UInt8)=>(b.toNat:Int)) (by simp) (by
   intro i hi
   refine hq i _ ?_
   rw[List.getElem?_map,List.getElem?_eq_getElem hi]
   rw[List.getD_eq_getElem?_getD,List.getElem?_map,List.getElem?_eq_getElem hi]
   rfl) dst hd'
  rw[h]
  have:strOfNums ((x::r).map fun(b:UInt8)=>(b.toNat:Int))=⟨(x::r).toArray⟩:=by
   simp[strOfNums,List.map_map,Function.comp_def]
  rw[this]
theorem Bq {v:Value} {l:RM} {e:Ty} {xs:List (I E.T e)}:aZ E (dL σ st.length v) (st++[.arr l e xs]) w M (.own st.length) v:=by
 have h:=aZ.data _ _ _ (VT.own (E:=E) (σ:=dL σ st.length v) (st:=st++[.arr l e xs]) (w:=w) (M:=M) st.length l e xs (by rw[ej,if_pos rfl]))
 have h2:toV (.slice e) [dL σ st.length v st.length]=v:=by simp[toV,dU,dL]
 rwa [h2]at h
theorem bD.xn: ∀(l:List UInt8),bD E w M (.int .u8) l (l.map fun(x:UInt8)=>Value.int .u8 x.toNat)
 |[]=> .nil _
 |x::r=> .cons (.int .u8) x r [_] _ (.int .u8 x) (bD.xn r)
theorem tQ (w:World) (cR old:Nat) (e:TypeId):cR≤grownCap w cR old e:=by
 unfold grownCap Question.cut
 exact Nat.le_add_right _ _
theorem D1 (w:World) (src te:TypeId) (hu:P.underlying src=some (.slice te)) (he:P.underlying te=some (.int .u8)) (g n cap:Nat) {c:Array Value} {el:TypeId} {fr:Nat×Nat} (hh:w.heap[g]? =some (.cells c el fr)):
  (convert src src (.slice (some ⟨g,0,none⟩) n cap)).run P w= .ok (.slice (some ⟨g,0,none⟩) n cap) (w.freeze ⟨g,c.size,none⟩ 1):=by
 have hs:w.shape? g=some (el,c.size):=by unfold World.shape?;rw[hh]
 simp[convert,bq hu,bq he,markStringish,shape,Sem.run,hs]
theorem KW (S:Sound P E) (hst:bm E σ st w) {src dst:TypeId} {x v:az E.T} {st':St E.T} {u:Value} (h:(yc E st src dst x).get=some (v,st')) (hx:aZ E σ st w (MB σ st) x u):
  qi P E σ st w (convert src dst u) v st':=by
 unfold yc at h
 obtain⟨hsd,h1⟩:=Tree.aO h
 clear h
 obtain⟨sd,hsu⟩:=IS S hsd
 split at h1
 ·rename_i k k' a ht
  cases h1
  have:=jd hx;subst this
  have hu:P.underlying dst=some (.int k):=(S.data _ _ ht).desc
  exact qi.still hst ⟨_,by simp[convert,bq hsu,bq hu,Conv.intToInt],Qn k _⟩
 ·rename_i s ht
  cases h1
  have hu:P.underlying dst=some .string:=(S.data _ _ ht).desc
  obtain⟨b,rfl,rfl,hb⟩:=sJ hx
  exact qi.still hst ⟨.string b,by simp[convert,bq hsu,bq hu],mkStr b hb⟩
 ·rename_i s ht
  obtain⟨hst',h2⟩:=Tree.aO h1
  clear h1
  cases h2
  have hsu:P.underlying src=some .string:=(S.data _ _ (kZ hst')).desc
  obtain⟨te,hu,hte⟩:=(S.data _ _ ht).desc
  have he:P.underlying te=some (.int .u8):=(S.data _ _ hte).desc
  obtain⟨b,rfl,rfl,hb⟩:=sJ hx
  have hrun:=run_bytes_of_string (P:=P) w src dst te b hsu hu he
  have hn:grownCap w b.size 0 te=b.size+(grownCap w b.size 0 te-b.size):=by have:=tQ w b.size 0 te;omega
  generalize hg:grownCap w b.size 0 te=cap at hrun hn
  have hsz:(bytesRow b cap).size=cap:=by simp[bytesRow];omega
  have m1:=Mv.drawn hst (w.drawn+1)
  have m2:=Mv.push m1.rep (.cells (bytesRow b cap) te ((bytesRow b cap).size,(bytesRow b cap).size+1)) (.slice (some ⟨w.heap.size,0,none⟩) b.size cap) (.arr .live (.int .u8) b.data.toList) (fun g hg=>jZ hg) (by
   have hlen:b.data.toList.length=b.size:=Array.length_toList
   refine .arr .live _ _ _ (gy.mk' E _ _ (cs:=b.data.toList.map fun(x:UInt8)=>Value.int .u8 x.toNat) (by rw[hlen];exact hb) (by rw[hlen];omega) (c:=bytesRow b cap) (el:=te) (fr:=((bytesRow b cap).size,(bytesRow b cap).size+1)) (by simp) (by simp[Env.size,hsz]) (fun q hq=> ?_) ?_ ?_ hlen.symm)
   ·have hq:=hq rfl
    simp only[Env.size,Nat.mul_one]at hq
    simp[World.frozen?,hsz];omega
   ·exact bD.xn _
   ·intro q u hq
    have hql:q<b.data.toList.length:=by simpa using (List.getElem?_eq_some_iff.1 hq).1
    have hql':q<b.data.size:=by simpa using hql
    rw[bytesRow,Array.getElem?_append_left (by simpa using hql'),Array.getElem?_map]
    rw[List.getElem?_map]at hq
    simpa using hq)
  exact⟨_,_,_,hrun,m1.trans m2,Bq⟩
 ·rename_i k ht
  obtain⟨hsd2,h2⟩:=Tree.aO h1
  clear h1
  obtain rfl:=Nat.eq_of_beq_eq_true hsd2
  split at h2
  ·rename_i xs hk
   obtain⟨hne,h3⟩:=Tree.aO h2
   cases h3
   obtain⟨te,hu,hte⟩:=(S.data _ _ ht).desc
   have he:P.underlying te=some (.int .u8):=(S.data _ _ hte).desc
   have hu0:=uQ hx
   subst hu0
   have hob:=hst.obj k _ hk
   generalize hσ:σ k=s at*
   cases hob with
   |arr _ _ _ _ hown=>
   rcases hown.2 with⟨_,h0⟩|⟨g,cap,c,el,fr,cs,rfl,hcap,hh,hcz,hfz,hlo,hq,ho⟩
   ·rw[h0]at hne;cases hne
   ·obtain⟨lo,hi⟩:=fr
    have hle:lo≤hi:=ho rfl
    have hrun:=D1 (P:=P) w src te hu he g xs.length (cap+1) hh
    have hglt:=(Array.getElem?_eq_some_iff.1 hh).1
    simp only[Env.size,Nat.mul_one]at hcz
    have hnew:(w.freeze ⟨g,c.size,none⟩ 1).heap[g]? =some (.cells c el (if lo==hi then(c.size,c.size+1)else(min lo c.size,max hi (c.size+1)))):=by
     simp[World.freeze,Array.getElem?_modify,hh]
    have hoth: ∀b,b≠g→(w.freeze ⟨g,c.size,none⟩ 1).heap[b]? =w.heap[b]? :=fun b hb=>by
     simp[World.freeze,Array.getElem?_modify,Ne.symm hb]
    have hcs:=bD.bytes hlo
    have m:=Mv.df hst hk (qy.refl _) id id (w.freeze ⟨g,c.size,none⟩ 1) (by simp[World.freeze]) (by simp[World.freeze]) (by simp[World.freeze]) (by simp[World.freeze]) (fun b hb=>hoth b (fun h=>hb rfl (by rw[hσ,h];rfl))) (by
     rw[hσ]
     refine .arr .live _ _ _ (gy.mk' E _ _ (cs:=cs) hown.1 hcap hnew (by simpa [Env.size]using hcz) (fun q hq'=> ?_) (by rw[hcs];exact bD.xn _) hq rfl (ho:=fun _=>by
      by_cases hlh:lo=hi
      ·subst hlh;simp
      ·have:(lo==hi)=false:=by simpa using hlh
       rw[this]
       simp only[Bool.false_eq_true,if_false]
       omega))
     have hq':=hq' rfl
     simp only[Env.size,Nat.mul_one]at hq'
     have h1:w.frozen? ⟨g,q,none⟩=false:=hfz q (fun _=>by simpa [Env.size]using hq')
     have h2:lo<hi→cap+1≤lo:=by
      intro hlt
      rcases Nat.lt_or_ge lo (cap+1)with h|h
      ·have h3:=hfz lo (fun _=>by simpa [Env.size]using h)
       simp[World.frozen?,hh,hlt]at h3
      ·exact h
     simp only[World.frozen?,hnew]
     simp only[World.frozen?,hh]at h1
     by_cases hlh:lo=hi
     ·subst hlh
      simp;omega
     ·have:(lo==hi)=false:=by simpa using hlh
      rw[this]
      simp only[Bool.false_eq_true,if_false]
      simp only[Bool.and_eq_false_iff,decide_eq_false_iff_not]at h1⊢
      rcases Nat.lt_or_ge lo hi with h|h
      ·have:=h2 h
       left;omega
      ·omega)
    refine⟨_,_,_,hrun,m,?_⟩
    have hv:=aZ.data _ _ _ (VT.own (E:=E) (σ:=σ) (st:=df st k (.arr .live (.int .u8) xs)) (w:=w.freeze ⟨g,c.size,none⟩ 1) (M:=MB σ (df st k (.arr .live (.int .u8) xs))) k .live (.int .u8) xs (by rw[bE,if_pos ⟨rfl,bM hk⟩]))
    rw[hσ]at hv
    exact hv
  ·cases h2
 ·rename_i n1 n2
  split at h1
  ·rename_i hts
   obtain⟨s,hs,h2⟩:=Tree.aB h1
   cases h2
   rw[Tree.dB]at hs
   obtain⟨cs,hv,rfl⟩:=np hs hx
   have hc:=toData_look S.todk hst depth hs hv
   cases hc with
   |slice e xs a cap cs hl hm hn hcap=>
    refine qi.still hst ⟨_,Eb S hts (by assumption) a cap s cs hl hm,UG s hn⟩
  ·cases h1
 ·cases h1
end
end
open Go
section
variable {P:Program} {E:Env} {w:World} {σ:Sg} {st:St E.T} {M:Nat→Prop}
theorem bD.replicate {e:Ty} {z:I E.T e} {c:List Value} (h:cx E w M e z c): ∀n,bD E w M e (List.replicate n z) (List.replicate n c).flatten
 |0=> .nil e
 |n+1=>by
  have:=bD.cons e z _ c _ h (bD.replicate h n)
  simpa [List.replicate_succ]using this
theorem Px {f:(t:Ty)→Option (I E.T t)} {g:Ty→List Value} (hf: ∀t z,f t=some z→cx E w M t z (g t)): ∀{ts:List Ty} {r:HL E.T ts},fp.zHL E f ts=some r→l7 E w M ts r (ts.flatMap g)
 |[],r,h=> .nil
 |t::ts,r,h=>by
  simp only[fp.zHL]at h
  split at h
  ·rename_i x hx
   split at h
   ·rename_i y hy
    cases h
    exact .cons t ts x y _ _ (hf t x hx) (Px hf hy)
   ·cases h
  ·cases h
theorem qI (ok:dk E): ∀(d:Nat) (t:Ty) (z:I E.T t),fp E d t=some z→cx E w M t z (dV E d t)
 |0,_,_,h=>by cases h
 |d+1,t,z,h=>by
  cases t with
  |bool=>cases h;exact .bool false
  |int k=>
   cases h
   have:=cx.int (E:=E) (w:=w) (M:=M) k (zU k 0)
   rw[toI_ofI k 0 (fun _=>⟨by decide,by decide⟩)]at this
   exact this
  |str=>cases h;exact .str ⟨#[]⟩ (Nat.zero_le _)
  |slice e=>cases h;exact .slice e [] none 0 [] (.nil e) (.inl rfl) (Nat.zero_le _) (Nat.le_refl _)
  |arr n e=>
   simp only[fp]at h
   split at h
   ·rename_i y hy
    cases h
    exact .arr n e _ _ (by simp) (bD.replicate (qI ok d e y hy) n)
   ·cases h
  |named i=>
   simp only[fp]at h
   split at h
   ·rename_i r hr
    cases h
    exact .named i _ _ (by rw[ok.pe];exact Px (fun t z=>qI ok d t z) hr)
   ·cases h
theorem Jv {f:(t:Ty)→Option (I E.T t)}: ∀(ts:List Ty),(∀t∈ts,∃z,f t=some z)→ ∃r,fp.zHL E f ts=some r
 |[],_=>⟨(),rfl⟩
 |t::ts,h=>by
  obtain⟨z,hz⟩:=h t (by simp)
  obtain⟨r,hr⟩:=Jv ts (fun t ht=>h t (by simp[ht]))
  exact⟨(z,r),by simp[fp.zHL,hz,hr]⟩
theorem ue: ∀(d:Nat) (t:Ty),Lv E d t=true→ ∃z,fp E d t=some z
 |0,_,h=>by cases h
 |d+1,t,h=>by
  cases t with
  |bool=>exact⟨_,rfl⟩
  |int k=>exact⟨_,rfl⟩
  |str=>exact⟨_,rfl⟩
  |slice e=>exact⟨_,rfl⟩
  |arr n e=>obtain⟨z,hz⟩:=ue d e h;exact⟨List.replicate n z,by simp only[fp,hz]⟩
  |named i=>
   simp only[Lv,List.all_eq_true]at h
   obtain⟨r,hr⟩:=Jv (f:=fp E d) (E.fields i) (fun t ht=>ue d t (h t ht))
   exact⟨E.CL i r,by simp only[fp,hr]⟩
theorem iw.map {f:Ty→az E.T} {g:Ty→List Value}: ∀(ts:List Ty),(∀t∈ts,VT E σ st w M t (f t) (g t))→iw E σ st w M ts (ts.map f) (ts.flatMap g)
 |[],_=> .nil
 |t::ts,h=> .cons t ts _ _ _ _ (h t (by simp)) (iw.map ts (fun t ht=>h t (by simp[ht])))
theorem mZ (ok:dk E): ∀(d:Nat) (t:Ty),Lv E d t=true→VT E σ st w M t (iN E d t) (dV E d t)
 |0,_,h=>by cases h
 |d+1,t,h=>by
  cases t with
  |bool=>exact .val _ _ _ (.bool false)
  |int k=>exact .val _ _ _ (qI ok (d+1) (.int k) _ rfl)
  |str=>exact .val _ _ _ (.str ⟨#[]⟩ (Nat.zero_le _))
  |slice e=>exact .bj e none
  |arr n e=>
   obtain⟨z,hz⟩:=ue d e h
   simp only[iN,hz]
   exact .val _ _ _ (qI ok (d+1) (.arr n e) _ (by simp only[fp,hz]))
  |named i=>
   simp only[Lv,List.all_eq_true]at h
   exact .agg i _ _ (iw.map _ (fun t ht=>mZ ok d t (h t ht)))
theorem QO (l:List Value): ∀(k off:Nat) (c:Array Value),(l.zipIdx k).foldl (fun cs x=>cs.setIfInBounds (off+x.2) x.1) c=qa c (off+k) l:=by
 induction l with
 |nil=>intro k off c;rfl
 |cons v r ih=>
  intro k off c
  rw[List.zipIdx_cons,List.foldl_cons,ih (k+1) off]
  rfl
theorem CR (vs:Array Value) (off:Nat) (c:Array Value):vs.zipIdx.foldl (fun cs (x:Value×Nat)=>cs.setIfInBounds (off+x.2) x.1) c=qa c off vs.toList:=by
 rw[←Array.foldl_toList,Array.toList_zipIdx]
 exact QO vs.toList 0 off c
inductive wB (E:Env) (σ:Sg) (st:St E.T) (w:World) (M:Nat→Prop):List (Nat×az E.T)→List (Nat×Value)→Prop where
 |nil:wB E σ st w M [] []
 |cons (j:Nat) (x:az E.T) (u:Value) (ps:List (Nat×az E.T)) (us:List (Nat×Value)) (h:aZ E σ st w M x u) (h':wB E σ st w M ps us):wB E σ st w M ((j,x) ::ps) ((j,u) ::us)
theorem iw.length: ∀{ts:List Ty} {fs:List (az E.T)} {cs:List Value},iw E σ st w M ts fs cs→fs.length=ts.length
 |_,_,_,.nil=>rfl
 |_,_,_,.cons t ts v r c1 c2 h h'=>by simp[iw.length h']
theorem Nz (ok:dk E) {ts:List Ty} {ev:Nat→Value} {place:Nat→Option (Nat×Nat)} (hp: ∀j t,aR ts j=some t→place j=some (((ts.take j).map E.size).sum,E.size t)):
  ∀(ps:List (Nat×az E.T)) (us:List (Nat×Value)) {fs:List (az E.T)} {cur:Array Value} {f:List (az E.T)→Tree (az E.T)} {v:az E.T},
   (∀(x:az E.T) (u:Value),aZ E σ st w M x u→ ∀t,qg E st t x=true→ ∃cs,VT E σ st w M t x cs∧u.cells=cs.toArray)→
   wB E σ st w M ps us→iw E σ st w M ts fs cur.toList→(kI.fill E st ts fs ps f).get=some v→
   ∃fs' cur',Instr.fill place cur us=some cur'∧iw E σ st w M ts fs' cur'.toList∧(f fs').get=some v
 |[],us,fs,cur,f,v,hcell,hu,hv,h=>by
  cases hu
  exact⟨fs,cur,rfl,hv,h⟩
 |(j,x) ::ps,us,fs,cur,f,v,hcell,hu,hv,h=>by
  cases hu with
  |cons j x u ps us hx hr=>
   simp only[kI.fill]at h
   split at h
   ·rename_i t ht
    obtain⟨hfit,h1⟩:=Tree.aO h
    clear h
    obtain⟨cs,hvt,hcs⟩:=hcell x u hx t hfit
    have hjl:j<fs.length:=by
     have h1:=bM ht
     have h2:=iw.length hv
     omega
    obtain⟨t1,c,l,r,e1,e2,e3,e4,e5⟩:=iw.at ok hv j _ (nu (d:= .undef) hjl)
    rw[ht]at e1;cases e1
    have hlen:c.length=cs.length:=by rw[VT.len ok e2,VT.len ok hvt]
    have hspl:(qa cur l.length cs).toList=l++cs++r:=Eg e3 hlen
    have hsize:cur.size=l.length+c.length+r.length:=by rw[←Array.length_toList,e3];simp;omega
    obtain⟨fs',cur',g1,g2,g3⟩:=Nz ok (ev:=ev) hp ps us (fs:=df fs j x) (cur:=qa cur l.length cs) hcell hr (by rw[hspl];exact e5 x cs hvt) h1
    refine⟨fs',cur',?_,g2,g3⟩
    simp only[Instr.fill,hp j t ht,hcs]
    have hl2:=VT.len ok hvt
    have hno: ¬(cs.toArray.size≠E.size t∨((ts.take j).map E.size).sum+cs.toArray.size>cur.size):=by
     rw[←e4]
     simp only[List.size_toArray]
     omega
    rw[if_neg (by rw[Bool.or_eq_true,decide_eq_true_eq,decide_eq_true_eq];exact hno)]
    have:=CR cs.toArray l.length cur
    simp only[e4]at this⊢
    rw[this]
    simpa [e4]using g1
   ·cases h
end
open Go
section
variable {P:Program} {E:Env} {w:World} {σ:Sg} {st:St E.T} {M:Nat→Prop}
theorem KD (ok:dk E) (hst:bm E σ st w) (x:az E.T) (u:Value) (h:aZ E σ st w M x u) (t:Ty) (hf:qg E st t x=true): ∃cs,VT E σ st w M t x cs∧u.cells=cs.toArray∧u=toV t cs:=by
 obtain⟨t',cs,hv,rfl⟩:=Q5 ⟨t,hf⟩ h
 have h2:=rE hv hf
 have he:toV t' cs=toV t cs:=by
  cases hv with
  |val t' x cs h=>have:=dN hf;subst this;rfl
  |bj e a=>cases t<;>first|rfl|cases hf
  |own k l e xs hk=>
   simp only[qg,hk]at hf
   have:=dN hf;subst this;rfl
  |dA e v h=>cases hf
  |agg i fs cs h=>cases t<;>first|(have:=Nat.eq_of_beq_eq_true hf;subst this;rfl)|cases hf
 refine⟨cs,h2,?_,he⟩
 rw[he]
 exact toV_cells (VT.one hst h2) (fun ha=>by rw[VT.len ok h2];exact nh ha)
theorem tJ (S:Sound P E) {t:TypeId} {ty:Ty} (h:E.tk t= .data ty) (w:World):(zeroValue t).run P w= .ok (toV ty (dV E depth ty)) w:=by
 obtain⟨i,hi,_,_,hz⟩:=(S.data t ty h).info
 simp[zeroValue,w9 hi,hz]
theorem iS (S:Sound P E) {t:TypeId} {ty:Ty} (h:E.tk t= .data ty) (hst:bm E σ st w):(toV ty (dV E depth ty)).cells=(dV E depth ty).toArray:=by
 have hv:=mZ (σ:=σ) (st:=st) (w:=w) (M:=MB σ st) S.todk depth ty (S.data t ty h).deep
 exact toV_cells (VT.one hst hv) (fun ha=>by rw[VT.len S.todk hv];exact nh ha)
theorem run_places (S:Sound P E) {i:Nat}: ∀(fl:List Field),(∀f∈fl,∃ty,E.tk f.type= .data ty)→ ∀(w:World),(fl.mapM (fun(f:Field)=>do pure (f.offset,←sizeOf f.type):Field→Sem (Nat×Nat))).run P w=
  .ok (fl.map fun f=>(f.offset,P.cellsOf f.type)) w
 |[],_,w=>by simp
 |f::fl,h,w=>by
  obtain⟨ty,ht⟩:=h f (by simp)
  obtain⟨inf,hi,hs,_⟩:=(S.data _ _ ht).info
  have hc:P.cellsOf f.type=inf.size:=by simp[Program.cellsOf,hi]
  have hr:=run_places S (i:=i) fl (fun f hf=>h f (by simp[hf])) w
  simp only[List.mapM_cons,Sem.run_bind,q8 hi,Result.andThen_ok,Sem.run_pure,hr,List.map_cons,hc]
theorem GO (S:Sound P E) (hst:bm E σ st w) {t:TypeId} {i:Nat} (ht:E.tk t= .data (.named i)) {ps:List (Nat×az E.T)} {us:List (Nat×Value)} {v:az E.T} (hu:wB E σ st w (MB σ st) ps us)
  (h:(kI.fill E st (E.fields i) ((E.fields i).map (iN E depth)) ps fun fs=> .ret (.agg i fs)).get=some v):
  ∃y,(Instr.build t us.toArray).run P w= .ok y w∧aZ E σ st w (MB σ st) v y:=by
 obtain⟨fs,hun,hsz,hfs⟩:=(S.data t _ ht).desc
 have hdeep:=(S.data t _ ht).deep
 have hz:=mZ (σ:=σ) (st:=st) (w:=w) (M:=MB σ st) S.todk depth (.named i) hdeep
 have hdeep': ∀ty∈E.fields i,Lv E 7 ty=true:=by simpa [Lv,depth]using hdeep
 have hz2:iw E σ st w (MB σ st) (E.fields i) ((E.fields i).map (iN E depth)) (dV E depth (.named i)):=by
  have h8: ∀(d:Nat) (t:Ty),Lv E d t=true→iN E (d+1) t=iN E d t∧dV E (d+1) t=dV E d t∧fp E (d+1) t=fp E d t:=by
   intro d
   induction d with
   |zero=>intro t h;cases h
   |succ d ih=>
    intro t h
    cases t with
    |bool=>exact⟨rfl,rfl,rfl⟩
    |int k=>exact⟨rfl,rfl,rfl⟩
    |str=>exact⟨rfl,rfl,rfl⟩
    |slice e=>exact⟨rfl,rfl,rfl⟩
    |arr n e=>
     obtain⟨h1,h2,h3⟩:=ih e h
     refine⟨?_,?_,?_⟩
     ·rw[iN,h3];rfl
     ·rw[dV,h2];rfl
     ·rw[fp,h3];rfl
    |named j=>
     simp only[Lv,List.all_eq_true]at h
     refine⟨?_,?_,?_⟩
     ·rw[iN,iN];congr 1;exact List.map_congr_left fun t ht=>(ih t (h t ht)).1
     ·rw[dV,dV]
      have: ∀(ts:List Ty),(∀t∈ts,Lv E d t=true)→ts.flatMap (dV E (d+1))=ts.flatMap (dV E d):=by
       intro ts
       induction ts with
       |nil=>intro _;rfl
       |cons t ts iht=>intro h;simp only[List.flatMap_cons];rw[(ih t (h t (by simp))).2.1,iht (fun t ht=>h t (by simp[ht]))]
      exact this _ h
     ·rw[fp,fp]
      have: ∀(ts:List Ty),(∀t∈ts,Lv E d t=true)→fp.zHL E (fp E (d+1)) ts=fp.zHL E (fp E d) ts:=by
       intro ts
       induction ts with
       |nil=>intro _;rfl
       |cons t ts iht=>intro h;simp only[fp.zHL];rw[(ih t (h t (by simp))).2.2,iht (fun t ht=>h t (by simp[ht]))]
      rw[this _ h]
  have e1:(E.fields i).map (iN E depth)=(E.fields i).map (iN E 7):=List.map_congr_left fun t ht=>(h8 7 t (hdeep' t ht)).1
  rw[e1]
  exact iw.map _ (fun t ht=>mZ S.todk 7 t (hdeep' t ht))
 obtain⟨fs',cur',g1,g2,g3⟩:=Nz S.todk (ev:=fun _=> .nilFunc) (place:=fun j=>(fs.toList.map fun f=>(f.offset,P.cellsOf f.type)).toArray[j]?) (ts:=E.fields i) (by
   intro j t' hj
   have hjl:j<fs.size:=by rw[hsz];exact bM hj
   obtain⟨ty,a1,a2,a3,_⟩:=hfs j _ (Array.getElem?_eq_getElem hjl)
   rw[hj]at a1;cases a1
   obtain⟨inf,hi,hs,_⟩:=(S.data _ _ a2).info
   simp[hjl,a3,Env.qu,Program.cellsOf,hi,hs]) ps us (cur:=(dV E depth (.named i)).toArray)
  (fun x u hx t hf=>by obtain⟨cs,c1,c2,_⟩:=KD S.todk hst x u hx t hf;exact⟨cs,c1,c2⟩) hu (by simpa using hz2) h
 cases g3
 refine⟨.agg cur',?_,?_⟩
 ·have hm:(fs.mapM (fun(f:Field)=>do pure (f.offset,←sizeOf f.type):Field→Sem (Nat×Nat))).run P w= .ok (fs.toList.map fun f=>(f.offset,P.cellsOf f.type)).toArray w:=by
   rw[Array.mapM_eq_mapM_toList,Sem.run_map,run_places S (i:=i) fs.toList (fun f hf=>by
    obtain⟨j,hj,rfl⟩:=List.getElem_of_mem hf
    obtain⟨ty,_,a2,_⟩:=hfs j _ (Array.getElem?_eq_getElem (by simpa using hj))
    exact⟨ty,a2⟩) w]
   rfl
  have hzc:=iS S ht hst
  unfold Instr.build
  simp only[Sem.run_bind,tJ S ht,Result.andThen_ok,bq hun,hm,hzc]
  simp only[g1]
  rfl
 ·have:=aZ.data _ _ _ (VT.agg i fs' cur'.toList g2)
  simpa [toV,dU]using this
end
open Go
noncomputable section
section
variable {P:Program} {E:Env} {w:World} {σ:Sg} {st:St E.T} {M:Nat→Prop}
theorem OW (ok:dk E) (hst:bm E σ st w) {e:Ty} {v:az E.T} {u:Value} {xs:List (I E.T e)} (h:elems E st e v=some xs) (hv:aZ E σ st w (MB σ st) v u):
  ∃a cap cs,u= .slice a xs.length cap∧bD E w (MB σ st) e xs cs∧(xs=[]∨Mem w (fun _=>False) a cs)∧xs.length≤dK∧xs.length≤cap:=by
 obtain⟨cs,hvt,rfl⟩:=np h hv
 cases hvt with
 |val t x cs hc=>
  simp only[elems,depth,toData]at h
  split at h
  ·rename_i p _
   cases p with|up p=>
   cases h
   cases hc with
   |slice e xs a cap cs hl hm hn hcp=>
    refine⟨a,cap,cs,rfl,hl,hm.imp id fun hm=> ?_,hn,hcp⟩
    obtain⟨b,off,h1,h2,h3,h4⟩:=hm
    exact⟨b,off,h1,fun h=>h,h3,h4⟩
  ·cases h
 |bj e a=>
  simp only[elems,depth,toData,Option.some.injEq]at h
  subst h
  exact⟨a,0,[],rfl,.nil e,.inl rfl,Nat.zero_le _,Nat.le_refl _⟩
 |own k l e xs' hk=>
  simp only[elems,depth,toData,hk]at h
  split at h
  ·rename_i p _
   cases p with|up p=>
   cases h
   have hob:=hst.obj k _ hk
   generalize σ k=s at hob
   cases hob with
   |arr l e xs v hr=>
    rcases hr.2 with⟨⟨a,rfl⟩,rfl⟩|⟨g,cap,c,el,fr,cs,rfl,hcap,hh,hz,hf,hl,hq,hord⟩
    ·exact⟨a,0,[],rfl,.nil e,.inl rfl,Nat.zero_le _,Nat.le_refl _⟩
    ·refine⟨_,cap+1,cs,rfl,hl,.inr ⟨g,0,rfl,fun h=>h,(Array.getElem?_eq_some_iff.1 hh).1,fun q v hv=> ?_⟩,hr.1,hcap⟩
     simp[World.cell?,hh,hq q v hv]
  ·cases h
 |dA e v h1=>simp[elems,depth,toData]at h
theorem toHLWith_mono {f g:(t:Ty)→az E.T→Option (I E.T t)} (hf: ∀t d x,f t d=some x→g t d=some x):
  ∀{ts:List Ty} {fs:List (az E.T)} {r:HL E.T ts},toHLWith E f ts fs=some r→toHLWith E g ts fs=some r
 |[],[],r,h=>h
 |t::ts,v::vs,r,h=>by
  simp only[toHLWith]at h
  split at h
  ·rename_i x hx
   split at h
   ·rename_i y hy
    cases h
    simp only[toHLWith,hf t v x hx,toHLWith_mono hf hy]
   ·cases h
  ·cases h
 |[],_::_,r,h=>by simp[toHLWith]at h
 |_::_,[],r,h=>by simp[toHLWith]at h
theorem toData_mono (st:St E.T): ∀(n:Nat) {t:Ty} {d:az E.T} {x:I E.T t},toData E [] n t d=some x→toData E st n t d=some x
 |0,_,_,_,h=>by cases h
 |n+1,t,d,x,h=>by
  cases d with
  |val t' y=>exact h
  |bj=>exact h
  |own k=>simp[toData,dF,cP,cQ]at h
  |agg i fs=>
   cases t with
   |named j=>
    simp only[toData]at h⊢
    split at h
    ·split at h
     ·rename_i r hr
      rw[toHLWith_mono (fun t d x=>toData_mono st n) hr]
      exact h
     ·cases h
    ·cases h
   |_=>simp[toData]at h
  |_=>simp[toData]at h
theorem He (ok:dk E) {e:Ty} {x:az E.T} {u:Value} {y:I E.T e} (hy:toData E [] depth e x=some y) (hx:aZ E σ st w M x u): ∃cs,cx E w M e y cs∧u.cells=cs.toArray:=by
 obtain⟨cs,hvt,rfl⟩:=np (toData_mono st depth hy) hx
 have hc:=toData_nil ok depth hy hvt
 refine⟨cs,hc,toV_cells (cx.one hc) (fun ha=>by rw[cx.len ok hc];exact nh ha)⟩
theorem KG (ok:dk E) {e:Ty} {f:List (I E.T e)→Tree (az E.T)} {v:az E.T}:
  ∀(ps:List (Nat×az E.T)) (us:List (Nat×Value)) {xs:List (I E.T e)} {cur:Array Value},
   wB E σ st w M ps us→bD E w M e xs cur.toList→(kI.fillL E e xs ps f).get=some v→
   ∃xs' cur',Instr.fill (fun i=>some (i*E.size e,E.size e)) cur us=some cur'∧bD E w M e xs' cur'.toList∧xs'.length=xs.length∧(f xs').get=some v
 |[],us,xs,cur,hu,hv,h=>by
  cases hu
  exact⟨xs,cur,rfl,hv,rfl,h⟩
 |(j,x) ::ps,us,xs,cur,hu,hv,h=>by
  cases hu with
  |cons j x u ps us hx hr=>
   simp only[kI.fillL]at h
   obtain⟨y,hy,h1⟩:=Tree.aB h
   rw[Tree.dB]at hy
   obtain⟨hj,h2⟩:=Tree.aO h1
   clear h h1
   rw[Nat.blt_eq]at hj
   obtain⟨cs,hc,hcs⟩:=He ok hy hx
   obtain⟨c,l,r,e1,e2,e3,e4⟩:=bD.split ok hv j _ (List.getElem?_eq_getElem hj)
   have hlc:c.length=cs.length:=by rw[cx.len ok e1,cx.len ok hc]
   have hspl:(qa cur l.length cs).toList=l++cs++r:=Eg e2 hlc
   obtain⟨xs',cur',g1,g2,g3,g4⟩:=KG ok ps us (xs:=df xs j y) (cur:=qa cur l.length cs) hr (by rw[hspl,EG];exact e4 y cs hc) h2
   refine⟨xs',cur',?_,g2,by rw[g3,dH],g4⟩
   have hsize:cur.size=l.length+c.length+r.length:=by rw[←Array.length_toList,e2];simp;omega
   have hl2:=cx.len ok hc
   simp only[Instr.fill,hcs]
   have hno: ¬(cs.toArray.size≠E.size e∨j*E.size e+cs.toArray.size>cur.size):=by
    rw[←e3]
    simp only[List.size_toArray]
    omega
   rw[if_neg (by rw[Bool.or_eq_true,decide_eq_true_eq,decide_eq_true_eq];exact hno)]
   have:=CR cs.toArray l.length cur
   rw[←e3,this]
   simpa using g1
theorem MK (S:Sound P E) (hst:bm E σ st w) {t:TypeId} {n:Nat} {e:Ty} (ht:E.tk t= .data (.arr n e)) {ps:List (Nat×az E.T)} {us:List (Nat×Value)} {v:az E.T} {z:List (I E.T e)} (hz:fp E depth (.arr n e)=some z)
  (hu:wB E σ st w (MB σ st) ps us) (h:(kI.fillL E e z ps fun xs=> .ret (.val (.arr n e) xs)).get=some v):
  ∃y,(Instr.build t us.toArray).run P w= .ok y w∧aZ E σ st w (MB σ st) v y:=by
 obtain⟨te,hun,hte⟩:=(S.data t _ ht).desc
 have hzc:=qI (w:=w) (M:=MB σ st) S.todk depth (.arr n e) z hz
 cases hzc with
 |arr n e xs cs hn hl=>
  obtain⟨xs',cur',g1,g2,g3,g4⟩:=KG (v:=v) (f:=fun xs=> .ret (.val (.arr n e) xs)) S.todk ps us (cur:=(dV E depth (.arr n e)).toArray) hu (by simpa using hl) h
  cases g4
  refine⟨.agg cur',?_,?_⟩
  ·have hzc:=iS S ht hst
   unfold Instr.build
   simp only[Sem.run_bind,tJ S ht,Result.andThen_ok,bq hun,fy S hte,hzc,g1]
   rfl
  ·have:=aZ.data (σ:=σ) (st:=st) _ _ _ (VT.val _ _ _ (cx.arr n e xs' cur'.toList (by omega) g2))
   simpa [toV,dU]using this
theorem O7 (S:Sound P E) (hst:bm E σ st w) {t:TypeId} {ps:List (Nat×az E.T)} {us:List (Nat×Value)} {v:az E.T} (hu:wB E σ st w (MB σ st) ps us) (h:(kI E st t ps).get=some v):
  ∃y,(Instr.build t us.toArray).run P w= .ok y w∧aZ E σ st w (MB σ st) v y:=by
 unfold kI at h
 split at h
 ·rename_i i ht;exact GO S hst ht hu h
 ·rename_i n e ht
  obtain⟨z,hz,h⟩:=Tree.aB h
  rw[Tree.dB]at hz
  exact MK S hst ht hz hu h
 ·cases h
theorem bD.append: ∀{e:Ty} {xs:List (I E.T e)} {c1:List Value},bD E w M e xs c1→ ∀{ys:List (I E.T e)} {c2:List Value},bD E w M e ys c2→bD E w M e (xs++ys) (c1++c2)
 |_,_,_,.nil e,_,_,h=>h
 |_,_,_,.cons e x r d1 d2 h h',_,_,k=>by
  have:=bD.cons e x _ d1 _ h (bD.append h' k)
  simpa using this
theorem N7 {l:List Value} {n:Nat} {c a b r:List Value} (h:l=a++c++r) (ha:a.length=n):l.take (n+c.length)=l.take n++c:=by
 subst h
 rw[←ha,List.append_assoc,List.take_left,show a.length+c.length=(a++c).length by simp,←List.append_assoc,List.take_left]
theorem MV (ok:dk E) {e:Ty} {v:az E.T}:
  ∀(ps:List (Nat×az E.T)) (us:List (Nat×Value)) (i:Nat) {xs:List (I E.T e)} {cur:Array Value} {f:List (I E.T e)→Tree (az E.T)},
   wB E σ st w M ps us→cur.size=(i+ps.length)*E.size e→xs.length=i→bD E w M e xs (cur.toList.take (i*E.size e))→(eV.all E e i ps f).get=some v→
   ∃ys cur',Instr.fill (fun i=>some (i*E.size e,E.size e)) cur us=some cur'∧bD E w M e (xs++ys) cur'.toList∧ys.length=ps.length∧cur'.size=cur.size∧(f ys).get=some v
 |[],us,i,xs,cur,f,hu,hs,hx,hl,h=>by
  cases hu
  refine⟨[],cur,rfl,?_,rfl,rfl,h⟩
  rw[List.append_nil]
  rwa [List.take_of_length_le (by rw[Array.length_toList,hs];simp)]at hl
 |(j,x) ::ps,us,i,xs,cur,f,hu,hs,hx,hl,h=>by
  cases hu with
  |cons j x u ps us hx' hr=>
   simp only[eV.all]at h
   obtain⟨hij,h1⟩:=Tree.aO h
   have:=Nat.eq_of_beq_eq_true hij;subst this
   obtain⟨y,hy,h2⟩:=Tree.aB h1
   rw[Tree.dB]at hy
   clear h h1
   obtain⟨cs,hc,hcs⟩:=He ok hy hx'
   have hlc:=cx.len ok hc
   have hs':cur.size=i*E.size e+E.size e+ps.length*E.size e:=by rw[hs,List.length_cons];simp only[Nat.add_mul,Nat.one_mul];omega
   have hll:(cur.toList.take (i*E.size e)).length=i*E.size e:=by rw[List.length_take,Array.length_toList];omega
   have hspl:(qa cur (i*E.size e) cs).toList=cur.toList.take (i*E.size e)++cs++cur.toList.drop (i*E.size e+E.size e):=by
    have:=Eg (c:=cur) (l:=cur.toList.take (i*E.size e)) (m:=(cur.toList.drop (i*E.size e)).take (E.size e)) (r:=cur.toList.drop (i*E.size e+E.size e)) (vs:=cs) (by
     rw[List.append_assoc,←List.drop_drop,List.take_append_drop,List.take_append_drop]) (by
     rw[List.length_take,List.length_drop,Array.length_toList];omega)
    rw[hll]at this
    exact this
   obtain⟨ys,cur',g1,g2,g3,g4,g5⟩:=MV ok ps us (i+1) (xs:=xs++[y]) (cur:=qa cur (i*E.size e) cs) hr (by rw[gD,hs'];simp only[Nat.add_mul,Nat.one_mul]) (by simp[hx]) (by
    have h3:(i+1)*E.size e=i*E.size e+cs.length:=by rw[hlc,Nat.add_mul,Nat.one_mul]
    have h4:=N7 (b:=[]) hspl hll
    have h5:(qa cur (i*E.size e) cs).toList.take (i*E.size e)=cur.toList.take (i*E.size e):=by
     rw[hspl,List.append_assoc]
     exact List.take_left' hll
    rw[h3,h4,h5]
    have h6:bD E w M e [y] cs:=by
     have:=bD.cons e y [] cs [] hc (.nil e)
     simpa using this
    exact bD.append hl h6) h2
   refine⟨y::ys,cur',?_,by simpa using g2,by simp[g3],by rw[g4,gD],g5⟩
   simp only[Instr.fill,hcs]
   have hno: ¬(cs.toArray.size≠E.size e∨i*E.size e+cs.toArray.size>cur.size):=by
    simp only[List.size_toArray]
    omega
   rw[if_neg (by rw[Bool.or_eq_true,decide_eq_true_eq,decide_eq_true_eq];exact hno)]
   have:=CR cs.toArray (i*E.size e) cur
   rw[this]
   simpa using g1
theorem Qo {w':World} {g:Nat} {c:Array Value} {el:TypeId} {fr:Nat×Nat} {cs:List Value} (hh:w'.heap[g]? =some (.cells c el fr)) (hM: ¬M g) (hc: ∀(q:Nat) (v:Value),cs[q]? =some v→c[q]? =some v):
  Mem w' M (some ⟨g,0,none⟩) cs:=by
 refine⟨g,0,rfl,hM,(Array.getElem?_eq_some_iff.1 hh).1,fun q v hv=> ?_⟩
 simp[World.cell?,hh,hc q v hv]
theorem DY (hst:bm E σ st w) {b:Nat} (h:MB σ st b):b<w.heap.size:=by
 rcases h with h|⟨o,ob,ho,hm,hb⟩
 ·exact hst.qh b h
 exact lO hst ho (by cases ob<;>first|rfl|cases hm) hb
theorem zI (σ:Sg) (st:St E.T) {e:Ty} {xs:List (I E.T e)} {a:Option Addr} {cap:Nat} {cs:List Value} (hl:bD E w M e xs cs) (hm:xs=[]∨Mem w M a cs) (hn:xs.length≤dK) (hc:xs.length≤cap):aZ E σ st w M (.val (.slice e) xs) (.slice a xs.length cap):=
 aZ.data _ _ _ (VT.val _ _ _ (cx.slice e xs a cap cs hl hm hn hc))
theorem nJ (S:Sound P E) (hst:bm E σ st w) {t:TypeId} {n:Nat} {ps:List (Nat×az E.T)} {us:List (Nat×Value)} {v:az E.T} (hu:wB E σ st w (MB σ st) ps us) (h:(eV E st t n ps).get=some v):
  qi P E σ st w (Instr.buildSlice t n us.toArray) v st:=by
 unfold eV at h
 split at h
 ·rename_i e ht
  obtain⟨te,hun,hte⟩:=(S.data t _ ht).desc
  split at h
  ·cases h
   cases hu
   refine⟨.slice (some ⟨w.heap.size,0,none⟩) 0 0,w.alloc (.cells #[] te),σ,?_,Mv.grow hst _,.data _ _ _ (.bj e _)⟩
   unfold Instr.buildSlice
   simp[bq hun,fy S hte,Instr.fill,newRow,Array.range_zero']
  ·rename_i n' ps' _
   obtain⟨hb,h1⟩:=Tree.aO h
   clear h
   rw[Bool.and_eq_true]at hb
   have hn:=Nat.eq_of_beq_eq_true hb.1
   have hb2:=hb.2
   rw[Bool.and_eq_true]at hb2
   have hbig:=Nat.le_of_ble_eq_true hb2.1
   have hlim:=Nat.le_of_ble_eq_true hb2.2
   clear hb2
   clear hb
   subst hn
   obtain⟨z,hz⟩: ∃z:Array Value,z=(if ps.length*E.size e=0 then(#[]:Array Value)else(dV E depth e).toArray):=⟨_,rfl⟩
   obtain⟨ys,cur',g1,g2,g3,g4,g5⟩:=MV (v:=v) (f:=fun xs=> .ret (.val (.slice e) xs)) S.todk ps us 0 (xs:=[]) (cur:=madeCells z (ps.length*E.size e)) hu (by rw[size_madeCells,Nat.zero_add]) rfl (by rw[Nat.zero_mul];exact .nil e) h1
   cases g5
   have hm:=Mv.grow hst (.cells cur' te)
   refine⟨.slice (some ⟨w.heap.size,0,none⟩) ps.length ps.length,w.alloc (.cells cur' te),σ,?_,hm,?_⟩
   ·unfold Instr.buildSlice
    have hgt: ¬(ps.length*E.size e>2^24):=by omega
    simp only[Sem.run_bind,bq hun,Result.andThen_ok,fy S hte,hgt,if_false,Sem.run_pure]
    unfold madeCells at g1
    by_cases h0:ps.length*E.size e=0
    ·rw[if_pos h0]at hz
     subst hz
     simp only[h0,if_true,Sem.run_bind,Sem.run_pure,Result.andThen_ok,List.toList_toArray]at g1⊢
     simp only[g1]
     simp[newRow]
    ·rw[if_neg h0]at hz
     have hzc:=iS S hte hst
     simp only[h0,if_false,Sem.run_bind,tJ S hte,Result.andThen_ok,Sem.run_pure,hzc,List.toList_toArray]
     subst hz
     simp only[g1]
     simp[newRow]
   ·rw[←g3]
    simp only[List.nil_append]at g2
    exact zI σ st (hm.aH.kept|>fun k=>bD.aH k g2) (.inr (Qo (heap_alloc_new w (.cells cur' te)) (fun h=>Nat.lt_irrefl _ (DY hst h)) (fun q v hv=>by rw[←Array.getElem?_toList];exact hv))) (by rw[g3];exact hlim) (Nat.le_refl _)
 ·cases h
theorem I8 (S:Sound P E) (hst:bm E σ st w) {t:TypeId} {n:Nat} {ps:List (Nat×az E.T)} {us:List (Nat×Value)} {xs:List UInt8} (hu:wB E σ st w (MB σ st) ps us) (h:(eV E st t n ps).get=some (.val (.slice (.int .u8)) xs)):
  qi P E σ st w (Instr.buildSlice t n us.toArray) (.own st.length) (st++[.arr .live (.int .u8) xs]):=by
 unfold eV at h
 split at h
 ·rename_i e ht
  obtain⟨te,hun,hte⟩:=(S.data t _ ht).desc
  split at h
  ·cases h
  ·rename_i n' ps' _
   obtain⟨hb,h1⟩:=Tree.aO h
   clear h
   rw[Bool.and_eq_true]at hb
   have hn:=Nat.eq_of_beq_eq_true hb.1
   have hb2:=hb.2
   rw[Bool.and_eq_true]at hb2
   have hbig:=Nat.le_of_ble_eq_true hb2.1
   have hlim:=Nat.le_of_ble_eq_true hb2.2
   clear hb2
   clear hb
   subst hn
   obtain⟨z,hz⟩: ∃z:Array Value,z=(if ps.length*E.size e=0 then(#[]:Array Value)else(dV E depth e).toArray):=⟨_,rfl⟩
   obtain⟨ys,cur',g1,g2,g3,g4,g5⟩:=MV (v:= .val (.slice (.int .u8)) xs) (f:=fun xs=> .ret (.val (.slice e) xs)) S.todk ps us 0 (xs:=[]) (cur:=madeCells z (ps.length*E.size e)) hu (by rw[size_madeCells,Nat.zero_add]) rfl (by rw[Nat.zero_mul];exact .nil e) h1
   cases g5
   have hm:=Mv.grow hst (.cells cur' te)
   have hcs:=bD.bytes (w:=w) (by simpa using g2)
   refine⟨.slice (some ⟨w.heap.size,0,none⟩) ps.length ps.length,w.alloc (.cells cur' te),_,?_,Mv.push hst (.cells cur' te) (.slice (some ⟨w.heap.size,0,none⟩) ps.length ps.length) _ (fun g hg=>jZ hg) (.arr .live _ _ _ (gy.mk' E _ _ (cs:=cur'.toList) (by rw[g3];exact hlim) (by rw[g3];exact Nat.le_refl _) (heap_alloc_new w (.cells cur' te)) (by rw[g4,size_madeCells];exact Nat.le_refl _) (fun q _=>by unfold World.frozen?;simp only[heap_alloc_new w (.cells cur' te)];simp) (by rw[hcs];exact bD.xn _) (fun q v hv=>by rw[←Array.getElem?_toList];exact hv) g3.symm)),Bq⟩
   ·unfold Instr.buildSlice
    have hgt: ¬(ps.length*E.size (.int .u8)>2^24):=by omega
    simp only[Sem.run_bind,bq hun,Result.andThen_ok,fy S hte,hgt,if_false,Sem.run_pure]
    unfold madeCells at g1
    by_cases h0:ps.length*E.size (.int .u8)=0
    ·rw[if_pos h0]at hz
     subst hz
     simp only[h0,if_true,Sem.run_bind,Sem.run_pure,Result.andThen_ok,List.toList_toArray]at g1⊢
     simp only[g1]
     simp[newRow]
    ·rw[if_neg h0]at hz
     have hzc:=iS S hte hst
     simp only[h0,if_false,Sem.run_bind,tJ S hte,Result.andThen_ok,Sem.run_pure,hzc,List.toList_toArray]
     subst hz
     simp only[g1]
     simp[newRow]
 ·cases h
end
end
open Go
section
variable {P:Program} {E:Env} {w:World} {σ:Sg} {st:St E.T} {M:Nat→Prop}
inductive Jo (E:Env) (σ:Sg) (st:St E.T) (w:World) (M:Nat→Prop):Option (az E.T)→Option Value→Prop where
 |none:Jo E σ st w M none none
 |some (d:az E.T) (u:Value) (h:aZ E σ st w M d u):Jo E σ st w M (some d) (some u)
theorem qG {b:Bool} {len cap:Nat} {lo hi:Option (az E.T)} {ulo uhi:Option Value} {l h:Int} (hl:Jo E σ st w M lo ulo) (hh:Jo E σ st w M hi uhi) (h1:nK E lo 0=some l) (h2:nK E hi len=some h) (hc:len≤cap)
  (h3:0≤l) (h4:l≤h) (h5:h≤len):(Instr.sliceBounds b len cap ulo uhi none).run P w= .ok (l.toNat,h.toNat,cap) w:=by
 have hb: ∀{x:Option (az E.T)} {ux:Option Value} {d r:Int},Jo E σ st w M x ux→nK E x d=some r→(x=none∧ux=none∧r=d)∨ ∃k,ux=some (.int k r):=by
  intro x ux d r hx hr
  cases hx with
  |none=>cases hr;exact .inl ⟨rfl,rfl,rfl⟩
  |some v u hv=>
   unfold nK at hr
   split at hr
   ·rename_i heq;cases heq
   ·rename_i k a heq
    cases heq
    cases hr
    have:=jd hv
    subst this
    exact .inr ⟨k,rfl⟩
   ·cases hr
 have eh:(h.toNat:Int)=h:=Int.toNat_of_nonneg (by omega)
 rcases hb hl h1 with⟨_,rfl,rfl⟩|⟨k,rfl⟩<;>rcases hb hh h2 with⟨_,rfl,rfl⟩|⟨k',rfl⟩
 ·simp[Instr.sliceBounds]
 ·simp[Instr.sliceBounds,run_sliceBound,eh,(by omega:0≤h),(by omega:h≤(cap:Int))]
 ·simp[Instr.sliceBounds,run_sliceBound,h3,h4]
 ·simp[Instr.sliceBounds,run_sliceBound,eh,(by omega:0≤h),(by omega:h≤(cap:Int)),h3,h4]
theorem bD.cutAt (ok:dk E): ∀{e:Ty} {xs:List (I E.T e)} {cs:List Value},bD E w M e xs cs→ ∀n,n≤xs.length→ ∃c1 c2,cs=c1++c2∧bD E w M e (xs.take n) c1∧bD E w M e (xs.drop n) c2
 |_,_,_,h,0,_=>⟨[],_,rfl,by simpa using bD.nil _,by simpa using h⟩
 |_,_,_,.nil e,n+1,h=>by simp at h
 |_,_,_,.cons e x r d1 d2 h h',n+1,hn=>by
  obtain⟨c1,c2,rfl,h1,h2⟩:=bD.cutAt ok h' n (by simpa using hn)
  exact⟨d1++c1,c2,by simp,by simpa using bD.cons e x _ d1 c1 h h1,by simpa using h2⟩
theorem bD.cut (ok:dk E) {e:Ty} {xs:List (I E.T e)} {cs:List Value} (hl:bD E w M e xs cs) {l h:Nat} (h1:l≤h) (h2:h≤xs.length):
  ∃c,bD E w M e ((xs.take h).drop l) c∧ ∀(q:Nat) (v:Value),c[q]? =some v→cs[l*E.size e+q]? =some v:=by
 obtain⟨c1,c2,rfl,e1,_⟩:=bD.cutAt ok hl h h2
 obtain⟨d1,d2,rfl,f1,f2⟩:=bD.cutAt ok e1 l (by rw[List.length_take];omega)
 refine⟨d2,f2,fun q v hv=> ?_⟩
 have hd:d1.length=l*E.size e:=by rw[bD.len ok f1,List.length_take,List.length_take,show min l (min h xs.length)=l by omega]
 rw[List.append_assoc,←hd,List.getElem?_append_right (by omega),Nat.add_sub_cancel_left,List.getElem?_append_left (List.getElem?_eq_some_iff.1 hv).1]
 exact hv
theorem Mem.sub {M':Nat→Prop} {b off:Nat} {cs c:List Value} {o:Nat} (hM: ¬M' b) (hm:Mem w M (some ⟨b,off,none⟩) cs) (hc: ∀(q:Nat) (v:Value),c[q]? =some v→cs[o+q]? =some v):Mem w M' (some ⟨b,off+o,none⟩) c:=by
 obtain⟨b',off',ha,_,hlt,hq⟩:=hm
 cases ha
 exact⟨b,off+o,rfl,hM,hlt,fun q v hv=>by rw[Nat.add_assoc];exact hq _ v (hc q v hv)⟩
theorem BZ (ok:dk E) {st':St E.T} {M':Nat→Prop} (hM: ∀b,M' b→M b) {e:Ty} {xs:List (I E.T e)} {cs:List Value} {a:Option Addr} {cap:Nat} (hl:bD E w M e xs cs) (hm:xs=[]∨ ∃b off M0,a=some ⟨b,off,none⟩∧ ¬M' b∧Mem w M0 a cs) (hn:xs.length≤dK) (hc:xs.length≤cap) {l h:Int}
  (h3:0≤l) (h4:l≤h) (h5:h≤xs.length):
  aZ E σ st' w M' (.val (.slice e) ((xs.take h.toNat).drop l.toNat)) (.slice (if cap=l.toNat then a else a.map (·.add (l.toNat*E.size e))) (h.toNat-l.toNat) (cap-l.toNat)):=by
 obtain⟨c,hc1,hc2⟩:=bD.cut ok hl (l:=l.toNat) (h:=h.toNat) (by omega) (by omega)
 have hlen:((xs.take h.toNat).drop l.toNat).length=h.toNat-l.toNat:=by rw[List.length_drop,List.length_take];omega
 have hc3:=bD.aH (Kept.weaken hM) hc1
 rw[←hlen]
 refine zI σ st' hc3 ?_ (by rw[hlen];omega) (by rw[hlen];omega)
 by_cases he:l.toNat=h.toNat
 ·left
  apply List.eq_nil_of_length_eq_zero
  rw[hlen];omega
 ·right
  rcases hm with rfl|⟨b,off,M0,rfl,hb,hm⟩
  ·simp at h5;omega
  ·rw[if_neg (by omega)]
   simp only[Option.map_some,dP]
   exact Mem.sub hb hm hc2
theorem x9 {α:Type} {xs:List α} {l h:Int} {f:List α→Tree (Out E)} {r:Out E} (hg:(Ea E xs l h f).get=some r):0≤l∧l≤h∧h≤xs.length∧(f ((xs.take h.toNat).drop l.toNat)).get=some r:=by
 unfold Ea at hg
 obtain⟨h1,h2⟩:=fN hg
 simp only[Bool.and_eq_true,decide_eq_true_eq]at h1
 exact⟨h1.1,h1.2.1,h1.2.2,h2⟩
theorem Mv.calm (hst:bm E σ st w) {o:Nat} {ob ob':Obj E.T} (ho:aR st o=some ob) (ht:qy ob ob') (hm:dn ob'=false) (hd:dz ob=false) (hr:cW E σ (D.df st o ob') w (MB σ (D.df st o ob')) (σ o) ob'):
  Mv σ σ st (D.df st o ob') w w∧ ∀b,lf (σ o)=some b→ ¬MB σ (D.df st o ob') b:=by
 refine⟨Mv.df hst ho ht (fun h=>by rw[hm]at h;cases h) (fun h=> ?_) w rfl rfl rfl rfl (fun _ _=>rfl) hr,fun b hb h=> ?_⟩
 ·cases ht with
  |box=>rfl
  |arr l l' e xs xs'=>cases l'<;>first|rfl|cases hm
  |dead=>rfl
 ·rcases h with h|⟨p,q,hp,hq,hbp⟩
  ·exact hst.out o ob b ho hd hb h
  rw[bE]at hp
  by_cases h':o=p∧p<st.length
  ·rw[if_pos h']at hp;cases hp;rw[hm]at hq;cases hq
  ·rw[if_neg h']at hp
   have hne:p≠o:=fun h=>h' ⟨h.symm,bM hp⟩
   exact hst.apart p o q ob b hne hp ho hq hd hbp hb
theorem Uk {b:ByteArray} {l h:Nat} (h1:l≤h) (h2:h≤b.size):(b.extract l h).data.toList=(b.data.toList.take h).drop l:=by
 rw[ByteArray.data_extract,Array.toList_extract,List.extract_eq_take_drop,List.take_drop,show l+(h-l)=h by omega]
theorem OX (S:Sound P E) (hst:bm E σ st w) {st':St E.T} {t:TypeId} {x v:az E.T} {lo hi mx:Option (az E.T)} {u:Value} {ulo uhi umx:Option Value} (hx:aZ E σ st w (MB σ st) x u) (hlo:Jo E σ st w (MB σ st) lo ulo) (hhi:Jo E σ st w (MB σ st) hi uhi)
  (hmx:Jo E σ st w (MB σ st) mx umx) (h:(vH E st t x lo hi mx).get=some (v,st')):qi P E σ st w (Instr.sliceAt t u ulo uhi umx) v st':=by
 unfold vH at h
 cases hmx with
 |some d u hd=>cases h
 |none=>
  cases x with
  |val ty xs=>
   cases ty with
   |str=>
    obtain⟨hty,h1⟩:=Tree.aO h
    obtain⟨l,hl,h2⟩:=Tree.aB h1
    obtain⟨hh,hhe,h3⟩:=Tree.aB h2
    rw[Tree.dB]at hl hhe
    obtain⟨c1,c2,c3,h4⟩:=x9 h3
    cases h4
    obtain⟨b,rfl,rfl,hb⟩:=sJ hx
    have hu:P.underlying t=some .string:=(S.data _ _ (kZ hty)).desc
    have hlen:b.data.toList.length=b.size:=Array.length_toList
    rw[hlen]at hhe c3
    refine qi.still hst ⟨.string (b.extract l.toNat hh.toNat),?_,?_⟩
    ·have:=qG (P:=P) (b:=false) hlo hhi hl hhe (Nat.le_refl _) c1 c2 c3
     simp[Instr.sliceAt,bq hu,Instr.slice,this]
    ·have:=mkStr (E:=E) (σ:=σ) (st:=st) (w:=w) (M:=MB σ st) (b.extract l.toNat hh.toNat) (by simp[ByteArray.size_extract];omega)
     rwa [Uk (by omega) (by omega)]at this
   |slice e=>
    obtain⟨hty,h1⟩:=Tree.aO h
    obtain⟨l,hl,h2⟩:=Tree.aB h1
    obtain⟨hh,hhe,h3⟩:=Tree.aB h2
    rw[Tree.dB]at hl hhe
    obtain⟨c1,c2,c3,h4⟩:=x9 h3
    cases h4
    obtain⟨a,cap,cs,rfl,hlr,hm,hn,hc⟩:=Bf hx
    obtain⟨te,hu,hte⟩:=(S.data _ _ (kZ hty)).desc
    refine qi.still hst ⟨_,?_,BZ S.todk (a:=a) (fun _ h=>h) hlr (hm.imp id fun hm=> ?_) hn hc c1 c2 c3⟩
    ·have:=qG (P:=P) (b:=true) hlo hhi hl hhe hc c1 c2 c3
     simp[Instr.sliceAt,bq hu,Instr.slice,this,fy S hte]
    ·obtain⟨b,off,ha,hb,hlt,hq⟩:=hm
     subst ha
     exact⟨b,off,_,rfl,hb,b,off,rfl,hb,hlt,hq⟩
   |_=>cases h
  |own k=>
   simp only at h
   split at h
   ·rename_i lv e xs hk
    obtain⟨hty,h1⟩:=Tree.aO h
    obtain⟨l,hl,h2⟩:=Tree.aB h1
    obtain⟨hh,hhe,h3⟩:=Tree.aB h2
    rw[Tree.dB]at hl hhe
    obtain⟨c1,c2,c3,h4⟩:=x9 h3
    cases h4
    clear h h1 h2 h3
    have hf:freeze E st [k]=df st k (.arr .ba e xs):=by simp[freeze,hk]
    rw[hf]
    have hu':=uQ hx
    subst hu'
    obtain⟨te,hu,hte⟩:=(S.data _ _ (kZ hty)).desc
    have hob:=hst.obj k _ hk
    have hbl: ∀b,lf (σ k)=some b→lf (σ k)=some b:=fun _ h=>h
    have hr:cW E σ (df st k (.arr .ba e xs)) w (MB σ (df st k (.arr .ba e xs))) (σ k) (.arr .ba e xs):=by
     have:=cW.aH (σ':=σ) (st':=df st k (.arr .ba e xs)) (Kept.weaken (M':=MB σ (df st k (.arr .ba e xs))) (fun b h=>tt hk (fun h=>by cases h) h)) (fun g _=>rfl) (fun j hj=>by simp[cd]at hj) hob
     generalize σ k=s at this
     cases this with
     |arr l e xs v h=>exact .arr .ba e xs s h
    obtain⟨hmv,hnot⟩:=Mv.calm hst hk (.arr lv .ba e xs xs) rfl rfl hr
    generalize hs:σ k=s at*
    cases hob with
    |arr l' e xs v hown=>
     rcases hown.2 with⟨⟨a,rfl⟩,rfl⟩|⟨g,cap,c,el,fr,cs,rfl,hcap,hh',hz,hfz,hlr,hq,hord⟩
     ·refine⟨_,w,σ,?_,hmv,BZ S.todk (M:=MB σ st) (a:=a) (fun b h=>tt hk (fun h=>by cases h) h) (.nil e) (.inl rfl) hown.1 (Nat.le_refl _) c1 c2 c3⟩
      have:=qG (P:=P) (b:=true) hlo hhi hl hhe (Nat.le_refl _) c1 c2 c3
      simp only[List.length_nil]at this
      simp[Instr.sliceAt,bq hu,Instr.slice,this,fy S hte]
     ·refine⟨_,w,σ,?_,hmv,BZ S.todk (M:=MB σ st) (a:=some ⟨g,0,none⟩) (fun b h=>tt hk (fun h=>by cases h) h) hlr (.inr ⟨g,0,fun _=>False,rfl,hnot g rfl,g,0,rfl,fun h=>h,(Array.getElem?_eq_some_iff.1 hh').1,fun q v hv=> ?_⟩) hown.1 hcap c1 c2 c3⟩
      ·have:=qG (P:=P) (b:=true) hlo hhi hl hhe hcap c1 c2 c3
       simp[Instr.sliceAt,bq hu,Instr.slice,this,fy S hte]
      ·simp[World.cell?,hh',hq q v hv]
   ·cases h
  |dZ ty xs=>
   cases ty with
   |arr n e=>
    obtain⟨hty,h1⟩:=Tree.aO h
    rw[Bool.and_eq_true]at hty
    obtain⟨hty,hnl⟩:=hty
    have hnl:=Nat.le_of_ble_eq_true hnl
    obtain⟨l,hl,h2⟩:=Tree.aB h1
    obtain⟨hh,hhe,h3⟩:=Tree.aB h2
    rw[Tree.dB]at hl hhe
    obtain⟨c1,c2,c3,h4⟩:=x9 h3
    cases h4
    cases hx with
    |data t d cs hv=>cases hv
    |dZ t y a cs hc hm=>
     cases hc with
     |arr n e xs cs hn hlr=>
      obtain⟨te,hu,hte⟩:=(S.data _ _ (kZ hty)).desc
      have hn:List.length xs=n:=hn
      obtain⟨b,off,ha,hb,hlt,hq⟩:=hm
      cases ha
      refine qi.still hst ⟨_,?_,BZ S.todk (a:=some ⟨b,off,none⟩) (fun _ h=>h) hlr (.inr ⟨b,off,_,rfl,hb,b,off,rfl,hb,hlt,hq⟩) (by rw[hn];exact hnl) (cap:=n) (Nat.le_of_eq hn) c1 c2 c3⟩
      have:=qG (P:=P) (b:=false) hlo hhi hl hhe (Nat.le_refl _) c1 c2 (by rw[hn]at c3;exact c3)
      simp[Instr.sliceAt,Instr.sureAddr,bq hu,this,fy S hte]
      split<;>rfl
   |_=>cases h
  |ptr o p=>
   simp only at h
   split at h
   ·rename_i ro c ho
    obtain⟨v0,hv0,h0⟩:=Tree.aB h
    clear h
    split at h0
    ·rename_i n e xs
     obtain⟨hty,h1⟩:=Tree.aO h0
     rw[Bool.and_eq_true]at hty
     obtain⟨hty,hnl⟩:=hty
     have hnl:=Nat.le_of_ble_eq_true hnl
     obtain⟨l,hl,h2⟩:=Tree.aB h1
     obtain⟨hh,hhe,h3⟩:=Tree.aB h2
     rw[Tree.dB]at hl hhe
     obtain⟨c1,c2,c3,h4⟩:=x9 h3
     cases h4
     cases hx with
     |data t' d cs hv=>cases hv
     |ptr o p b hb hlt=>
      obtain⟨te,hu,hte⟩:=(S.data _ _ (kZ hty)).desc
      have hob:=hst.obj o _ ho
      have hr:cW E σ (df st o (.box true c)) w (MB σ (df st o (.box true c))) (σ o) (.box true c):=by
       have:=cW.aH (σ':=σ) (st':=df st o (.box true c)) (Kept.weaken (M':=MB σ (df st o (.box true c))) (fun b h=>tt ho (fun h=>by cases h) h)) (fun g _=>rfl) (fun j hj=>w8 ho (.box ro true c c) j) hob
       generalize σ o=s at this
       cases this with
       |box ro c b cc el fr h1 h2 h3=>exact .box true c b cc el fr h1 h2 h3
      obtain⟨hmv,hnot⟩:=Mv.calm hst ho (.box ro true c c) rfl rfl hr
      rcases IZ S.todk (ob:= .box ro c) hv0 (fun h=>by cases h) hob hb with⟨t',c',hvt,hcell⟩|⟨y,_,hs,_⟩
      ·cases hvt with
       |val _ _ _ hc=>
        cases hc with
        |arr n e xs _ hn hlr=>
         have hn:List.length xs=n:=hn
         refine⟨_,w,σ,?_,hmv,BZ S.todk (M:=MB σ st) (a:=some ⟨b,E.cw p,none⟩) (fun b h=>tt ho (fun h=>by cases h) h) hlr (.inr ⟨b,E.cw p,fun _=>False,rfl,hnot b hb,b,E.cw p,rfl,fun h=>h,lO hst ho rfl hb,fun q v hv=> ?_⟩) (by rw[hn];exact hnl) (cap:=n) (Nat.le_of_eq hn) c1 c2 c3⟩
         ·have:=qG (P:=P) (b:=false) hlo hhi hl hhe (Nat.le_refl _) c1 c2 (by rw[hn]at c3;exact c3)
          simp[Instr.sliceAt,Instr.sureAddr,bq hu,this,fy S hte]
          split<;>rfl
         ·exact hcell q v hv
      ·cases hs
    ·cases h0
   ·cases h
  |_=>cases h
end
open Go
section
variable {P:Program} {E:Env} {w:World} {σ:Sg} {st:St E.T} {M:Nat→Prop}
theorem OL (z:Array Value) (n:Nat):(madeCells z (n*z.size)).toList=(List.replicate n z.toList).flatten:=by
 induction n with
 |zero=>simp[madeCells,Array.range_zero']
 |succ n ih=>
  unfold madeCells at ih⊢
  rw[Array.toList_map,Array.toList_range]at ih⊢
  rw[Nat.succ_mul,List.range_add,List.map_append,ih,List.replicate_succ',List.flatten_append]
  congr 1
  simp only[List.flatten_cons,List.flatten_nil,List.append_nil,List.map_map]
  apply List.ext_getElem?
  intro i
  rw[List.getElem?_map,Array.getElem?_toList (xs:=z)]
  rcases Nat.lt_or_ge i z.size with h|h
  ·rw[List.getElem?_range h,Option.map_some,Function.comp_apply,Nat.mul_add_mod_of_lt' h,getElem!_pos z i h,Array.getElem?_eq_getElem h]
  ·rw[List.getElem?_eq_none (by simpa using h),Array.getElem?_eq_none h];rfl
where
 Nat.mul_add_mod_of_lt' {n m i:Nat} (h:i<m):(n*m+i)%m=i:=by rw[Nat.mul_comm,Nat.mul_add_mod,Nat.mod_eq_of_lt h]
theorem J8 (ok:dk E) {e:Ty} {x:I E.T e} {c:List Value} (h:cx E w M e x c) (n:Nat):bD E w M e (List.replicate n x) (madeCells c.toArray (n*E.size e)).toList:=by
 have hs:E.size e=c.toArray.size:=by simpa using (cx.len ok h).symm
 rw[hs,OL]
 exact bD.replicate h n
theorem mw {c:Array Value} {el:TypeId} (q:Nat):(w.alloc (.cells c el)).frozen? ⟨w.heap.size,q,none⟩=false:=by
 unfold World.frozen?
 simp only[heap_alloc_new w (.cells c el)]
 simp
theorem zp (S:Sound P E) (hst:bm E σ st w) {dr:Bool} {st':St E.T} {t:TypeId} {l c v:az E.T} {ul uc:Value} (hl:aZ E σ st w (MB σ st) l ul) (hc:aZ E σ st w (MB σ st) c uc) (h:(eg E dr st t l c).get=some (v,st')):
  qi P E σ st w (Instr.makeSlice t ul uc) v st':=by
 unfold eg at h
 split at h
 ·rename_i e k a k' b ht
  obtain⟨h1,h2⟩:=fN h
  simp only[Bool.and_eq_true,decide_eq_true_eq]at h1
  obtain⟨z,hz,h3⟩:=Tree.aB h2
  rw[Tree.dB]at hz
  have:=jd hl;subst this
  have:=jd hc;subst this
  obtain⟨te,hu,hte⟩:=(S.data _ _ ht).desc
  obtain⟨i,hi,hs,hby,hzero⟩:=(S.data _ _ hte).info
  generalize toI k a=n at*
  generalize toI k' b=n' at*
  obtain⟨h0,rfl,hlim⟩:=h1
  have hb:(i.bytes:Int)*n≤281474976710656:=by
   have h8:(i.bytes:Int)≤8192:=by omega
   have h9:n≤2147483648:=hlim
   have:=Int.mul_le_mul h8 h9 h0 (by omega)
   omega
  have hrun:=run_make (P:=P) w t te i _ hu hi hzero k k' n n h0 (Int.le_refl _) hb (by have:n≤2147483648:=hlim;omega)
  have hzc:=iS S hte hst
  rw[hzc,hs]at hrun
  have hcz:=qI (w:=w) (M:=MB σ st) S.todk depth e z hz
  have hlr:=J8 S.todk hcz n.toNat
  have hll:(List.replicate n.toNat z).length=n.toNat:=List.length_replicate
  cases dr with
  |true=>
   cases h3
   have hm:=Mv.grow hst (.cells (madeCells (dV E depth e).toArray (n.toNat*E.size e)) te)
   refine⟨_,_,σ,hrun,hm,?_⟩
   have:=zI σ st (a:=some ⟨w.heap.size,0,none⟩) (cap:=n.toNat) (bD.aH hm.aH.kept hlr) (.inr (Qo (heap_alloc_new w (.cells (madeCells (dV E depth e).toArray (n.toNat*E.size e)) te)) (fun h=>Nat.lt_irrefl _ (DY hst h)) (fun q v hv=>by rw[←Array.getElem?_toList];exact hv))) (by rw[hll];omega) (by rw[hll];exact Nat.le_refl _)
   rw[hll]at this
   exact this
  |false=>
   cases h3
   have hm:=Mv.grow hst (.cells (madeCells (dV E depth e).toArray (n.toNat*E.size e)) te)
   refine⟨_,_,_,hrun,Mv.push hst _ (.slice (some ⟨w.heap.size,0,none⟩) n.toNat n.toNat) _ (fun g hg=>jZ hg) ?_,Bq⟩
   refine .arr .live _ _ _ (gy.mk' E _ _ (by rw[hll];omega) (by rw[hll];exact Nat.le_refl _) (heap_alloc_new w (.cells (madeCells (dV E depth e).toArray (n.toNat*E.size e)) te)) (by rw[size_madeCells];exact Nat.le_refl _) (fun q _=>mw q) ?_ (fun q v hv=>by rw[←Array.getElem?_toList];exact hv) hll.symm)
   refine bD.aH ⟨?_,?_,?_⟩ hlr
   ·exact hm.aH.size
   ·exact hm.aH.kept.block
   ·intro b hb hM
    rcases EA hM with h|h
    ·exact h
    ·have:=jZ h;omega
 ·cases h
end
open Go
structure aeN (P:Program) (i:TypeInfo) (z:Value) (tx:TypeId) (x:Value) (n:Nat) (news:List Value):Prop where
 kind: ∃k,P.underlying tx=some (.int k)
 val: ∃k,x= .int k (n:Int)
 bnd:n≤2147483648
 bytes:i.bytes≤8192
 zero:i.zero=some z
 VH:z.cells.size=i.size
 made:(Builtin.zeroCells z.cells n)=news.toArray
 one: ∀u∈news,kV u=true
inductive Ec (P:Program) (i:TypeInfo) (z:Value) (tx:TypeId) (x:Value) (n:Nat) (news:List Value) (w:World):Prop where
 |src (h:Src P i.size tx x n news w)
 |zero (h:aeN P i z tx x n news)
section
variable {P:Program} {w:World} {i:TypeInfo} {z:Value} {tx:TypeId} {x:Value} {n:Nat} {news:List Value}
theorem Ix (v:Value):kV v=v.oneCell':=by cases v<;>rfl
theorem Ec.len (h:Ec P i z tx x n news w):news.length=n*i.size:=by
 cases h with
 |src h=>exact h.newsLen
 |zero h=>
  have:=congrArg Array.size h.made
  rw[size_zeroCells,h.VH]at this
  simpa using this.symm
theorem Ec.one (h:Ec P i z tx x n news w): ∀u∈news,kV u=true:=by
 cases h with
 |src h=>intro u hu;rw[Ix];exact h.one u hu
 |zero h=>exact h.one
theorem Lj (t ty e:TypeId) (ht:P.underlying t=some (.slice e)) (hi:P.info? e=some i) {b off sLen sCap:Nat} {c:Array Value} {el:TypeId} {fr:Nat×Nat} (hs:Ec P i z tx x n news w)
  (hroom:sLen+n≤sCap) (hh:w.heap[b]? =some (.cells c el fr)) (hl:off+sLen*i.size+news.length≤c.size) (hf: ∀q,off+sLen*i.size≤q→q<off+sLen*i.size+news.length→w.frozen? ⟨b,q,none⟩=false):
  (Builtin.append_ #[t,tx] ty #[.slice (some ⟨b,off,none⟩) sLen sCap,x]).run P w= .ok (.slice (some ⟨b,off,none⟩) (sLen+n) sCap) (iI w b (.cells (qa c (off+sLen*i.size) news) el fr)):=by
 have hst:=nk P b (off+sLen*i.size) el fr news 0 w c hh (by simpa using hl) hs.one (by simpa using hf)
 simp only[Nat.add_zero]at hst
 cases hs with
 |src hs=>rcases hs.kind with⟨e',hk⟩|hk<;>simp[Builtin.append_,run_underlying ht,run_underlying hk,sizeOf,typeInfo,hi,hs.len,hroom,hs.cells,dP,hst]
 |zero hs=>
  obtain⟨k,hk⟩:=hs.kind
  obtain⟨k',rfl⟩:=hs.val
  have hb:=hs.bnd
  have hby:=hs.bytes
  have hwr:IntKind.i64.wrap (n:Int)=n:=by rw[IntKind.wrap_i64];omega
  have hneg: ¬((n:Int)<0):=by omega
  have hbig: ¬(281474976710656<(n:Int)*(i.bytes:Int)):=by
   rw[←Int.natCast_mul]
   have:=Nat.mul_le_mul hb hby
   omega
  by_cases hz0:n*i.size=0
  ·have hnl:news=[]:=List.eq_nil_of_length_eq_zero (by rw[Ec.len (w:=w) (.zero hs),hz0])
   subst hnl
   have hst:(storeCells ⟨b,off+sLen*i.size,none⟩ [] 0).run P w= .ok () (iI w b (.cells (qa c (off+sLen*i.size) []) el fr)):=hst
   simp[Builtin.append_,run_underlying ht,run_underlying hk,sizeOf,typeInfo,zeroValue,hi,hs.zero,asInt,asIntOf,hwr,hneg,hbig,hroom,hz0,dP,hst]
  ·simp[Builtin.append_,run_underlying ht,run_underlying hk,sizeOf,typeInfo,zeroValue,hi,hs.zero,asInt,asIntOf,hwr,hneg,hbig,hroom,hz0,hs.made,dP,hst]
theorem Lk (t ty e:TypeId) (ht:P.underlying t=some (.slice e)) (hi:P.info? e=some i) (base:Option Addr) {sLen sCap:Nat} (hle:sLen≤sCap) (hs:Ec P i z tx x 0 [] w):
  (Builtin.append_ #[t,tx] ty #[.slice base sLen sCap,x]).run P w= .ok (.slice base sLen sCap) w:=by
 cases hs with
 |src hs=>exact run_append_nothing w t tx ty e i ht hi base sLen sCap hle x hs
 |zero hs=>
  obtain⟨k,hk⟩:=hs.kind
  obtain⟨k',rfl⟩:=hs.val
  have hwr:IntKind.i64.wrap 0=0:=by rw[IntKind.wrap_i64];rfl
  cases base<;>simp[Builtin.append_,run_underlying ht,run_underlying hk,sizeOf,typeInfo,hi,asInt,asIntOf,hwr,hle,storeCells]
theorem yr (t ty e:TypeId) (ht:P.underlying t=some (.slice e)) (hi:P.info? e=some i) (hz:i.zero=some z) (hby:i.bytes≤8192) (base:Option Addr) {sLen sCap:Nat} {olds:List Value}
  (hold:(Builtin.firstCells i.size sLen (.slice base sLen sCap)).run P w.drew= .ok olds.toArray w.drew) (hs:Ec P i z tx x n news w)
  (hg:sCap<sLen+n) (hlim:sLen+n≤2147483648):
  (Builtin.append_ #[t,tx] ty #[.slice base sLen sCap,x]).run P w=
   .ok (.slice (some ⟨w.heap.size,0,none⟩) (sLen+n) (grownCap w (sLen+n) sCap e))
    (w.drew.alloc (.cells ((olds++news).toArray++Builtin.zeroCells z.cells (grownCap w (sLen+n) sCap e-(sLen+n))) e)):=by
 have hfit:Builtin.nextslicecap (sLen+n) sCap*i.bytes≤281474976710656:=growslice_fits hg (by
  have:=Nat.mul_le_mul hlim hby
  omega)
 cases hs with
 |src hs=>exact run_append_grow_src w t tx ty e i z ht hi hz base sLen sCap olds hold x n news hs hg (by omega) hfit
 |zero hs=>
  obtain⟨k,hk⟩:=hs.kind
  obtain⟨k',rfl⟩:=hs.val
  have hb:=hs.bnd
  have hwr:IntKind.i64.wrap (n:Int)=n:=by rw[IntKind.wrap_i64];omega
  have hneg: ¬((n:Int)<0):=by omega
  have hbig: ¬(281474976710656<(n:Int)*(i.bytes:Int)):=by
   rw[←Int.natCast_mul]
   have:=Nat.mul_le_mul hb hby
   omega
  have hn: ¬(sLen+n≤sCap):=by omega
  have h63': ¬(9223372036854775807<((sLen:Int)+(n:Int))):=by omega
  have h48': ¬(281474976710656<Builtin.nextslicecap (sLen+n) sCap*i.bytes):=by omega
  by_cases hz0:n*i.size=0
  ·have hnl:news=[]:=List.eq_nil_of_length_eq_zero (by rw[Ec.len (w:=w) (.zero hs),hz0])
   subst hnl
   simp[Builtin.append_,run_underlying ht,run_underlying hk,sizeOf,typeInfo,zeroValue,hi,hz,asInt,asIntOf,hwr,hneg,hbig,hn,h63',h48',Question.forced,hold,newRow,grownCap,hz0]
  ·simp[Builtin.append_,run_underlying ht,run_underlying hk,sizeOf,typeInfo,zeroValue,hi,hz,asInt,asIntOf,hwr,hneg,hbig,hn,h63',h48',Question.forced,hold,newRow,grownCap,hz0,hs.made]
   congr 2
   apply Array.ext'
   simp[List.append_assoc]
end
open Go
section
variable {P:Program} {E:Env} {w:World} {σ:Sg} {st:St E.T} {M:Nat→Prop}
theorem Mj (S:Sound P E) {t:TypeId} (h:xQ E t=true): ∃e,P.underlying t=some (.slice e):=by
 unfold xQ at h
 split at h
 ·rename_i e ht
  obtain⟨te,hu,_⟩:=(S.data _ _ ht).desc
  exact⟨te,hu⟩
 ·cases h
theorem Od (ok:dk E) (hst:bm E σ st w) {tx te:TypeId} (hk:P.underlying tx=some (.slice te)) {e:Ty} {x:az E.T} {u:Value} {ys:List (I E.T e)} (h:elems E st e x=some ys) (hx:aZ E σ st w (MB σ st) x u):
  ∃cs,bD E w (MB σ st) e ys cs∧Src P (E.size e) tx u ys.length cs w:=by
 obtain⟨a,cap,cs,rfl,hl,hm,_,_⟩:=OW ok hst h hx
 refine⟨cs,hl,?_⟩
 have h1: ∀u∈cs,u.oneCell'=true:=fun u hu=>by rw[←Ix];exact bD.one hl u hu
 have hlen:=bD.len ok hl
 cases a with
 |none=>
  rcases hm with rfl|⟨b,off,ha,_⟩
  ·cases hl
   exact Src.ofNil w hk cap
  ·cases ha
 |some a=>
  refine Src.ofSlice w hk a ys.length cap cs hlen (fun j v hv=> ?_) h1
  rcases hm with rfl|⟨b,off,ha,_,_,hq⟩
  ·cases hl;cases hv
  ·cases ha
   rw[dP];exact hq j v hv
theorem yq (S:Sound P E) (hst:bm E σ st w) {tx te:TypeId} {i:TypeInfo} {e:Ty} (hte:E.tk te= .data e) (hi:P.info? te=some i) {x:az E.T} {u:Value} {k:List (I E.T e)→Tree (Out E)} {r:Out E} (h:(appended E st tx e x k).get=some r) (hx:aZ E σ st w (MB σ st) x u):
  ∃ys cs,(k ys).get=some r∧bD E w (MB σ st) e ys cs∧Ec P i (toV e (dV E depth e)) tx u ys.length cs w:=by
 obtain⟨i',hi',hs,hby,hz⟩:=(S.data _ _ hte).info
 rw[hi]at hi';cases hi'
 have hels: ∀{x:az E.T},aZ E σ st w (MB σ st) x u→(Tree.cR (xQ E tx) ((Tree.e8 (elems E st e x)).bind k)).get=some r→ ∃ys cs,(k ys).get=some r∧bD E w (MB σ st) e ys cs∧Ec P i (toV e (dV E depth e)) tx u ys.length cs w:=by
  intro x hx h
  obtain⟨h1,h2⟩:=Tree.aO h
  obtain⟨ys,hys,h3⟩:=Tree.aB h2
  rw[Tree.dB]at hys
  obtain⟨e',hk⟩:=Mj S h1
  obtain⟨cs,hl,hsrc⟩:=Od S.todk hst hk hys hx
  exact⟨ys,cs,h3,hl,.src (by rw[hs];exact hsrc)⟩
 unfold appended at h
 split at h
 ·rename_i ki a
  obtain⟨h1,h2⟩:=Tree.aO h
  obtain⟨h3,h4⟩:=fN h2
  obtain⟨z,hz',h5⟩:=Tree.aB h4
  rw[Tree.dB]at hz'
  simp only[Bool.and_eq_true,decide_eq_true_eq]at h3
  have:=jd hx;subst this
  generalize toI ki a=n at*
  have hcz:=qI (w:=w) (M:=MB σ st) S.todk depth e z hz'
  have hzc:=iS S hte hst
  have hlr:=J8 S.todk hcz n.toNat
  refine⟨_,_,h5,hlr,.zero ⟨?_,⟨ki,by rw[List.length_replicate,Int.toNat_of_nonneg h3.1]⟩,by rw[List.length_replicate];have:n≤2147483648:=h3.2;omega,hby,hz,by rw[hzc,hs];simpa using cx.len S.todk hcz,?_,bD.one hlr⟩⟩
  ·unfold isNum at h1
   split at h1
   ·rename_i k' hk'
    exact⟨k',(S.data _ _ hk').desc⟩
   ·cases h1
  ·rw[List.length_replicate,hzc]
   have hsz:(dV E depth e).length=E.size e:=cx.len S.todk hcz
   unfold Builtin.zeroCells madeCells
   simp[hsz]
   apply Array.ext'
   simp
 ·rename_i s
  obtain⟨h1,h2⟩:=Tree.aO h
  split at h2
  ·rename_i p _
   cases p with|up p=>
   cases p
   obtain⟨b,rfl,rfl,hb⟩:=sJ hx
   have hu:P.underlying tx=some .string:=(S.data _ _ (kZ h1)).desc
   refine⟨_,_,h2,bD.xn _,.src ?_⟩
   have:=Src.ofString (P:=P) w hu b
   rw[hs]
   exact this
  ·cases h2
 ·exact hels hx h
theorem yJ (S:Sound P E) {te:TypeId} {e:Ty} (hte:E.tk te= .data e) (hst:bm E σ st w) {w':World} {M':Nat→Prop} {g cap:Nat} {xs:List (I E.T e)} {cs:List Value} {el:TypeId} {fr:Nat×Nat} (hl:bD E w' M' e xs cs) (hn:xs.length≤dK) (hc:xs.length≤cap)
  (hh:w'.heap[g]? =some (.cells (cs.toArray++Builtin.zeroCells (toV e (dV E depth e)).cells (cap-xs.length)) el fr)) (hf: ∀q,w'.frozen? ⟨g,q,none⟩=false) {n:Nat} (hnx:n=xs.length) (ho:fr.1≤fr.2:=by exact Nat.le_refl _):
  gy E w' M' e xs (.slice (some ⟨g,0,none⟩) n cap):=by
 have hz:=iS S hte hst
 have hdeep:=(S.data _ _ hte).deep
 have hzs:(dV E depth e).length=E.size e:=VT.len S.todk (mZ (σ:=σ) (st:=st) (w:=w) (M:=MB σ st) S.todk depth e hdeep)
 refine gy.mk' E _ _ hn hc hh ?_ (fun q _=>hf q) hl (fun q u hq=> ?_) hnx
 ·rw[Array.size_append,size_zeroCells,hz,List.size_toArray,List.size_toArray,bD.len S.todk hl,hzs,←Nat.add_mul]
  exact Nat.mul_le_mul_right _ (by omega)
 ·rw[Array.getElem?_append_left (by simpa using (List.getElem?_eq_some_iff.1 hq).1)]
  simpa using hq
theorem I9 (S:Sound P E) (hst:bm E σ st w) {st':St E.T} {t tx ty:TypeId} {x v:az E.T} {us u:Value} (hs:aZ E σ st w (MB σ st) .bj us) (hx:aZ E σ st w (MB σ st) x u) (h:(nL E st t tx .bj x).get=some (v,st')):
  qi P E σ st w (Builtin.append_ #[t,tx] ty #[us,u]) v st':=by
 simp only[nL]at h
 split at h
 ·rename_i e ht
  obtain⟨te,hu,hte⟩:=(S.data _ _ ht).desc
  obtain⟨i,hi,hsz,hby,hz⟩:=(S.data _ _ hte).info
  obtain⟨ys,cs,h1,hl,hsrc⟩:=yq S hst hte hi h hx
  obtain⟨h2,h3⟩:=fN h1
  rw[decide_eq_true_eq]at h2
  cases h3
  obtain⟨a,rfl⟩:=IA hs
  by_cases h0:ys.length=0
  ·have hy:ys=[]:=List.eq_nil_of_length_eq_zero h0
   subst hy
   cases hl
   have hrun:=Lk (P:=P) t ty te hu hi a (Nat.le_refl 0) hsrc
   have m:=Mv.JS hst (.slice a 0 0) (.arr .live e []) (Ey a) (fun σ' st' w' M'=> .arr .live e [] _ ⟨Nat.zero_le _,.inl ⟨⟨a,rfl⟩,rfl⟩⟩)
   exact⟨_,_,_,hrun,m,Bq⟩
  ·have hrun:=yr (P:=P) t ty te hu hi hz hby a (sLen:=0) (sCap:=0) (olds:=[]) (by
    have:(Builtin.firstCells i.size 0 (.slice a 0 0)).run P w.drew= .ok #[] w.drew:=by
     cases a<;>simp[Builtin.firstCells,loadCells,loadCellsFrom]
    exact this) hsrc (by omega) (by rw[Nat.zero_add];exact h2)
   simp only[Nat.zero_add,List.nil_append]at hrun
   have hge:=tQ w ys.length 0 te
   generalize grownCap w ys.length 0 te=cap at*
   have m1:=Mv.drawn hst (w.drawn+1)
   have m2:=Mv.push m1.rep (.cells (cs.toArray++Builtin.zeroCells (toV e (dV E depth e)).cells (cap-ys.length)) te) (.slice (some ⟨w.heap.size,0,none⟩) ys.length cap) (.arr .live e ys) (fun g hg=>jZ hg) (by
    refine .arr .live _ _ _ (yJ S hte hst (bD.aH (M:=MB σ st) (w:=w) ⟨?_,?_,?_⟩ hl) h2 hge (heap_alloc_new w.drew _) (fun q=>mw (w:=w.drew) q) rfl)
    ·simp
    ·intro b hb _
     show(w.heap.push _)[b]? =w.heap[b]?
     simp[Array.getElem?_push,Nat.ne_of_lt hb]
    ·intro b hb hM
     rcases EA hM with h|h
     ·exact h
     ·have:=jZ h;omega)
   exact⟨_,_,_,hrun,m1.trans m2,Bq⟩
 ·cases h
end
end Go.Proofs.YtlejgahbbfeagaaGreatDoor.D

/- Regions whose order is open: any order. Values told anew: rows that are data, records that are joined, nil rows that become rows of one's own. Code. Bodies: what they leave. Bodies with a deferred call; functions. An environment is sound where each row of its table is. Loops in closed form. Helpers for a seat's environment; functions whose bodies are their own specs. A library function that clones a row: it asks whether its row is nil, and comes to a row of its own either way. Rows: what is read of arguments is data, of bounded size. Functions some loops of which are given in closed form. Words of the nice functions. Records of the program, as Lean has them. What stands in a disk's sector, in plain words. Trees of the nice functions. -/
import Derived.Test.YtlejgahbbfeagaaGreatDoorBase4
import Derived.Test.YtlejgahbbfeagaaGreatDoorBase3
import Derived.Recover
import Derived.Orders
import Derived.Lib.SliceRun
import Derived.Deep.Slices
import Derived.OpenShut
import Derived.Carry
import Derived.JoinedCond
import Derived.ReadAgain
import GoSem.Dispatch
import Derived.Test.YtlejgahbbfeagaaGreatDoorBase1
set_option linter.unusedVariables false
set_option linter.unusedSimpArgs false
namespace Go.Proofs.YtlejgahbbfeagaaGreatDoor.D
open Go
noncomputable section
section
variable {P:Program} {E:Env} {w w':World} {σ σ':Sg} {st st':St E.T} {fr:Fr E.T} {a:Act} {S:FuncId→Option (Spec E)} {fx bef:List Nat} {M:Nat→Prop} {ops:Array Oper}
variable {K:Act→World→Prop} {Q:Exit→Act→World→Prop}
theorem Ge {acc:List Nat} {j:Nat}: ∀{es:List Edge},Nat.testBit (bits acc es) j=true→ ∃e∈es,Region.binds .any e=true∧(j=e.on∨Nat.testBit (nth acc e.on 0) j=true)
 |[],h=>by simp[bits]at h
 |e::r,h=>by
  simp only[bits]at h
  cases hb:Region.binds .any e with
  |true=>
   rw[hb]at h
   simp only[cond_true,Nat.testBit_or,Bool.or_eq_true,Nat.testBit_two_pow,decide_eq_true_eq]at h
   rcases h with h|h|h
   ·obtain⟨e',h1,h2,h3⟩:=Ge h
    exact⟨e',by simp[h1],h2,h3⟩
   ·exact⟨e,by simp,hb,.inl h.symm⟩
   ·exact⟨e,by simp,hb,.inr h⟩
  |false=>
   rw[hb]at h
   obtain⟨e',h1,h2,h3⟩:=Ge h
   exact⟨e',by simp[h1],h2,h3⟩
theorem L4 {l r:List Nat} {i:Nat} (h:i<l.length):nth (l++r) i 0=nth l i 0:=by
 simp only[ko,List.getD_eq_getElem?_getD]
 rw[List.getElem?_append_left h]
theorem Lh: ∀(l:List Oper) (acc:List Nat),∃t,wi acc l=acc++t
 |[],acc=>⟨[],by simp[wi]⟩
 |o::r,acc=>by
  obtain⟨t,ht⟩:=Lh r (acc++[bits acc o.after.toList])
  exact⟨bits acc o.after.toList::t,by simp only[wi];rw[ht];simp⟩
theorem NG: ∀(l:List Oper) (acc:List Nat) (i:Nat) (o:Oper),l[i]? =some o→ ∃acc',(∀k,k<acc.length+i→nth acc' k 0=nth (wi acc l) k 0)∧nth (wi acc l) (acc.length+i) 0=bits acc' o.after.toList
 |[],acc,i,o,h=>by simp at h
 |x::r,acc,0,o,h=>by
  simp at h
  subst h
  obtain⟨t,ht⟩:=Lh r (acc++[bits acc x.after.toList])
  refine⟨acc,fun k hk=> ?_,?_⟩
  ·simp only[wi]
   rw[ht,List.append_assoc,L4 (by omega)]
  ·simp only[wi]
   rw[ht]
   simp[ko,List.getD_eq_getElem?_getD]
 |x::r,acc,i+1,o,h=>by
  obtain⟨acc',h1,h2⟩:=NG r (acc++[bits acc x.after.toList]) i o (by simpa using h)
  simp only[List.length_append,List.length_cons,List.length_nil]at h1 h2
  refine⟨acc',fun k hk=> ?_,?_⟩
  ·simp only[wi];exact h1 k (by omega)
  ·simp only[wi];rw[show acc.length+(i+1)=acc.length+(0+1)+i by omega];exact h2
theorem FK: ∀(l:List Oper) (i0 i:Nat) (o:Oper),vG i0 l=true→l[i]? =some o→ ∀e∈o.after.toList,Region.binds .any e=true→e.on<i0+i
 |[],i0,i,o,h,ho=>by simp at ho
 |x::r,i0,0,o,h,ho=>by
  simp at ho;subst ho
  simp only[vG,Bool.and_eq_true,List.all_eq_true]at h
  intro e he hb
  have:=h.1 e he
  rw[hb]at this
  simp only[Bool.not_true,Bool.false_or]at this
  have:=Gd this
  omega
 |x::r,i0,i+1,o,h,ho=>by
  simp only[vG,Bool.and_eq_true]at h
  intro e he hb
  have:=FK r (i0+1) i o h.2 (by simpa using ho) e he hb
  omega
theorem Fm {l:List Oper} (hl:vG 0 l=true) {L:Nat→Prop} (hc: ∀j o,L j→l[j]? =some o→ ∀e∈o.after.toList,Region.binds .any e=true→L e.on):
  ∀(n i:Nat),i<n→ ∀o,l[i]? =some o→(∀e∈o.after.toList,Region.binds .any e=true→L e.on)→ ∀j,y5 (wi [] l) i j=true→L j
 |0,i,h=>by omega
 |n+1,i,h=>by
  intro o ho hdir j hj
  unfold y5 at hj
  obtain⟨acc',h1,h2⟩:=NG l [] i o ho
  simp only[List.length_nil,Nat.zero_add]at h1 h2
  rw[h2]at hj
  obtain⟨e,he,hb,hor⟩:=Ge hj
  have hlt:=FK l 0 i o hl ho e he hb
  rw[Nat.zero_add]at hlt
  rcases hor with rfl|hor
  ·exact hdir e he hb
  ·rw[h1 _ hlt]at hor
   have hil:=(List.getElem?_eq_some_iff.1 ho).1
   have hoe:l[e.on]? =some (l[e.on]'(by omega)):=List.getElem?_eq_getElem _
   exact Fm hl hc n e.on (by omega) _ hoe (hc _ _ (hdir e he hb) hoe) j hor
theorem tE: ∀(l:List Oper) (i0 id0:Nat) (x:y6),x∈um E i0 id0 l→i0≤x.i∧l[x.i-i0]? =some x.o∧(makes E x.o.op=true→id0≤x.id∧x.id<id0+xp E l)
 |[],i0,id0,x,h=>by cases h
 |o::r,i0,id0,x,h=>by
  simp only[um]at h
  rcases List.mem_cons.1 h with rfl|h
  ·refine⟨Nat.le_refl _,by simp,fun hm=> ?_⟩
   simp only at hm
   simp only[xp,hm,cond_true]
   omega
  ·obtain⟨h1,h2,h3⟩:=tE r _ _ x h
   refine⟨by omega,?_,fun hm=> ?_⟩
   ·rw[show x.i-i0=x.i-(i0+1)+1 by omega]
    simpa using h2
   ·obtain⟨h4,h5⟩:=h3 hm
    simp only[xp]
    cases hmk:makes E o.op with
    |true=>rw[hmk]at h4 h5;simp only[cond_true]at h4 h5⊢;omega
    |false=>rw[hmk]at h4 h5;simp only[cond_false]at h4 h5⊢;omega
theorem AV: ∀(l:List Oper) (i0 id0 i:Nat) (o:Oper),l[i]? =some o→ ∃x∈um E i0 id0 l,x.i=i0+i∧x.o=o
 |[],i0,id0,i,o,h=>by simp at h
 |x::r,i0,id0,0,o,h=>by
  simp at h;subst h
  exact⟨{i:=i0,id:=id0,o:=x},by simp[um],rfl,rfl⟩
 |x::r,i0,id0,i+1,o,h=>by
  obtain⟨y,h1,h2,h3⟩:=AV r (i0+1) (bif makes E x.op then id0+1 else id0) i o (by simpa using h)
  exact⟨y,by simp only[um];exact List.mem_cons_of_mem _ h1,by omega,h3⟩
theorem wG: ∀(l:List Oper) (i0 id0:Nat),(um E i0 id0 l).Pairwise fun x y=>x.i<y.i
 |[],i0,id0=> .nil
 |o::r,i0,id0=>by
  simp only[um]
  refine List.Pairwise.cons (fun y hy=> ?_) (wG r _ _)
  have:=(tE r _ _ y hy).1
  show i0<y.i
  omega
theorem EN: ∀(l:List y6),H9 ops bef l=true→l.Pairwise fun x y=>y5 bef y.i x.i=true∨x.o.apart ops y.o=true
 |[],_=> .nil
 |x::r,h=>by
  simp only[H9,Bool.and_eq_true,List.all_eq_true,Bool.or_eq_true]at h
  exact List.Pairwise.cons (fun y hy=>h.1 y hy) (EN r h.2)
def Inv (E:Env) (σ0:Sg) (st0:St E.T) (w0:World) (k:Nat) (fr:Fr E.T) (st:St E.T) (a:Act) (w:World):Prop:=
 ∃σ,Mf σ0 σ st0 st w0 w∧cf E σ st w fr a∧st0.length+k≤st.length∧ ∀id,st0.length≤id→id<st0.length+k→aR st id=some .dead→lf (σ id)=none
theorem I5 (HS:Sound P E) (HC:mJ P E S) {x:y6} {e:rT E.T} {en:Option y7} {σ0:Sg} {st0:St E.T} {w0:World} {k:Nat} (hinv:Inv E σ0 st0 w0 k fr st a w) (h:kM S fx ops x fr st e en) (hi:ops[x.i]? =some x.o)
  (gm:makes E x.o.op=true→st0.length≤x.id∧x.id<st0.length+k)
  (hK: ∀fr1 st1 a' w',cI E fr st x.o.dst e= .next fr1 st1→Inv E σ0 st0 w0 k fr1 st1 a' w'→K a' w')
  (hP: ∀v fr1 st1 σ' w' u,cI E fr st x.o.dst e= .panic v fr1 st1→Mf σ0 σ' st0 st1 w0 w'→cf E σ' st1 w' fr1 a→aZ E σ' st1 w' (MB σ' st1) v u→Q (.panic [{v:=u,recovered:=false}]) a w'):
  wpOp P ops Q x.i K a w:=by
 obtain⟨σ,m,hfr,hlen,hdead⟩:=hinv
 unfold wpOp
 rw[hi]
 have hwant: ∀{b:Bool},lg E ops.toList x.o fr=some b→Region.wanted x.o (yielded ops a.tmps)=b:=by
  intro b hb
  unfold lg at hb
  unfold Region.wanted
  split at hb
  ·rename_i hg;rw[hg];cases hb;rfl
  ·rename_i j c hg
   rw[hg]
   split at hb
   ·rename_i t ht
    split at hb
    ·rename_i c' hc
     have hs:=Cl hfr hc
     unfold pv at ht
     split at ht
     ·rename_i oj hj
      rw[cT,Array.getElem?_toList]at hj
      have hy:yielded ops a.tmps j=some c':=by
       unfold yielded
       rw[hj]
       simp only[Option.bind_some,ht,hs]
      simp only
      rw[hy]
      cases hb
      have: ∀(p q:Bool),(some p==some q)=(p==q):=by intro p q;cases p<;>cases q<;>rfl
      exact this c' c
     ·cases ht
    ·rename_i hn
     cases hb
     show(yielded ops a.tmps j==some c)=false
     rw[GZ hfr ht hn];rfl
    ·cases hb
   ·cases hb
 rcases h with⟨h1,h2,h3,h4⟩|⟨h1,h2,h3⟩
 ·simp only
  rw[if_pos (hwant h1)]
  left
  cases hm:makes E x.o.op with
  |false=>
   refine UO HS HC m.rep hfr hm h2 ?_
   cases hap:cI E fr st x.o.dst e with
   |next fr1 st1=>
    intro σ' w' a' m' hfr'
    refine hK fr1 st1 a' w' hap ⟨σ',m.trans m',hfr',Nat.le_trans hlen m'.stay.len,fun id h5 h6 h7=> ?_⟩
    have hlt:id<st.length:=by omega
    have hget:aR st id=some st[id]:=by rw[cT];exact List.getElem?_eq_getElem hlt
    obtain⟨ob',h8,t,_⟩:=m'.stay.kind id _ hget
    rw[h7]at h8
    cases h8
    have hd:st[id]= .dead:=by
     generalize st[id]=ob at t
     cases t;rfl
    rw[hd]at hget
    rw[m'.stay.same id _ hget rfl]
    exact hdead id h5 h6 hget
   |panic v fr1 st1=>
    intro σ' w' u m' hfr' hv
    exact hP v fr1 st1 σ' w' u hap (m.trans m') hfr' hv
  |true=>
   obtain⟨h5,h6⟩:=gm hm
   have hM:=tX (by
    generalize x.o.op=oo at hm
    cases oo<;>first|rfl|cases hm) h2
   have hdd:aR st x.id=some .dead:=by
    rcases hM.iM with h|⟨ob,_,h,_⟩
    ·exfalso
     generalize x.o.op=oo at hm h2
     cases oo with
     |alloc t=>
      simp only[eQ]at h2
      split at h2
      ·cases h2
      ·obtain⟨_,h2⟩:=Tree.aO h2;cases h2;cases h
     |box t v=>simp only[eQ]at h2;obtain⟨_,h2⟩:=Tree.aO h2;cases h2;cases h
     |makeSlice t l c=>
      simp only[eQ]at h2
      obtain⟨p,_,h2⟩:=Tree.aB h2
      split at h2
      ·obtain⟨_,h2⟩:=Tree.aO h2;cases h2;cases h
      ·cases h2
     |convert s d y=>
      simp only[eQ]at h2
      split at h2
      ·split at h2
       ·obtain⟨_,h2⟩:=Tree.aO h2;cases h2;cases h
       ·cases h2
      ·have hs: ∃e',E.tk d= .data (.slice e'):=by
        simp only[makes,xQ]at hm
        split at hm
        ·exact⟨_,by assumption⟩
        ·cases hm
       obtain⟨e',he'⟩:=hs
       simp only[gh,he']at h2
       cases h2
     |_=>cases hm
    ·exact h
   refine Qu HS m.rep hfr hm h2 (hdead _ h5 h6 hdd) m h5 (fun σ' w' a' v ob g1 g2 g3 g4 m' hn hfr'=> ?_)
   have hap:cI E fr st x.o.dst e= .next (put E fr x.o.dst v) (df st x.id ob):=by
    rw[yS g1 g3 g4,g2];rfl
   refine hK _ _ a' w' hap ⟨σ',m',hfr',by rw[dH];exact hlen,fun id h7 h8 h9=> ?_⟩
   by_cases hidx:id=x.id
   ·subst hidx
    rw[bE,if_pos ⟨rfl,bM hdd⟩]at h9
    cases h9
    rcases hM.iM with h|⟨ob2,h10,_,h11,_⟩
    ·rw[g2]at h;cases h
    ·rw[g2]at h10;cases h10;cases h11
   ·rw[bE,if_neg (fun h=>hidx h.1.symm)]at h9
    rw[hn id hidx]
    exact hdead id h7 h8 h9
 ·subst h2
  simp only
  rw[if_neg (by rw[hwant h1];simp)]
  exact hK _ _ _ _ rfl ⟨σ,m,fo hfr x.o.dst (.jk [] [] .nil),hlen,hdead⟩
theorem K7: ∀(l:List Oper) {fr:Fr E.T},cf E σ st w fr a→cf E σ st w (nO E fr l) a
 |[],fr,h=>h
 |o::r,fr,h=>by
  simp only[nO]
  refine K7 r ⟨?_,?_⟩
  ·cases hd:o.dst with
   |none=>exact h.s
   |some t=>
    have: ∀{ds:List (az E.T)} {us:List Value},aW E σ st w (MB σ st) ds us→ ∀t,aW E σ st w (MB σ st) (df ds t .undef) us:=by
     intro ds us h
     induction ds generalizing us with
     |nil=>intro t;exact h
     |cons v r ih=>
      intro t
      cases h with
      |cons v r u us h h'=>
       cases t with
       |zero=>exact .cons _ _ _ _ (.undef _) h'
       |succ t=>exact .cons _ _ _ _ h (ih h' t)
    exact this h.s t
  ·cases hd:o.dst<;>exact h.d
theorem Ky {l:Array Bool} {i j:Nat} {d:Bool}:(l.setIfInBounds i true).getD j d=if i=j∧i<l.size then true else l.getD j d:=by
 rw[Array.getD_eq_getD_getElem?,Array.getD_eq_getD_getElem?,Array.getElem?_setIfInBounds]
 by_cases h:i=j
 ·subst h
  by_cases h2:i<l.size
  ·simp[h2]
  ·simp[h2]
 ·simp[h]
theorem UX (HS:Sound P E) (HC:mJ P E S) {σ0:Sg} {st0:St E.T} {w0:World} {k:Nat} {out:oh E} (hedge:vG 0 ops.toList=true) (hk:k=xp E ops.toList)
  (hpair:(um E 0 st0.length ops.toList).Pairwise fun x y=>y5 (wi [] ops.toList) y.i x.i=true∨x.o.apart ops y.o=true) (hp:Gr E σ0 st0 w0 Q out):
  ∀(fuel:Nat) (listed:Array Bool) (l:List y6) {fr:Fr E.T} {st:St E.T} {a:Act} {w:World} {log:List (Nat×y7)},listed.size=ops.size→(∀x,x∈l↔x∈um E 0 st0.length ops.toList∧listed.getD x.i true=false)→l.Sublist (um E 0 st0.length ops.toList)→l.length≤fuel→
   (∀j o,listed.getD j false=true→ops.toList[j]? =some o→ ∀e∈o.after.toList,Region.binds .any e=true→listed.getD e.on false=true)→
   nR S fx (wi [] ops.toList) ops l fr st out log→Inv E σ0 st0 w0 k fr st a w→wpAny P .any ops Q fuel listed a w:=by
 intro fuel
 have done: ∀(listed:Array Bool) (l:List y6),listed.size=ops.size→(∀x,x∈l↔x∈um E 0 st0.length ops.toList∧listed.getD x.i true=false)→l.Sublist (um E 0 st0.length ops.toList)→Region.ready .any ops listed=[]→l=[]:=by
  intro listed l hsz hmem hsub hr
  cases l with
  |nil=>rfl
  |cons x r=>
   exfalso
   obtain⟨h1,h2⟩:=(hmem x).1 (by simp)
   obtain⟨_,h3,_⟩:=tE _ _ _ x h1
   rw[Nat.sub_zero]at h3
   have:x.i∈Region.ready .any ops listed:=by
    rw[mem_ready]
    refine⟨h2,x.o,by rw[←Array.getElem?_toList];exact h3,fun e he hb=> ?_⟩
    have hlt:=FK _ 0 _ _ hedge h3 e (by simpa using he) hb
    rw[Nat.zero_add]at hlt
    have hxi:=(List.getElem?_eq_some_iff.1 h3).1
    rw[Array.length_toList]at hxi
    cases hq:listed.getD e.on false with
    |true=>rfl
    |false=>
     have hq':listed.getD e.on true=false:=by
      have hs:e.on<listed.size:=by omega
      simp[hs]at hq⊢
      exact hq
     obtain⟨z,hz1,hz2,hz3⟩:=AV (E:=E) ops.toList 0 st0.length e.on _ (List.getElem?_eq_getElem (by rw[Array.length_toList];omega))
     rw[Nat.zero_add]at hz2
     have hz:z∈x::r:=(hmem z).2 ⟨hz1,by rw[hz2];exact hq'⟩
     have hso:=List.Pairwise.sublist hsub (wG (E:=E) ops.toList 0 st0.length)
     rcases List.mem_cons.1 hz with rfl|hz
     ·omega
     ·have:=(List.pairwise_cons.1 hso).1 z hz
      omega
   rw[hr]at this
   cases this
 have last: ∀{fr:Fr E.T} {st:St E.T} {a:Act} {w:World} {log:List (Nat×y7)},nR S fx (wi [] ops.toList) ops [] fr st out log→Inv E σ0 st0 w0 k fr st a w→Q .normal a w:=by
  intro fr st a w log hg hinv
  cases hg
  obtain⟨σ,m,hfr,_⟩:=hinv
  exact hp σ w a m hfr
 induction fuel with
 |zero=>
  intro listed l fr st a w log hsz hmem hsub hl hc hg hinv
  have hl0:l=[]:=List.eq_nil_of_length_eq_zero (Nat.le_zero.1 hl)
  subst hl0
  refine⟨?_,last hg hinv⟩
  cases hr:Region.ready .any ops listed with
  |nil=>rfl
  |cons i r=>
   exfalso
   have:i∈Region.ready .any ops listed:=by rw[hr];simp
   rw[mem_ready]at this
   obtain⟨h1,o,h2,h3⟩:=this
   obtain⟨z,hz1,hz2,hz3⟩:=AV (E:=E) ops.toList 0 st0.length i o (by rw[Array.getElem?_toList];exact h2)
   rw[Nat.zero_add]at hz2
   have:=(hmem z).2 ⟨hz1,by rw[hz2];exact h1⟩
   cases this
 |succ fuel ih=>
  intro listed l fr st a w log hsz hmem hsub hl hc hg hinv
  refine⟨fun hr=> ?_,fun i hi=> ?_⟩
  ·have:=done listed l hsz hmem hsub hr
   subst this
   exact last hg hinv
  ·rw[mem_ready]at hi
   obtain⟨h1,o,h2,h3⟩:=hi
   have h2':ops.toList[i]? =some o:=by rw[Array.getElem?_toList];exact h2
   obtain⟨y,hy1,hy2,hy3⟩:=AV (E:=E) ops.toList 0 st0.length i o h2'
   rw[Nat.zero_add]at hy2
   have hyl:y∈l:=(hmem y).2 ⟨hy1,by rw[hy2];exact h1⟩
   obtain⟨pre,post,rfl⟩:=List.append_of_mem hyl
   have hso:=List.Pairwise.sublist hsub (wG (E:=E) ops.toList 0 st0.length)
   have hpa:=List.Pairwise.sublist hsub hpair
   have hni:i<listed.size:=by
    have:=(List.getElem?_eq_some_iff.1 h2').1
    rw[Array.length_toList]at this
    omega
   have hunl: ∀x,x∈pre++y::post→listed.getD x.i false=false:=by
    intro x hx
    have:=((hmem x).1 hx).2
    have hxs:x.i<listed.size:=by
     rcases Nat.lt_or_ge x.i listed.size with h|h
     ·exact h
     ·simp[Array.getD_eq_getD_getElem?,Array.getElem?_eq_none h]at this
    simp[hxs]at this⊢
    exact this
   have hnb: ∀x∈pre,y5 (wi [] ops.toList) y.i x.i=false∧x.o.apart ops y.o=true:=by
    intro x hx
    have hb:y5 (wi [] ops.toList) y.i x.i=false:=by
     cases hq:y5 (wi [] ops.toList) y.i x.i with
     |false=>rfl
     |true=>
      have:=Fm hedge (L:=fun j=>listed.getD j false=true) (fun j o' hj ho' e he hb=>hc j o' hj ho' e he hb) (i+1) i (by omega) o h2' (fun e he hb=>h3 e (by simpa using he) hb) x.i (by rw[←hy2];exact hq)
      have h5:=hunl x (by simp[hx])
      rw[this]at h5;cases h5
    refine⟨hb,?_⟩
    have:=(List.pairwise_append.1 hpa).2.2 x hx y (by simp)
    rw[hb]at this
    exact this.resolve_left (by simp)
   have hdst: ∀x∈pre++y::post,∃o∈ops.toList,o.dst=x.o.dst:=by
    intro x hx
    obtain⟨_,h5,_⟩:=tE _ _ _ x ((hmem x).1 hx).1
    exact⟨x.o,List.mem_of_getElem? h5,rfl⟩
   have hyo:ops[y.i]? =some y.o:=by rw[hy2,hy3];exact h2
   have hyid:makes E y.o.op=true→st0.length≤y.id∧y.id<st0.length+k:=by
    intro hm
    have:=(tE _ _ _ y hy1).2.2 hm
    rw[hk];exact this
   have hmem': ∀x,x∈pre++post↔x∈um E 0 st0.length ops.toList∧(listed.setIfInBounds i true).getD x.i true=false:=by
    intro x
    rw[Ky]
    constructor
    ·intro hx
     have hx2:x∈pre++y::post:=by
      rcases List.mem_append.1 hx with hx|hx
      ·simp[hx]
      ·simp[hx]
     obtain⟨h5,h6⟩:=(hmem x).1 hx2
     refine⟨h5,?_⟩
     have hne:i≠x.i:=by
      rw[←hy2]
      have hpw:=List.pairwise_append.1 hso
      rcases List.mem_append.1 hx with hx|hx
      ·have:=hpw.2.2 x hx y (by simp);omega
      ·have:=(List.pairwise_cons.1 hpw.2.1).1 x hx;omega
     rw[if_neg (fun h=>hne h.1)]
     exact h6
    ·rintro⟨h5,h6⟩
     by_cases hne:i=x.i
     ·rw[if_pos ⟨hne,hni⟩]at h6;cases h6
     ·rw[if_neg (fun h=>hne h.1)]at h6
      have:=(hmem x).2 ⟨h5,h6⟩
      rcases List.mem_append.1 this with h|h
      ·simp[h]
      ·rcases List.mem_cons.1 h with rfl|h
       ·exact absurd hy2.symm hne
       ·simp[h]
   have hsub':(pre++post).Sublist (um E 0 st0.length ops.toList):=List.Sublist.trans (List.Sublist.append (List.Sublist.refl pre) (List.sublist_cons_self y post)) hsub
   have hlen':(pre++post).length≤fuel:=by simp at hl⊢;omega
   have hc': ∀j o,(listed.setIfInBounds i true).getD j false=true→ops.toList[j]? =some o→ ∀e∈o.after.toList,Region.binds .any e=true→(listed.setIfInBounds i true).getD e.on false=true:=by
    intro j o' hj ho' e he hb
    rw[Ky]at hj⊢
    by_cases hij:i=j
    ·subst hij
     rw[h2']at ho'
     cases ho'
     have:=h3 e (by simpa using he) hb
     by_cases h:i=e.on∧i<listed.size
     ·rw[if_pos h]
     ·rw[if_neg h];exact this
    ·rw[if_neg (fun h=>hij h.1)]at hj
     have:=hc j o' hj ho' e he hb
     by_cases h:i=e.on∧i<listed.size
     ·rw[if_pos h]
     ·rw[if_neg h];exact this
   have hsz':(listed.setIfInBounds i true).size=ops.size:=by simpa using hsz
   rw[←hy2]
   rcases front pre hg hnb hdst with⟨e,en,fr1,st1,log1,g1,g2,g3,_,_⟩|⟨v,e,en,fr1,st1,g1,g2,g3,_⟩|⟨g1,g2⟩
   ·refine I5 HS HC hinv g1 hyo hyid (fun fr1' st1' a' w' hap hinv'=> ?_) (fun v fr1' st1' σ' w' u hap=>by rw[g2]at hap;cases hap)
    rw[g2]at hap
    cases hap
    rw[hy2]
    exact ih _ _ hsz' hmem' hsub' hlen' hc' g3 hinv'
   ·refine I5 HS HC hinv g1 hyo hyid (fun fr1' st1' a' w' hap=>by rw[g2]at hap;cases hap) (fun v' fr1' st1' σ' w' u hap m' hfr' hv=> ?_)
    rw[g2]at hap
    cases hap
    rw[g3]at hp
    exact hp σ' w' a u m' (K7 _ hfr') hv
   ·obtain⟨e,v,en,hd,hap⟩:=OI (E:=E) (S:=S) (fx:=fx) (all:=ops) g1 fr st
    refine I5 HS HC hinv hd hyo hyid (fun fr1' st1' a' w' hap' hinv'=> ?_) (fun v' fr1' st1' σ' w' u hap'=>by rw[hap]at hap';cases hap')
    rw[hap]at hap'
    cases hap'
    rw[hy2]
    exact ih _ _ hsz' hmem' hsub' hlen' hc' (g2 v) hinv'
theorem T0: ∀(k:Nat) {σ:Sg} {st:St E.T} {w:World},bm E σ st w→ ∃σ',Mv σ σ' st (st++List.replicate k .dead) w w∧ ∀id,st.length≤id→id<st.length+k→lf (σ' id)=none
 |0,σ,st,w,hst=>⟨σ,by simpa using Mv.refl hst,fun id h1 h2=>by omega⟩
 |k+1,σ,st,w,hst=>by
  have m1:=Mv.JS hst (.tuple #[]) (.dead:Obj E.T) rfl (fun _ _ _ _=> .dead _)
  obtain⟨σ',m2,h⟩:=T0 k m1.rep
  refine⟨σ',?_,fun id h1 h2=> ?_⟩
  ·have:=m1.trans m2
   rw[List.append_assoc]at this
   rw[List.replicate_succ]
   exact this
  ·by_cases gm:id=st.length
   ·subst gm
    rw[m2.name _ (by simp),dD]
    rfl
   ·exact h id (by simp;omega) (by simp;omega)
theorem Mz (HS:Sound P E) (HC:mJ P E S) (hmix:P.follows .mixedOrders=true) {id:Nat} {out:oh E} (hst:bm E σ st w) (hfr:cf E σ st w fr a) (h:(I4 E S ops fr st).get=some out) (hp:Gr E σ st w Q out):
  (Code.region id ops true).wp P Q a w:=by
 unfold I4 at h
 obtain⟨hb,h⟩:=Tree.aO h
 rw[Bool.and_eq_true]at hb
 obtain⟨log,hg,_⟩:=CW _ h
 rw[qH]at hg
 refine wp_region_any hmix ?_
 have m0:=Mv.drawn hst (w.drawn+1)
 obtain⟨σ',m1,hno⟩:=T0 (xp E ops.toList) m0.rep
 have m:=m0.trans m1
 refine UX HS HC hb.1 rfl (EN _ hb.2) hp ops.size _ _ (by simp) (fun x=> ?_) (List.Sublist.refl _) ?_ (fun j o hj=> ?_) hg ⟨σ',m.f,hfr.mv m,by simp,fun id h1 h2 _=>hno id h1 h2⟩
 ·constructor
  ·intro hx
   refine⟨hx,?_⟩
   obtain⟨_,h3,_⟩:=tE _ _ _ x hx
   have:=(List.getElem?_eq_some_iff.1 h3).1
   rw[Array.length_toList,Nat.sub_zero]at this
   simp[this]
  ·exact fun hx=>hx.1
 ·have: ∀(l:List Oper) (i0 id0:Nat),(um E i0 id0 l).length=l.length:=by
   intro l
   induction l with
   |nil=>intro i0 id0;rfl
   |cons o r ih=>intro i0 id0;simp[um,ih]
  rw[this,Array.length_toList]
  exact Nat.le_refl _
 ·exfalso
  rw[Array.getD_eq_getD_getElem?,Array.getElem?_replicate]at hj
  split at hj<;>cases hj
end
end
open Go
noncomputable section
section
variable {P:Program} {E:Env} {w w' w'':World} {σ σ' σ'':Sg} {st st' st'':St E.T} {M M':Nat→Prop}
variable {a:Act} {fr fr':Fr E.T}
theorem iw.TO (j:Nat): ∀(j:Nat) {ts:List Ty} {fs:List (az E.T)} {cs:List Value},iw E σ st w M ts fs cs→ ∀{t:Ty} {v:az E.T},aR ts j=some t→aR fs j=some v→
  ∃c,VT E σ st w M t v c∧ ∀{σ':Sg} {st':St E.T} {w':World} {M':Nat→Prop} (v':az E.T),Kept M M' w w'→(∀k∈bg fs,ib σ σ' st st' k)→VT E σ' st' w' M' t v' c→iw E σ' st' w' M' ts (df fs j v') cs
 |_,_,_,_,.nil,_,_,h,_=>by cases h
 |0,_,_,_,.cons t ts v r c1 c2 h h',_,_,ht,hv=>by
  simp only[dF,cP,cQ,Option.some.injEq]at ht hv
  subst ht;subst hv
  exact⟨c1,h,fun v' kp hs hv'=> .cons _ _ _ _ _ _ hv' (iw.aH kp h' (fun k hk=>hs k (by simp[bg,hk])))⟩
 |j+1,_,_,_,.cons t ts v r c1 c2 h h',_,_,ht,hv=>by
  simp only[dF,cP,cQ]at ht hv
  obtain⟨c,hc,hf⟩:=iw.TO 0 j h' ht hv
  exact⟨c,hc,fun v' kp hs hv'=> .cons _ _ _ _ _ _ (VT.aH kp h (fun k hk=>hs k (by simp[bg,hk]))) (hf v' kp (fun k hk=>hs k (by simp[bg,hk])) hv')⟩
theorem Ip {k:Nat} {e:Ty}: ∀(p:List Nat) {ot:Option Ty} {t:Ty} {v v':az E.T} {cs:List Value},VT E σ st w M t v cs→(∀t0,ot=some t0→t0=t)→Cu E k e p ot v=some v'→
  ∃a,∀{σ':Sg} {st':St E.T} {w':World} {M':Nat→Prop},σ' k= .slice a 0 0→aR st' k=some (.arr .live e [])→Kept M M' w w'→(∀j∈refs v,ib σ σ' st st' j)→
   ∃t',dU t'=dU t∧(∀t0,ot=some t0→t'=t)∧VT E σ' st' w' M' t' v' cs
 |[],ot,t,v,v',cs,h,ho,hp=>by
  cases v with
  |bj=>
   cases h with
   |bj e0 a=>
    refine⟨a,fun h1 h2 kp hs=> ?_⟩
    cases ot with
    |none=>
     cases hp
     refine⟨.slice e,rfl,?_,?_⟩
     ·intro t0 h;cases h
     have:=VT.own (σ:= ‹Sg›) (w:= ‹World›) (M:= ‹Nat→Prop›) k .live e [] h2
     rwa [h1]at this
    |some t0=>
     have ht0:=ho t0 rfl
     subst ht0
     simp only[Cu]at hp
     cases hb:jj (.slice e0) (.slice e)with
     |false=>rw[hb]at hp;cases hp
     |true=>
      rw[hb]at hp
      cases hp
      have:=dN hb
      cases this
      refine⟨_,rfl,fun _ _=>rfl,?_⟩
      have:=VT.own (σ:= ‹Sg›) (w:= ‹World›) (M:= ‹Nat→Prop›) k .live e [] h2
      rwa [h1]at this
  |_=>simp only[Cu]at hp;cases hp
 |j::p,ot,t,v,v',cs,h,ho,hp=>by
  cases v with
  |agg i fs=>
   cases h with
   |agg i fs cs hs=>
    simp only[Cu]at hp
    split at hp
    ·rename_i tj vj htj hvj
     split at hp
     ·rename_i vj' hvj'
      cases hp
      obtain⟨c,hc,hf⟩:=iw.TO 0 j hs htj hvj
      obtain⟨a,ha⟩:=Ip p hc (fun t0 h=>by cases h;rfl) hvj'
      refine⟨a,fun h1 h2 kp hsm=> ?_⟩
      have hsm': ∀k∈bg fs,ib _ _ _ _ k:=fun k hk=>hsm k (by simpa [refs]using hk)
      have hmem: ∀(l:List (az E.T)) (j:Nat) (v:az E.T),aR l j=some v→ ∀k∈refs v,k∈bg l:=by
       intro l
       induction l with
       |nil=>intro j v h;cases h
       |cons x l ih=>
        intro j v h k hk
        cases j with
        |zero=>simp only[dF,cP,cQ,Option.some.injEq]at h;subst h;simp[bg,hk]
        |succ j=>simp[bg,ih j v h k hk]
      obtain⟨t',h3,h4,h5⟩:=ha h1 h2 kp (fun q hq=>hsm' q (hmem fs j vj hvj q hq))
      rw[h4 tj rfl]at h5
      exact⟨_,rfl,fun _ _=>rfl,.agg i _ cs (hf _ kp hsm' h5)⟩
     ·cases hp
    ·cases hp
  |_=>simp only[Cu]at hp;cases hp
theorem iw.Yj {f:az E.T→az E.T} (hf: ∀t v c,VT E σ st w M t v c→VT E σ st w M t (f v) c): ∀(j:Nat) {ts:List Ty} {fs:List (az E.T)} {cs:List Value},iw E σ st w M ts fs cs→iw E σ st w M ts (df fs j (f (nth fs j .undef))) cs
 |_,_,_,_,.nil=> .nil
 |0,_,_,_,.cons t ts v r c1 c2 h h'=> .cons _ _ _ _ _ _ (hf _ _ _ h) h'
 |j+1,_,_,_,.cons t ts v r c1 c2 h h'=> .cons _ _ _ _ _ _ h (iw.Yj hf j h')
theorem VT.py (ok:dk E) (hst:bm E σ st w): ∀(p:List Nat) {t:Ty} {v:az E.T} {cs:List Value},VT E σ st w (MB σ st) t v cs→VT E σ st w (MB σ st) t (D.py E st p v) cs
 |[],t,v,cs,h=>VT.ye ok hst 0 h
 |j::p,t,v,cs,h=>by
  cases h with
  |agg i fs cs hs=>unfold D.py;exact .agg i _ cs (iw.Yj (fun t v c h=>VT.py ok hst p h) j hs)
  |val t x cs h=>unfold D.py;exact .val t x cs h
  |bj e a=>unfold D.py;exact .bj e a
  |own k l e xs h=>unfold D.py;exact .own k l e xs h
  |dA e v h=>unfold D.py;exact .dA e v h
theorem aZ.py (ok:dk E) (hst:bm E σ st w) (p:List Nat) {v:az E.T} {u:Value} (h:aZ E σ st w (MB σ st) v u):aZ E σ st w (MB σ st) (D.py E st p v) u:=by
 cases p with
 |nil=>exact aZ.ye ok hst 0 h
 |cons j p=>
  cases h with
  |data t d cs h=>exact .data t _ cs (VT.py ok hst (j::p) h)
  |undef=>exact .undef _
  |ptr o p b h hl=>exact .ptr o p b h hl
  |cM=>exact .cM
  |dZ t x a cs h hm=>exact .dZ t x a cs h hm
  |jk vs us h=>exact .jk vs us h
  |fn f vs us h=>exact .fn f vs us h
  |ea=>exact .ea
  |fG t d v h=>exact .fG t d v h
  |cr=>exact .cr
theorem MO (p:List Nat) {d:az E.T} (h:D0 E d=true):py E st p d=d:=by
 cases p with
 |nil=>exact K0 0 h
 |cons j p=>cases d<;>first|(cases h;done)|rfl
theorem aW.M8: ∀(t:Nat) {ds:List (az E.T)} {us:List Value},aW E σ st w M ds us→ ∀{v':az E.T},(∀u,aZ E σ st w M (D.nth ds t .undef) u→aZ E σ st w M v' u)→aW E σ st w M (D.df ds t v') us
 |_,_,_,.nil,_,_=> .nil
 |0,_,_,.cons v r u us h h',_,hv=> .cons _ _ _ _ (hv _ h) h'
 |t+1,_,_,.cons v r u us h h',_,hv=> .cons _ _ _ _ h (aW.M8 t h' hv)
theorem aW.H6: ∀(t:Nat) {ds:List (az E.T)} {us:List Value},aW E σ st w M ds us→ ∀{v:az E.T} {u:Value},us[t]? =some u→aZ E σ st w M v u→aW E σ st w M (D.df ds t v) us
 |_,_,_,.nil,_,_,_,_=> .nil
 |0,_,_,.cons v r u us h h',_,_,hu,hv=>by
  simp only[List.getElem?_cons_zero,Option.some.injEq]at hu
  subst hu
  exact .cons _ _ _ _ hv h'
 |t+1,_,_,.cons v r u us h h',_,_,hu,hv=> .cons _ _ _ _ h (aW.H6 t h' (by simpa using hu) hv)
theorem Mv.box (hst:bm E σ st w) {o:Nat} {ro:Bool} {c c':az E.T} (ho:aR st o=some (.box ro c))
  (h1: ∀b cc el fr t,σ o= .pointer (some ⟨b,0,none⟩)→w.heap[b]? =some (.cells cc el fr)→VT E σ st w (MB σ st) t c cc.toList→ ∃t',VT E σ st w (MB σ st) t' c' cc.toList) (h2:D0 E c=true→c'=c):
  Mv σ σ st (D.df st o (.box ro c')) w w:=by
 have hM: ∀b,MB σ (D.df st o (.box ro c')) b→MB σ st b:=fun b hb=>tt (ob':= .box ro c') ho (fun h=>h) hb
 have hsame: ∀k,ib σ σ st (D.df st o (.box ro c')) k:=fun k=>w8 ho (qy.box ro ro c c') k
 refine Mv.df hst ho (qy.box ro ro c c') id (fun h=>h) w rfl rfl rfl rfl (fun _ _=>rfl) ?_
 have hob:=cW.aH (Kept.weaken (M':=MB σ (D.df st o (.box ro c'))) hM) (fun _ _=>rfl) (fun k _=>hsame k) (hst.obj o _ ho)
 have hob0:=hst.obj o _ ho
 have h1':=fun b cc el fr t=>h1 b cc el fr t
 clear h1
 generalize σ o=u at hob hob0 h1'⊢
 cases hob0 with
 |box ro d b cc el fr hh hf hc=>
  refine .box ro _ b cc el fr hh hf ?_
  rcases hc with⟨t,ht⟩|⟨hs,v,hv,hone,hr⟩
  ·obtain⟨t',ht'⟩:=h1' b cc el fr t rfl hh ht
   exact .inl ⟨t',VT.aH (Kept.weaken hM) ht' (fun k _=>hsame k)⟩
  ·have e1:=h2 hs
   refine .inr ⟨by rw[e1];exact hs,v,hv,hone,?_⟩
   have:=aZ.aH (Kept.weaken hM) hr (fun k _=>hsame k)
   rw[show c=c' from e1.symm]at this
   exact this
theorem zQ {k:Nat} {e:Ty} {p:List Nat} {v v':az E.T} (h:Cu E k e p none v=some v'):D0 E v=false:=by
 cases p with
 |nil=>cases v<;>first|rfl|(simp only[Cu]at h;cases h)
 |cons j p=>cases v<;>first|rfl|(simp only[Cu]at h;cases h)
theorem M7 {α:Type}: ∀{l:List α} {n:Nat} {v:α},l.length≤n→df l n v=l
 |[],n,v,_=>by cases n<;>rfl
 |a::l,0,v,h=>absurd h (by simp)
 |a::l,n+1,v,h=>by simp only[jK,gB,gC];rw[M7 (by simpa using h)]
theorem SU (ok:dk E) (hst:bm E σ st w) (hfr:cf E σ st w fr a) {x:Pw} (h:MY E x fr st=some (fr',st')): ∃σ',Mf σ σ' st st' w w∧cf E σ' st' w fr' a:=by
 cases x with
 |Y9 o=>
  simp only[MY,Option.some.injEq]at h
  cases h
  obtain⟨m,_⟩:=fS [o] hst
  exact⟨σ,m.f,hfr.mv m⟩
 |und t=>
  simp only[MY,Option.some.injEq]at h
  cases h
  refine⟨σ,Mf.refl hst,?_,hfr.d⟩
  by_cases hlt:t<fr.s.length
  ·obtain⟨u,hu,_⟩:=aW.get hfr.s (nu (d:= .undef) hlt)
   exact aW.H6 t hfr.s hu (.undef _)
  ·have:df fr.s t .undef=fr.s:=M7 (Nat.le_of_not_lt hlt)
   simp only[this]
   exact hfr.s
 |rd t=>
  simp only[MY]at h
  split at h
  ·rename_i o hv
   split at h
   ·rename_i ro ty x ho
    simp only[Option.some.injEq]at h
    cases h
    have hlt:t<fr.s.length:=by
     rcases Nat.lt_or_ge t fr.s.length with h|h
     ·exact h
     ·exfalso
      rw[ko,List.getD_eq_getElem?_getD,List.getElem?_eq_none h]at hv
      cases hv
    obtain⟨u,hu,hru⟩:=aW.get hfr.s (nu (d:= .undef) hlt)
    rw[hv]at hru
    have hob:=hst.obj o _ ho
    have hr:cW E σ (df st o (.box true (.val ty x))) w (MB σ (df st o (.box true (.val ty x)))) (σ o) (.box true (.val ty x)):=by
     have:=cW.aH (σ':=σ) (st':=df st o (.box true (.val ty x))) (Kept.weaken (M':=MB σ (df st o (.box true (.val ty x)))) (fun b h=>tt ho (fun h=>by cases h) h)) (fun g _=>rfl) (fun j hj=>w8 ho (.box ro true (.val ty x) (.val ty x)) j) hob
     generalize σ o=s at this
     cases this with
     |box ro c b cc el fr h1 h2 h3=>exact .box true _ b cc el fr h1 h2 h3
    obtain⟨hmv,hnot⟩:=Mv.calm hst ho (.box ro true (.val ty x) (.val ty x)) rfl rfl hr
    refine⟨σ,hmv.f,?_,(hfr.mv hmv).d⟩
    refine aW.H6 t (hfr.mv hmv).s hu ?_
    cases hru with
    |data t' d cs hv=>cases hv
    |ptr o p b hb hlo=>
     rcases IZ ok (p:=[]) (v:= .val ty x) (ob:= .box true (.val ty x)) rfl (fun h=>by cases h) hr hb with⟨t',c',hvt,hcell⟩|⟨y,_,hs,_⟩
     ·cases hvt with
      |val _ _ _ hc=>exact .dZ ty x _ c' hc ⟨b,E.cw [],rfl,hnot b hb,lO hst ho rfl hb,fun q v hq=>hcell q v hq⟩
     ·cases hs
   ·simp only[Option.some.injEq]at h
    cases h
    exact⟨σ,Mf.refl hst,hfr⟩
  ·simp only[Option.some.injEq]at h
   cases h
   exact⟨σ,Mf.refl hst,hfr⟩
 |ye wh p=>
  simp only[MY,Option.some.injEq]at h
  generalize hks:refs (Uj E p (H4 E wh fr st))=ks at h
  obtain⟨m,_⟩:=fS ks hst
  have hst1:=m.rep
  have hfr1:=hfr.mv m
  cases wh with
  |slot t=>
   cases h
   exact⟨σ,m.f,aW.M8 t hfr1.s (fun u hu=>aZ.py ok hst1 p hu),hfr1.d⟩
  |obj o=>
   simp only[H5]at h
   split at h
   ·rename_i ro c hc
    cases h
    have hc0:H4 E (.obj o) fr st=c∨ ∃c0,aR st o=some c0:=by
     right
     have hl:=bM hc
     have:(freeze E st ks).length=st.length:=by
      have:=m.stay.len
      have h2: ∀(ks:List Nat) (s:St E.T),(freeze E s ks).length=s.length:=by
       intro ks
       induction ks with
       |nil=>intro s;rfl
       |cons k r ih=>intro s;rw[freeze,ih];split<;>simp[dH]
      exact h2 ks st
     rw[this]at hl
     exact⟨st[o],by rw[cT];exact List.getElem?_eq_getElem hl⟩
    have hcc:H4 E (.obj o) fr st=c:=by
     rcases hc0 with h|⟨c0,h0⟩
     ·exact h
     ·have h2: ∀(ks:List Nat) (s:St E.T) (ro:Bool) (c:az E.T),aR s o=some (.box ro c)→aR (freeze E s ks) o=some (.box ro c):=by
       intro ks
       induction ks with
       |nil=>intro s ro c h;exact h
       |cons k r ih=>
        intro s ro c h
        rw[freeze]
        refine ih _ ro c ?_
        split
        ·rename_i l e xs hk
         rw[bE]
         by_cases hko:k=o
         ·subst hko;rw[h]at hk;cases hk
         ·rw[if_neg (fun h=>hko h.1)];exact h
        ·exact h
      obtain⟨ob',h3,t3,_⟩:=m.stay.kind o c0 h0
      rw[hc]at h3
      cases h3
      cases t3 with
      |box ro0 ro' c0' c'=>
       have:=h2 ks st ro0 c0' h0
       rw[hc]at this
       cases this
       simp only[H4,h0]
    rw[hcc]
    have m2:Mv σ σ (freeze E st ks) (df (freeze E st ks) o (.box ro (py E (freeze E st ks) p c))) w w:=Mv.box hst1 hc (fun _ _ _ _ t _ _ h=>⟨t,VT.py ok hst1 p h⟩) (fun hs=>MO p hs)
    exact⟨σ,(m.trans m2).f,hfr1.mv m2⟩
   ·cases h
    exact⟨σ,m.f,hfr1⟩
 |zR wh p e=>
  simp only[MY]at h
  split at h
  ·rename_i v hv
   simp only[Option.some.injEq]at h
   cases wh with
   |slot t=>
    simp only[H4]at hv
    cases h
    have hlt:t<fr.s.length:=by
     rcases Nat.lt_or_ge t fr.s.length with h|h
     ·exact h
     ·exfalso
      rw[ko,List.getD_eq_getElem?_getD,List.getElem?_eq_none h]at hv
      cases p<;>(simp only[Option.getD_none,Cu]at hv;cases hv)
    obtain⟨u,hu,hru⟩:=aW.get hfr.s (nu (d:= .undef) hlt)
    have hns:=zQ hv
    generalize hvs:nth fr.s t .undef=vs at hv hru hns
    cases hru with
    |data ty d cs hvt=>
     obtain⟨ad,had⟩:=Ip p hvt (fun _ h=>by cases h) hv
     have mp:=Mv.JS (E:=E) hst (.slice ad 0 0) (.arr .live e []) (by cases ad<;>rfl) (fun σ' st' w' M'=> .arr .live e [] _ ⟨Nat.zero_le _,.inl ⟨⟨ad,rfl⟩,rfl⟩⟩)
     refine⟨_,mp.f,?_,(hfr.mv mp).d⟩
     refine aW.H6 t (hfr.mv mp).s hu ?_
     obtain⟨t',h3,_,h5⟩:=had (σ':=dL σ st.length (.slice ad 0 0)) (st':=st++[.arr .live e []]) (w':=w) (M':=MB (dL σ st.length (.slice ad 0 0)) (st++[.arr .live e []])) dD (by rw[ej,if_pos rfl]) mp.aH.kept (fun j hj=>mp.same j (VT.refs hvt j hj))
     have:toV ty cs=toV t' cs:=by unfold toV;rw[h3]
     rw[this]
     exact .data t' _ cs h5
    |jk vs us h=>cases p<;>(simp only[Cu]at hv;cases hv)
    |_=>cases hns
   |obj o=>
    simp only[H4]at hv
    split at hv
    ·rename_i ro c hc
     have ho:=hst.obj o _ hc
     have hlo:=bM hc
     generalize hso:σ o=so at ho
     cases ho with
     |box ro d b cc el frr hh hf hcc=>
      rcases hcc with⟨ty,hvt⟩|⟨hs,_⟩
      ·obtain⟨ad,had⟩:=Ip p hvt (fun _ h=>by cases h) hv
       have mp:=Mv.JS (E:=E) hst (.slice ad 0 0) (.arr .live e []) (by cases ad<;>rfl) (fun σ' st' w' M'=> .arr .live e [] _ ⟨Nat.zero_le _,.inl ⟨⟨ad,rfl⟩,rfl⟩⟩)
       have hc1:aR (st++[Obj.arr .live e []]) o=some (.box ro c):=by rw[ej,if_neg (Nat.ne_of_lt hlo)];exact hc
       simp only[H5,hc1]at h
       cases h
       have m2:=Mv.box (c':=v) mp.rep hc1 (fun b' cc' el' fr' t hs' hh' _=>by
        rw[dC (Nat.ne_of_lt hlo),hso]at hs'
        cases hs'
        rw[hh]at hh'
        cases hh'
        obtain⟨t',_,_,h5⟩:=had (σ':=dL σ st.length (.slice ad 0 0)) (st':=st++[.arr .live e []]) (w':=w) (M':=MB (dL σ st.length (.slice ad 0 0)) (st++[.arr .live e []])) dD (by rw[ej,if_pos rfl]) mp.aH.kept (fun j hj=>mp.same j (VT.refs hvt j hj))
        exact⟨t',h5⟩) (fun hs=>by rw[zQ hv]at hs;cases hs)
       exact⟨_,(mp.trans m2).f,(hfr.mv mp).mv m2⟩
      ·rw[zQ hv]at hs;cases hs
    ·cases p<;>(simp only[Cu]at hv;cases hv)
  ·simp only[Option.some.injEq]at h
   cases h
   exact⟨σ,Mf.refl hst,hfr⟩
theorem Ji (ok:dk E): ∀(l:List Pw) {fr fr':Fr E.T} {st st':St E.T} {σ:Sg},bm E σ st w→cf E σ st w fr a→Pm E l fr st=some (fr',st')→ ∃σ',Mf σ σ' st st' w w∧cf E σ' st' w fr' a
 |[],_,_,_,_,σ,hst,hfr,h=>by
  simp only[Pm,Option.some.injEq]at h
  cases h
  exact⟨σ,Mf.refl hst,hfr⟩
 |x::l,_,_,_,_,σ,hst,hfr,h=>by
  simp only[Pm]at h
  split at h
  ·rename_i p hp
   obtain⟨σ1,m1,hf1⟩:=SU ok hst hfr hp
   obtain⟨σ2,m2,hf2⟩:=Ji ok l m1.rep hf1 h
   exact⟨σ2,m1.trans m2,hf2⟩
  ·cases h
end
end
open Go
noncomputable section
section
variable {P:Program} {E:Env} {w w' w'':World} {σ σ' σ'':Sg} {st st' st'':St E.T} {M M':Nat→Prop}
variable {K:Act→World→Prop} {Q:Exit→Act→World→Prop} {a:Act} {fr fr1:Fr E.T}
inductive Cb (E:Env) (σ:Sg) (st:St E.T) (w:World):NP E.T→Exit→Prop where
 |normal:Cb E σ st w .normal .normal
 |exit (id:Nat):Cb E σ st w (.exit id) (.exit id)
 |ret:Cb E σ st w .ret .ret
 |panic (v:az E.T) (u:Value) (h:aZ E σ st w (MB σ st) v u):Cb E σ st w (.panic v) (.panic [{v:=u,recovered:=false}])
def Ca (E:Env) (σ:Sg) (st:St E.T) (w:World) (Q:Exit→Act→World→Prop) (out:bR E):Prop:=
 ∀σ' w' a' x,Mf σ σ' st out.2.2 w w'→cf E σ' out.2.2 w' out.2.1 a'→Cb E σ' out.2.2 w' out.1 x→Q x a' w'
theorem Ca.later {out:bR E} (m:Mf σ σ' st st' w w') (h:Ca E σ st w Q out):Ca E σ' st' w' Q out:=
 fun σ'' w'' a' x m'=>h σ'' w'' a' x (m.trans m')
theorem Cw {n o:Nat} (h:o<n):aR (st.take n) o=aR st o:=by
 simp only[cT]
 rw[List.getElem?_take_of_lt h]
theorem kq {n o:Nat} {ob:Obj E.T} (h:aR (st.take n) o=some ob):o<n∧aR st o=some ob:=by
 have hl:=bM h
 rw[List.length_take]at hl
 have:o<n:=by omega
 rw[Cw this]at h
 exact⟨this,h⟩
theorem AZ {n b:Nat} (h:MB σ (st.take n) b):MB σ st b:=by
 rcases h with h|⟨o,ob,ho,hm,hb⟩
 ·exact .inl h
 ·exact .inr ⟨o,ob,(kq ho).2,hm,hb⟩
theorem take_same {n k:Nat} (h:k<n):ib σ σ st (st.take n) k:=
 ⟨rfl,fun l e xs hh=>⟨l,xs,by rw[Cw h];exact hh⟩,fun hl=>by rw[List.length_take];omega⟩
theorem wK {n:Nat} (hst:bm E σ st w) (hr: ∀k∈iX E (st.take n),k<n):bm E σ (st.take n) w:=by
 refine⟨fun o ob ho=> ?_,fun o o' ob ob' b hne ho ho'=>hst.apart o o' ob ob' b hne (kq ho).2 (kq ho').2,hst.qh,fun o ob b ho=>hst.out o ob b (kq ho).2⟩
 exact cW.aH (Kept.weaken fun b hb=>AZ hb) (fun _ _=>rfl) (fun k hk=>take_same (hr k (Fe ho hk))) (hst.obj o ob (kq ho).2)
theorem vi (ks:List Nat): ∀(i:Nat) {ds:List (az E.T)} {us:List Value},aW E σ st w M ds us→aW E σ st w M (fF E ks i ds) us
 |i,_,_,.nil=> .nil
 |i,_,_,.cons v r u us h h'=>by
  simp only[fF]
  refine .cons _ _ _ _ ?_ (vi ks (i+1) h')
  cases cX ks i with
  |true=>exact h
  |false=>exact .undef _
theorem Mf.take (m:Mf σ σ' st st' w w') (hr:bm E σ' (st'.take st.length) w'):Mf σ σ' st (st'.take st.length) w w':=
 ⟨hr,⟨m.aH.os,m.aH.tape,m.aH.output,m.aH.size,m.aH.block,fun b hb h=>m.aH.may b hb (AZ h)⟩,
  ⟨m.stay.same,fun o ob ho=>by
  obtain⟨ob',h1,h2,h3⟩:=m.stay.kind o ob ho
  exact⟨ob',by rw[Cw (bM ho)];exact h1,h2,h3⟩⟩,m.qh⟩
theorem Fp: ∀(ks:List Nat) {s:St E.T},(freeze E s ks).length=s.length
 |[],s=>rfl
 |k::r,s=>by rw[freeze,Fp r];split<;>simp[dH]
theorem J5 {s:St E.T}: ∀(l:List Nat) (i:Nat),Hi E s i l=true→ ∀j,j<l.length→nth l j 0=i+j∨ ∃l2 e xs ys,aR s (i+j)=some (.arr l2 e xs)∧aR s (nth l j 0)=some (.arr .live e ys)
 |[],i,h,j,hj=>absurd hj (Nat.not_lt_zero j)
 |m::r,i,h,0,hj=>by
  simp only[Hi,Bool.and_eq_true,Bool.or_eq_true]at h
  rcases h.1 with h1|h1
  ·left;exact Nat.eq_of_beq_eq_true h1
  ·right
   split at h1
   ·rename_i l2 e xs e' ys p1 p2
    have:=dN h1
    subst this
    exact⟨l2,e,xs,ys,p1,p2⟩
   ·cases h1
 |m::r,i,h,j+1,hj=>by
  simp only[Hi,Bool.and_eq_true]at h
  have:=J5 r (i+1) h.2 j (by simpa using hj)
  rw[show i+(j+1)=i+1+j by omega]
  exact this
theorem Ku (n:Nat) (s:List (az E.T)): ∀(ik:List (Nat×Nat)) (o:Nat),o<n→nth (BM E n s ik) o 0=o∨ ∃x∈ik,x.2=o
 |[],o,ho=>by
  left
  simp only[BM]
  rw[ko,List.getD_eq_getElem?_getD,List.getElem?_range ho];rfl
 |(q,k) ::r,o,ho=>by
  have ih:=Ku n s r o ho
  have ih':nth (BM E n s r) o 0=o∨ ∃x∈(q,k) ::r,x.2=o:=ih.imp id fun⟨x,h1,h2⟩=>⟨x,List.mem_cons_of_mem _ h1,h2⟩
  simp only[BM]
  split
  ·rename_i m _
   cases hb:Nat.ble n m with
   |false=>exact ih'
   |true=>
    simp only[cond_true]
    by_cases hk:k=o
    ·exact .inr ⟨(q,k),List.mem_cons_self ..,hk⟩
    ·rcases ih' with h|h
     ·left
      rw[ko,List.getD_eq_getElem?_getD]at h⊢
      rw[EG,List.getElem?_set_ne hk];exact h
     ·exact .inr h
  ·exact ih'
theorem OG {s:St E.T} {ik:List (Nat×Nat)} (h:E9 E s ik=true) {x:Nat×Nat} (hx:x∈ik): ∃e xs,aR s x.2=some (.arr .live e xs):=by
 unfold E9 at h
 rw[List.all_eq_true]at h
 have:=h x hx
 split at this
 ·rename_i e xs hh;exact⟨e,xs,hh⟩
 ·cases this
theorem fR.D3 {ρ:Nat→Nat} (kp:Kept M M' w w'): ∀{ds:List (FuncId×List (az E.T))} {dds:List Deferred},fR E σ st w M ds dds→(∀k∈ds.flatMap fun x=>bg x.2,DX ρ σ σ' st st' k)→fR E σ' st' w' M' (ds.map fun x=>(x.1,Js ρ x.2)) dds
 |_,_,.nil,_=> .nil
 |_,_,.cons g as args cap ds dds has h,hs=> .cons g _ args cap _ dds (aW.D3 kp trivial has (fun k hk=>hs k (by simp[hk]))) (fR.D3 kp h (fun k hk=>hs k (by simp only[List.flatMap_cons,List.mem_append];exact .inr hk)))
theorem Et (ok:dk E) {ks:List Nat} {ik:List (Nat×Nat)} {fr':Fr E.T} {st':St E.T} {σ0:Sg} {st0:St E.T} {w0:World} (hlv:E9 E st0 ik=true) (m:Mf σ0 σ st0 st w0 w) (hfr:cf E σ st w fr a) (h:tc E ks ik st0.length fr st=some (fr',st')):
  ∃σ',Mf σ0 σ' st0 st' w0 w∧cf E σ' st' w fr' a∧st'.length=st0.length:=by
 have hst:=m.rep
 have hlen0:=m.stay.len
 unfold tc at h
 split at h
 ·simp only at h
  generalize hks:List.range' st0.length (st.length-st0.length)=ksf at h
  obtain⟨m1,_⟩:=fS ksf hst
  have hk:cf E σ (freeze E st ksf) w {s:=fF E ks 0 fr.s,d:=fr.d} a:=⟨vi ks 0 (hfr.mv m1).s,(hfr.mv m1).d⟩
  have hk2:=cf.ye ok m1.rep st0.length hk
  have md:=Mv.ye ok m1.rep st0.length
  have m2:Mf σ0 σ st0 (mV E (freeze E st ksf) st0.length) w0 w:=m.trans (m1.trans md).f
  have hk3:=hk2.mv md
  cases hb:(je E {s:=rI E (freeze E st ksf) st0.length (fF E ks 0 fr.s),d:=fr.d}++iX E ((mV E (freeze E st ksf) st0.length).take st0.length)).all (fun k=>Nat.blt k st0.length)with
  |false=>rw[hb]at h;cases h
  |true=>
   rw[hb]at h
   cases h
   rw[List.all_eq_true]at hb
   have hlt: ∀k,k∈je E {s:=rI E (freeze E st ksf) st0.length (fF E ks 0 fr.s),d:=fr.d}++iX E ((mV E (freeze E st ksf) st0.length).take st0.length)→k<st0.length:=by
    intro k hk
    have:=hb k hk
    rwa [Nat.blt_eq]at this
   have hr:=wK m2.rep (fun k hk=>hlt k (List.mem_append_right _ hk))
   refine⟨σ,Mf.take m2 hr,?_,?_⟩
   ·exact vz hk3 (Kept.weaken fun b hb=>AZ hb) (fun k hk=>take_same (hlt k (List.mem_append_left _ hk)))
   ·rw[List.length_take,mV,List.length_map,Fp];omega
 ·simp only at h
  generalize hR:BM E st0.length (fF E ks 0 fr.s) ik=R at h
  generalize hks:((List.range' st0.length (st.length-st0.length)).filter fun k=> !(cX R k))=ksf at h
  obtain⟨m1,_⟩:=fS ksf hst
  have hk:cf E σ (freeze E st ksf) w {s:=fF E ks 0 fr.s,d:=fr.d} a:=⟨vi ks 0 (hfr.mv m1).s,(hfr.mv m1).d⟩
  have hk2:=cf.ye ok m1.rep st0.length hk
  have md:=Mv.ye ok m1.rep st0.length
  have m2:Mf σ0 σ st0 (mV E (freeze E st ksf) st0.length) w0 w:=m.trans (m1.trans md).f
  have hk3:=hk2.mv md
  generalize hfr1:({s:=rI E (freeze E st ksf) st0.length (fF E ks 0 fr.s),d:=fr.d}:Fr E.T)=fr1 at h hk3
  generalize hst2:mV E (freeze E st ksf) st0.length=st2 at h hk3 m2
  cases hb:(Nat.beq R.length st0.length&&(oX E st2 R&&(Hi E st2 0 R&&(je E fr1).all (cX R))))with
  |false=>rw[hb]at h;cases h
  |true=>
   rw[hb]at h
   cases h
   simp only[Bool.and_eq_true]at hb
   obtain⟨hn,hcl,hmv,hfrR⟩:=hb
   have hn:=Nat.eq_of_beq_eq_true hn
   have hc:=yQ hcl
   have hrep:=IG (fx:=[]) m2.rep hc (m:=σ.m) (fun b h=> .inl h) m2.rep.qh (fun k hk ob b h1 h2 h3=>m2.rep.out k ob b h1 h2 h3)
   have hMB: ∀b,MB (rq σ R σ.m) (gL E st2 [] R) b→MB σ st2 b:=fun b hb=>II hc (fun b h=> .inl h) hb
   have hRat: ∀o,o<st0.length→nth R o 0=o∨ ∃e xs,aR st0 o=some (.arr .live e xs):=by
    intro o ho
    rw[←hR]
    rcases Ku st0.length (fF E ks 0 fr.s) ik o ho with h|⟨x,hx,rfl⟩
    ·exact .inl h
    ·exact .inr (OG hlv hx)
   have hmem: ∀k∈je E fr1,k∈R:=by
    intro k hk
    rw[List.all_eq_true]at hfrR
    exact(ek R k).1 (hfrR k hk)
   have hat: ∀o ob2,o<R.length→aR st2 (nth R o 0)=some ob2→aR (gL E st2 [] R) o=some (gI (idx R) ob2):=by
    intro o ob2 ho h2
    unfold gL
    rw[dx]
    have:aR R o=some (nth R o 0):=nu ho
    rw[this]
    simp only[Option.map_some,h2]
    cases ob2 with
    |arr l _ _=>cases l<;>rfl
    |_=>rfl
   refine⟨rq σ R σ.m,⟨hrep,⟨m2.aH.os,m2.aH.tape,m2.aH.output,m2.aH.size,m2.aH.block,fun b hb h=>m2.aH.may b hb (hMB b h)⟩,⟨fun o ob ho hl=> ?_,fun o ob ho=> ?_⟩,⟨m2.qh.m,m2.qh.gm⟩⟩,⟨?_,?_⟩,?_⟩
   ·have holt:=bM ho
    show σ (nth R o 0)=σ0 o
    rcases hRat o holt with h1|⟨e,xs,h1⟩
    ·rw[h1];exact m2.stay.same o ob ho hl
    ·rw[h1]at ho;cases ho;cases hl
   ·have holt:=bM ho
    obtain⟨ob',h3,t3,h4⟩:=m2.stay.kind o ob ho
    rcases hRat o holt with hR1|⟨e0,xs0,hR1⟩
    ·refine⟨gI (idx R) ob',hat o ob' (by omega) (by rw[hR1];exact h3),?_,fun hl=> ?_⟩
     ·refine t3.trans ?_
      cases ob' with
      |box ro c=>exact .box _ _ _ _
      |arr l e xs=>exact .arr _ _ _ _ _
      |dead=>exact .dead
     ·have:=h4 hl
      cases ob'<;>exact this
    rcases J5 R 0 hmv o (by omega)with h1|⟨l2,e,xs,ys,h1,h2⟩
    ·rw[Nat.zero_add]at h1
     refine⟨gI (idx R) ob',hat o ob' (by omega) (by rw[h1];exact h3),?_,fun hl=> ?_⟩
     ·refine t3.trans ?_
      cases ob' with
      |box ro c=>exact .box _ _ _ _
      |arr l e xs=>exact .arr _ _ _ _ _
      |dead=>exact .dead
     ·have:=h4 hl
      cases ob'<;>exact this
    ·rw[Nat.zero_add]at h1
     rw[h1]at h3;cases h3
     refine⟨_,hat o _ (by omega) h2,t3.trans (.arr _ _ _ _ _),fun hl=>by rw[hR1]at ho;cases ho;cases hl⟩
   ·exact aW.D3 (Kept.weaken hMB) trivial hk3.s (fun k hk=>xy hc (hmem k (List.mem_append_left _ hk)))
   ·exact fR.D3 (Kept.weaken hMB) hk3.d (fun k hk=>xy hc (hmem k (List.mem_append_right _ hk)))
   ·rw[gL,List.length_map];exact hn
theorem least {p:Nat→Prop} (h: ∃n,p n): ∃n,p n∧ ∀m,p m→n≤m:=by
 obtain⟨n,hn⟩:=h
 induction n using Nat.strongRecOn with
 |_ n ih=>
  by_cases hm: ∃m,m<n∧p m
  ·obtain⟨m,h1,h2⟩:=hm
   exact ih m h1 h2
  ·refine⟨n,hn,fun m hm'=> ?_⟩
   rcases Nat.lt_or_ge m n with h|h
   ·exact absurd ⟨m,h,hm'⟩ hm
   ·exact h
open Classical in
theorem LB {c:Code} (G:Nat→Act→World→Prop) {n:Nat} {a:Act} {w:World} (h0:G n a w)
  (round: ∀n a w,G n a w→ ∃m,n=m+1∧c.wp P (Exit.then (fun a' w'=>G m a' w') Q) a w):(Code.loop c).wp P Q a w:=by
 let μ:Act→World→Nat:=fun a w=>if h: ∃n,G n a w then Classical.choose (least h)else 0
 have hμ: ∀a w n,G n a w→G (μ a w) a w∧μ a w≤n:=by
  intro a w n h
  have hex: ∃n,G n a w:=⟨n,h⟩
  have hs:=Classical.choose_spec (least hex)
  have he:μ a w=Classical.choose (least hex):=dif_pos hex
  rw[he]
  exact⟨hs.1,hs.2 n h⟩
 refine wp_loop (fun a w=> ∃n,G n a w) μ ⟨n,h0⟩ (fun a w hI=> ?_)
 obtain⟨n,hn⟩:=hI
 obtain⟨m,hm,hwp⟩:=round _ a w (hμ a w n hn).1
 refine wp_mono hwp (fun e a' w' hq=> ?_)
 cases e with
 |normal=>exact⟨⟨m,hq⟩,by have:=(hμ a' w' m hq).2;omega⟩
 |exit id=>exact hq
 |goto l=>exact hq
 |ret=>exact hq
 |panic ch=>exact hq
 |outgrown=>exact hq
def DT:List (az E.T)→List (az E.T)→Prop
 |[],[]=>True
 |v::r,v'::r'=>(v= .undef∨v=v')∧DT r r'
 |_,_=>False
def De (fr fr':Fr E.T):Prop:=fr.d=fr'.d∧DT fr.s fr'.s
theorem DT.refl: ∀l:List (az E.T),DT l l
 |[]=>trivial
 |_::r=>⟨.inr rfl,DT.refl r⟩
theorem De.refl (fr:Fr E.T):De fr fr:=⟨rfl,DT.refl _⟩
theorem aW.PA {M:Nat→Prop}: ∀{l l':List (az E.T)} {us:List Value},DT l l'→aW E σ st w M l' us→aW E σ st w M l us
 |[],[],_,_,h=>h
 |v::r,v'::r',_,hw,.cons _ _ u us h h'=>by
  rcases hw.1 with rfl|rfl
  ·exact .cons _ _ _ _ (.undef _) (aW.PA hw.2 h')
  ·exact .cons _ _ _ _ h (aW.PA hw.2 h')
 |[],_::_,_,hw,_=>hw.elim
 |_::_,[],_,hw,_=>hw.elim
theorem cf.PA {fr fr':Fr E.T} {a:Act} (h:cf E σ st w fr' a) (hw:De fr fr'):cf E σ st w fr a:=⟨aW.PA hw.2 h.s,by rw[hw.1];exact h.d⟩
def fj (S:FuncId→Option (Spec E)) (L:Nat→cY E) (N:Nat):Nat→Code→Prop
 |i,.seq a b=>fj S L N i a∧fj S L N (i+da a) b
 |i,.cond _ a b=>fj S L N i a∧fj S L N (i+da a) b
 |i,.block _ c=>fj S L N i c
 |i,.loop c=>(∀f,(L i).closed=some f→ ∀fr st out,(f fr st).get=some out→ ∃m fr',(qf E (gi E S L N (i+1) c) (L i).aH (L i).ik st.length m fr st).get=some (out.1,fr',out.2.2)∧De out.2.1 fr')∧fj S L N (i+1) c
 |_,_=>True
theorem Ka (ok:dk E) {ks:List Nat} {ik:List (Nat×Nat)} {step:Fr E.T→St E.T→Tree (bR E)} {c:Code}
  (hstep: ∀{fr:Fr E.T} {st:St E.T} {a:Act} {w:World} {σ:Sg} {out:bR E} {Q:Exit→Act→World→Prop},bm E σ st w→cf E σ st w fr a→(step fr st).get=some out→Ca E σ st w Q out→c.wp P Q a w)
  {m:Nat} {out:bR E} (hlv:E9 E st ik=true) (hst:bm E σ st w) (hfr:cf E σ st w fr a) (h:(qf E step ks ik st.length m fr st).get=some out) (hp:Ca E σ st w Q out):(Code.loop c).wp P Q a w:=by
 refine LB (n:=m) (fun m a' w'=> ∃fr' st' σ',Mf σ σ' st st' w w'∧cf E σ' st' w' fr' a'∧(qf E step ks ik st.length m fr' st').get=some out) ⟨fr,st,σ,Mf.refl hst,hfr,h⟩ ?_
 rintro n a' w' ⟨fr',st',σ',m',hfr',h'⟩
 cases n with
 |zero=>cases h'
 |succ n=>
  refine⟨n,rfl,?_⟩
  simp only[qf]at h'
  split at h'
  ·rename_i fr2 st2 hh
   obtain⟨σ2,m2,hfr2,hl2⟩:=Et ok hlv m' hfr' hh
   obtain⟨p,hp1,h2⟩:=Tree.aB h'
   obtain⟨e,fr3,st3⟩:=p
   refine hstep m2.rep hfr2 hp1 (fun σ3 w3 a3 x m3 hfr3 hx=> ?_)
   cases hx with
   |normal=>exact⟨fr3,st3,σ3,m2.trans m3,hfr3,h2⟩
   |exit id=>cases h2;exact hp σ3 w3 a3 _ (m2.trans m3) hfr3 (.exit id)
   |ret=>cases h2;exact hp σ3 w3 a3 _ (m2.trans m3) hfr3 .ret
   |panic v u hv=>cases h2;exact hp σ3 w3 a3 _ (m2.trans m3) hfr3 (.panic v u hv)
  ·cases h'
theorem iL (HS:Sound P E) (hmix:P.follows .mixedOrders=true) {S:FuncId→Option (Spec E)} (HC:mJ P E S) {L:Nat→cY E} {N:Nat}: ∀(c:Code) (i:Nat) {fr:Fr E.T} {st:St E.T} {a:Act} {w:World} {σ:Sg} {out:bR E} {Q:Exit→Act→World→Prop},fj S L N i c→
  bm E σ st w→cf E σ st w fr a→(gi E S L N i c fr st).get=some out→Ca E σ st w Q out→c.wp P Q a w
 | .skip,i,fr,st,a,w,σ,out,Q,hL,hst,hfr,h,hp=>by
  cases h
  exact wp_skip (hp σ w a _ (Mf.refl hst) hfr .normal)
 | .seq c1 c2,i,fr,st,a,w,σ,out,Q,hL,hst,hfr,h,hp=>by
  simp only[gi]at h
  obtain⟨⟨e,fr1,st1⟩,h1,h2⟩:=Tree.aB h
  refine wp_seq (iL HS hmix HC c1 i hL.1 hst hfr h1 (fun σ' w' a' x m hfr' hx=> ?_))
  cases hx with
  |normal=>exact iL HS hmix HC c2 (i+da c1) hL.2 m.rep hfr' h2 (hp.later m)
  |exit id=>cases h2;exact hp σ' w' a' _ m hfr' (.exit id)
  |ret=>cases h2;exact hp σ' w' a' _ m hfr' .ret
  |panic v u hv=>cases h2;exact hp σ' w' a' _ m hfr' (.panic v u hv)
 | .region id ops draw,i,fr,st,a,w,σ,out,Q,hL,hst,hfr,h,hp=>by
  simp only[gi]at h
  split at h
  ·rename_i p hadj
   obtain⟨σ1,m1,hfr1⟩:=Ji HS.todk _ hst hfr hadj
   have hp1:=hp.later m1
   cases draw with
   |true=>
    simp only at h
    obtain⟨r,h1,h2⟩:=Tree.aB h
    cases h2
    refine Mz HS HC hmix m1.rep hfr1 h1 ?_
    cases r with
    |done fr' st'=>exact fun σ' w' a' m hfr'=>hp1 σ' w' a' _ m hfr' .normal
    |panic v fr' st'=>exact fun σ' w' a' u m hfr' hv=>hp1 σ' w' a' _ m hfr' (.panic v u hv)
   |false=>
    simp only at h
    obtain⟨r,h1,h2⟩:=Tree.aB h
    cases h2
    refine Oj HS HC m1.rep hfr1 h1 ?_
    cases r with
    |done fr' st'=>exact fun σ' w' a' m hfr'=>hp1 σ' w' a' _ m hfr' .normal
    |panic v fr' st'=>exact fun σ' w' a' u m hfr' hv=>hp1 σ' w' a' _ m hfr' (.panic v u hv)
  ·cases h
 | .cond x c1 c2,i,fr,st,a,w,σ,out,Q,hL,hst,hfr,h,hp=>by
  cases x with
  |tmp t=>
   simp only[gi]at h
   obtain⟨b,hb,hor⟩:=rj h
   have hs:=Cl hfr hb
   have he:a.eval (.tmp t)= .bool b:=by simp[Act.eval,Array.getD_eq_getD_getElem?,hs]
   rcases hor with⟨rfl,h⟩|⟨rfl,h⟩
   ·exact wp_cond_true he (iL HS hmix HC c1 i hL.1 hst hfr h hp)
   ·exact wp_cond_false he (iL HS hmix HC c2 (i+da c1) hL.2 hst hfr h hp)
  |_=>simp only[gi]at h;cases h
 | .block id c,i,fr,st,a,w,σ,out,Q,hL,hst,hfr,h,hp=>by
  simp only[gi]at h
  obtain⟨⟨e,fr1,st1⟩,h1,h2⟩:=Tree.aB h
  refine wp_block (iL HS hmix HC c i hL hst hfr h1 (fun σ' w' a' x m hfr' hx=> ?_))
  cases hx with
  |normal=>cases h2;exact hp σ' w' a' _ m hfr' .normal
  |exit id'=>
   simp only[Exit.inBlock]
   simp only at h2
   cases hb:Nat.beq id' id with
   |true=>
    rw[hb]at h2
    cases h2
    rw[if_pos (Nat.eq_of_beq_eq_true hb)]
    exact hp σ' w' a' _ m hfr' .normal
   |false=>
    rw[hb]at h2
    cases h2
    rw[if_neg (fun h=>by rw[h,Nat.beq_refl]at hb;cases hb)]
    exact hp σ' w' a' _ m hfr' (.exit id')
  |ret=>cases h2;exact hp σ' w' a' _ m hfr' .ret
  |panic v u hv=>cases h2;exact hp σ' w' a' _ m hfr' (.panic v u hv)
 | .loop c,i,fr,st,a,w,σ,out,Q,hL,hst,hfr,h,hp=>by
  simp only[gi]at h
  split at h
  ·rename_i p hadj
   obtain⟨σ1,m1,hfr1⟩:=Ji HS.todk _ hst hfr hadj
   split at h
   ·rename_i fr' st' hh
    obtain⟨σ2,m2,hfr2,hl2⟩:=Et HS.todk rfl (Mf.refl m1.rep) hfr1 hh
    have hp2:=(hp.later m1).later m2
    obtain⟨hlv,h⟩:=Tree.aO h
    have hbody: ∀{fr:Fr E.T} {st:St E.T} {a:Act} {w:World} {σ:Sg} {out:bR E} {Q:Exit→Act→World→Prop},bm E σ st w→cf E σ st w fr a→(gi E S L N (i+1) c fr st).get=some out→Ca E σ st w Q out→c.wp P Q a w:=
     fun hst hfr h hp=>iL HS hmix HC c (i+1) hL.2 hst hfr h hp
    split at h
    ·rename_i f hf
     obtain⟨m,fr2,hm,hwk⟩:=hL.1 f hf fr' st' _ h
     exact Ka HS.todk hbody hlv m2.rep hfr2 hm (fun σ'' w'' a'' x m' hfr2 hx=>hp2 σ'' w'' a'' x m' (hfr2.PA hwk) hx)
    ·exact Ka HS.todk hbody hlv m2.rep hfr2 h hp2
   ·cases h
  ·cases h
 | .exit id,i,fr,st,a,w,σ,out,Q,hL,hst,hfr,h,hp=>by
  cases h
  exact wp_exit (hp σ w a _ (Mf.refl hst) hfr (.exit id))
 | .ret,i,fr,st,a,w,σ,out,Q,hL,hst,hfr,h,hp=>by
  cases h
  exact wp_ret (hp σ w a _ (Mf.refl hst) hfr .ret)
 | .scope c,i,fr,st,a,w,σ,out,Q,hL,hst,hfr,h,hp=>by simp only[gi]at h;cases h
 | .label l,i,fr,st,a,w,σ,out,Q,hL,hst,hfr,h,hp=>by simp only[gi]at h;cases h
 | .goto l,i,fr,st,a,w,σ,out,Q,hL,hst,hfr,h,hp=>by simp only[gi]at h;cases h
 | .rangeFunc ..,i,fr,st,a,w,σ,out,Q,hL,hst,hfr,h,hp=>by simp only[gi]at h;cases h
end
end
open Go
noncomputable section
section
variable {P:Program} {E:Env} {w w' w'':World} {σ σ' σ'':Sg} {st st' st'':St E.T} {M:Nat→Prop}
variable {a:Act} {fr fr1:Fr E.T}
def oneOf:List Value→Value
 |[u]=>u
 |us=> .tuple us.toArray
theorem P8 {x:az E.T} {u:Value} {t:TypeId} {v:az E.T} (h:(xY E st t x).get=some v) (hx:aZ E σ st w M x u): ∃ad,u= .pointer (some ad):=by
 cases x with
 |ptr o p=>
  cases hx with
  |data t d cs hv=>cases hv
  |ptr o p b hb hl=>exact⟨_,rfl⟩
 |dZ t' y=>
  cases hx with
  |data t d cs hv=>cases hv
  |dZ t x a cs hc hm=>exact⟨a,rfl⟩
 |_=>cases h
theorem DL (HS:Sound P E) (hst:bm E σ st w) (hfr:cf E σ st w fr a): ∀(rs:List ResultVar) {vs:List (az E.T)},(xX E fr st rs).get=some vs→
  ∃us,(∀f:ResultVar→Sem Value,(∀t,f (.tmp t)=pure (a.tmps.getD t undef))→(∀b t,f (.cell b t)=(do loadVar t (←asAddr (a.tmps.getD b undef))))→(rs.mapM f).run P w= .ok us w)∧aW E σ st w (MB σ st) vs us
 |[],vs,h=>by
  cases h
  exact⟨[],fun f _ _=>by simp,.nil⟩
 |r::rs,vs,h=>by
  simp only[xX]at h
  obtain⟨v,hv,h1⟩:=Tree.aB h
  obtain⟨vs',hvs,h2⟩:=Tree.aB h1
  cases h2
  obtain⟨us,hus,hr⟩:=DL HS hst hfr rs hvs
  cases r with
  |tmp t=>
   cases hv
   exact⟨a.eval (.tmp t) ::us,fun f h1 h2=>by simp only[List.mapM_cons,h1,Sem.run_bind,Sem.run_pure,Result.andThen_ok,hus f h1 h2];rfl,.cons _ _ _ _ (bU hfr (.tmp t)) hr⟩
  |cell b t=>
   simp only[NB]at hv
   have hx:=bU hfr (.tmp b)
   obtain⟨ad,had⟩:=P8 hv hx
   obtain⟨y,hy,hvy⟩:=KR HS hst hv hx
   rw[had]at hy
   have hl:(loadVar t ad).run P w= .ok y w:=by
    unfold Instr.loadAt Instr.sureAddr at hy
    simpa using hy
   have ha:a.tmps.getD b undef= .pointer (some ad):=had
   have hasA:(asAddr (.pointer (some ad))).run P w= .ok ad w:=rfl
   exact⟨y::us,fun f h1 h2=>by simp only[List.mapM_cons,h2,Sem.run_bind,ha,hasA,Sem.run_pure,Result.andThen_ok,hl,hus f h1 h2],.cons _ _ _ _ hvy hr⟩
theorem LU (HS:Sound P E) (hst:bm E σ st w) (hfr:cf E σ st w fr a) {fn:Func} {vs:List (az E.T)} (h:(xX E fr st fn.results.toList).get=some vs):
  ∃us,(results fn a.tmps).run P w= .ok (oneOf us) w∧aW E σ st w (MB σ st) vs us:=by
 obtain⟨us,hus,hr⟩:=DL HS hst hfr fn.results.toList h
 refine⟨us,?_,hr⟩
 unfold results
 rw[Sem.run_bind,Array.mapM_eq_mapM_toList,Sem.run_map,hus]
 ·simp only[Result.andThen_ok,Sem.run_pure]
  congr 1
  match us with
  |[]=>rfl
  |[u]=>rfl
  |u::u'::r=>simp;rfl
 ·intro t;rfl
 ·intro b t;rfl
theorem G8 {vs:List (az E.T)} {us:List Value} (h:aW E σ st w M vs us):aZ E σ st w M (Cr E vs) (oneOf us):=by
 cases h with
 |nil=>exact aZ.jk [] [] .nil
 |cons v r u us h h'=>
  cases h' with
  |nil=>exact h
  |cons v' r' u' us' h1 h2=>exact aZ.jk _ _ (.cons _ _ _ _ h (.cons _ _ _ _ h1 h2))
theorem Dc (ok:dk E) (hst:bm E σ st w) (hM: ∀b,M b→MB σ st b): ∀(ts:List TypeId) {vs ws:List (az E.T)} {us:List Value},asData E st ts vs=some ws→aW E σ st w (MB σ st) vs us→
  (∀k∈bg vs,∀l e xs b,aR st k=some (.arr l e xs)→lf (σ k)=some b→ ¬M b)→aW E σ st w M ws us
 |[],[],ws,us,h,hv,_=>by cases h;cases hv;exact .nil
 |t::ts,v::vs,ws,us,h,hv,hr=>by
  cases hv with
  |cons v vs u us hv hvs=>
   simp only[asData]at h
   split at h
   ·rename_i ty hk
    split at h
    ·rename_i x hx
     split at h
     ·rename_i r hr'
      cases h
      obtain⟨cs,hvt,rfl⟩:=np hx hv
      have hc:=toData_ok ok hst hM depth (fun k hk=>hr k (by simp[bg,hk])) hx hvt
      exact .cons _ _ _ _ (.data ty _ cs (.val ty x cs hc)) (Dc ok hst hM ts hr' hvs (fun k hk=>hr k (by simp[bg,hk])))
     ·cases h
    ·cases h
   ·cases h
   ·split at h
    ·split at h
     ·rename_i r hr'
      cases h
      exact .cons _ _ _ _ (aZ.aH (Kept.weaken hM) hv (fun k _=>ib.refl k)) (Dc ok hst hM ts hr' hvs (fun k hk=>hr k (by simp[bg,hk])))
     ·cases h
    ·cases h
 |[],_::_,ws,us,h,_,_=>by simp[asData]at h
 |_::_,[],ws,us,h,_,_=>by simp[asData]at h
inductive rP (E:Env) (σ:Sg) (st:St E.T) (w:World):Option (az E.T)→FrameMode→Prop where
 |none:rP E σ st w none .returning
 |some (v:az E.T) (u:Value) (h:aZ E σ st w (MB σ st) v u):rP E σ st w (some v) (.panicking [{v:=u,recovered:=false}])
theorem zb: ∀(ks:List Nat) {st:St E.T},∀n,iX E ((freeze E st ks).take n)=iX E (st.take n)
 |[],st,n=>rfl
 |k::r,st,n=>by
  rw[freeze,zb r]
  split
  ·rename_i lv e xs hk
   have: ∀(l:St E.T) (k n:Nat) (h:aR l k=some (.arr lv e xs)),iX E ((df l k (.arr .ba e xs)).take n)=iX E (l.take n):=by
    intro l
    induction l with
    |nil=>intro k n h;cases h
    |cons o l ih=>
     intro k n h
     cases n with
     |zero=>rfl
     |succ n=>
      cases k with
      |zero=>
       simp only[dF,cP,cQ,Option.some.injEq]at h
       subst h
       simp[jK,gB,gC,iX,cd]
      |succ k=>
       have:=ih k n h
       simp only[jK,gB,gC,List.take_succ_cons,iX,List.flatMap_cons]at this⊢
       rw[this]
   exact this st k n hk
  ·rfl
theorem Je {l:List Nat} {n:Nat} (h:(l.all fun k=>Nat.blt k n)=true): ∀k∈l,k<n:=by
 intro k hk
 rw[List.all_eq_true]at h
 have:=h k hk
 rwa [Nat.blt_eq]at this
theorem yM (HS:Sound P E) {aH:Bool} {fn:Func} {σ0:Sg} {st0:St E.T} {w0:World} (m:Mf σ0 σ st0 st w0 w) (hfr:cf E σ st w fr a) {rS:Option (az E.T)} {u:FrameMode} (hpan:rP E σ st w rS u) {r:iR E.T} {st':St E.T}
  (h:(ending E aH st0.length fn fr st rS).get=some (r,st')):Leaves P fn a.tmps (fun e w'=>GQ E σ0 st0 st' w0 r e w') [] u w:=by
 have hst:=m.rep
 unfold ending at h
 cases hpan with
 |some v u hv=>
  simp only at h
  cases aH with
  |true=>
   cases h
   exact⟨σ,m,u,rfl,hv⟩
  |false=>
   obtain⟨hb,h⟩:=Tree.aO h
   cases h
   have hlt:=Je hb
   have hr:=wK hst (fun k hk=>hlt k (List.mem_append_left _ hk))
   exact⟨σ,Mf.take m hr,u,rfl,aZ.aH (Kept.weaken fun b hb=>AZ hb) hv (fun k hk=>take_same (hlt k (List.mem_append_right _ hk)))⟩
 |none=>
  simp only at h
  obtain⟨vs,hvs,h⟩:=Tree.aB h
  obtain⟨us,hus,hr⟩:=LU HS hst hfr hvs
  cases aH with
  |true=>
   cases h
   exact⟨_,hus,σ,m,G8 hr⟩
  |false=>
   simp only at h
   split at h
   ·rename_i ws hws
    obtain⟨hb,h⟩:=Tree.aO h
    cases h
    have hlt:=Je hb
    obtain⟨mf,_⟩:=fS (live E st (bg vs)) hst
    have hM: ∀b,MB σ (freeze E st (live E st (bg vs))) b→MB σ st b:=fun b hb=>mf.aH.may b (DY mf.rep hb) hb
    have hd:=Dc HS.todk hst hM fn.resultTypes.toList hws hr (fun k hk l e xs b hh hb=>yE hst hk hh hb)
    have hd2:aW E σ (freeze E st (live E st (bg vs))) w (MB σ (freeze E st (live E st (bg vs)))) ws us:=aW.aH (Kept.weaken fun _ h=>h) hd (fun k hk=>mf.same k (aW.refs hd k hk))
    have hrep:=wK (n:=st0.length) mf.rep (fun k hk=>hlt k (List.mem_append_left _ (by rw[zb]at hk;exact hk)))
    have m2:=Mf.take (m.trans mf.f) hrep
    exact⟨_,hus,σ,m2,G8 (aW.aH (M':=MB σ ((freeze E st (live E st (bg vs))).take st0.length)) (Kept.weaken fun b hb=>AZ hb) hd2 (fun k hk=>take_same (hlt k (List.mem_append_right _ hk))))⟩
   ·cases h
def ix (P:Program) (E:Env) (g:FuncId) (F:l8 E):Prop:=
 Enters P g∧ ∀{σ:Sg} {st:St E.T} {w:World} {ds:List (az E.T)} {us:List Value} {rS:Option (az E.T)} {u:FrameMode} {b:Bool} {st':St E.T},bm E σ st w→aW E σ st w (MB σ st) ds us→rP E σ st w rS u→(F ds st rS).get=some (b,st')→
  CallsD P g us.toArray u w fun e u' w'=>(∃v,e= .returned v)∧ ∃σ',Mf σ σ' st st' w w'∧((b=true∧settle u'= .returning)∨(b=false∧u'=u))
theorem LL {rS:Option (az E.T)} {u:FrameMode} (h:rP E σ st w rS u):settle u=u:=by
 cases h with
 |none=>rfl
 |some v u h=>rfl
end
end
open Go
section
variable {P:Program} {E:Env} {w w' w'':World} {σ σ' σ'':Sg} {st st' st'':St E.T} {M:Nat→Prop}
variable {a:Act} {fr fr1:Fr E.T}
theorem rP.map {rS:Option (az E.T)} {u:FrameMode} (h:rP E σ st w rS u) (hv: ∀v u,rS=Option.some v→aZ E σ st w (MB σ st) v u→aZ E σ' st' w' (MB σ' st') v u):rP E σ' st' w' rS u:=by
 cases h with
 |none=>exact .none
 |some v u h=>exact .some v u (hv v u rfl h)
theorem ph (HS:Sound P E) {SD:FuncId→Option (l8 E)} (HD: ∀g F,SD g=some F→ix P E g F) {aH:Bool} {fn:Func} {σ0:Sg} {st0:St E.T} {w0:World} (m:Mf σ0 σ st0 st w0 w) (hfr:cf E σ st w fr a) {rS:Option (az E.T)} {u:FrameMode} (hpan:rP E σ st w rS u)
  (hpr: ∀v,rS=some v→refs v=[]) {r:iR E.T} {st':St E.T} (h:(leave E SD aH st0.length fn fr st rS).get=some (r,st')):
  Leaves P fn a.tmps (fun e w'=>GQ E σ0 st0 st' w0 r e w') a.defers u w:=by
 have hst:=m.rep
 unfold leave at h
 have hd:=hfr.d
 split at h
 ·rename_i hn
  rw[hn]at hd
  generalize hdd:a.defers=dd at hd
  cases hd
  exact yM HS m hfr hpan h
 ·rename_i g as hn
  rw[hn]at hd
  generalize hdd:a.defers=dd at hd
  cases hd with
  |cons g as args cap ds dds has hds=>
   cases hds
   split at h
   ·rename_i F hF
    obtain⟨hent,hcall⟩:=HD g F hF
    simp only at h
    generalize hbs:iX E st++bg as=bs at h
    generalize hfs:sU E st (je E fr)=fs at h
    generalize hhid:(fs.filter fun k=> !(cX bs k))=gm at h
    obtain⟨p,hp1,h⟩:=Tree.aB h
    obtain⟨b,s1⟩:=p
    have hok:Gv E st gm:=by
     refine⟨fun k hk=> ?_,fun k hk=> ?_⟩
     ·rw[←hhid]at hk
      have:=(nz.1 hk).1
      rw[←hfs]at this
      exact(IC.1 this).2
     ·rw[←hhid]at hk
      have:=(nz.1 hk).2
      rw[←hbs]at this
      exact fun h=>this (List.mem_append_left _ h)
    have hdr: ∀k∈bg as,k∉gm:=by
     intro k hk hkh
     rw[←hhid]at hkh
     have:=(nz.1 hkh).2
     rw[←hbs]at this
     exact this (List.mem_append_right _ hk)
    have has':aW E (yx σ gm) (y0 E gm st) w (MB (yx σ gm) (y0 E gm st)) as (args++cap).toList:=aW.aH (Kept.weaken fun b hb=>BK hok hb) has (fun k hk=>Hw hok (hdr k hk))
    have hpan':rP E (yx σ gm) (y0 E gm st) w rS u:=hpan.map (fun v u hv h=>aZ.aH (Kept.weaken fun b hb=>BK hok hb) h (fun k hk=>by rw[hpr v hv]at hk;cases hk))
    refine leaves_cons (f:=g) (args:=args++cap) (by cases hpan<;>exact fun h=>by cases h) (by simpa [invoke]using hent (args++cap) w) ?_
    have hc:=hcall (QI hst hok) has' hpan' hp1
    rw[show((args++cap).toList.toArray)=args++cap by simp]at hc
    refine CallsD.mono hc (fun e u' w' hb=> ?_)
    obtain⟨⟨v,rfl⟩,σ',m1,hor⟩:=hb
    obtain⟨σ'',m',hv,hsame⟩:=NZ hst hok m1
    have hfr':cf E σ'' (iT E st gm s1) w' (iK E st (fs.filter (cX bs)) fr) a:=by
     have hk:=FB hst (fs.filter (cX bs)) hfr
     refine vz hk m'.aH.kept (fun k hk'=> ?_)
     obtain⟨h1,h2⟩:=DG _ hk'
     refine hsame k (CQ hfr k h1) ?_
     by_cases hl: ∃e xs,aR st k=some (.arr .live e xs)
     ·left
      have hkf:k∈fs:=by rw[←hfs];exact IC.2 ⟨h1,hl⟩
      rw[←hhid]
      exact nz.2 ⟨hkf,fun hb=>h2 (GK.2 ⟨hkf,hb⟩)⟩
     ·right
      exact fun e xs hh=>hl ⟨e,xs,hh⟩
    have hfr2:cf E σ'' (iT E st gm s1) w' {iK E st (fs.filter (cX bs)) fr with d:=[]} {tmps:=a.tmps,defers:=[]}:=⟨hfr'.s,.nil⟩
    have hpan2:rP E σ'' (iT E st gm s1) w' rS u:=hpan.map (fun v u hv h=>aZ.aH m'.aH.kept h (fun k hk=>by rw[hpr v hv]at hk;cases hk))
    rcases hor with⟨rfl,hs⟩|⟨rfl,hs⟩
    ·show Leaves P fn a.tmps _ [] (settle u') w'
     rw[hs]
     exact yM HS (m.trans m') (a:={tmps:=a.tmps,defers:=[]}) hfr2 .none h
    ·show Leaves P fn a.tmps _ [] (settle u') w'
     rw[hs,LL hpan]
     exact yM HS (m.trans m') (a:={tmps:=a.tmps,defers:=[]}) hfr2 hpan2 h
   ·cases h
 ·cases h
theorem aW.replicate (n:Nat):aW E σ st w M (List.replicate n .undef) (List.replicate n undef):=by
 induction n with
 |zero=>exact .nil
 |succ n ih=>exact .cons _ _ _ _ (.undef _) ih
theorem xT {fn:Func} {ds:List (az E.T)} {us:List Value} (h:aW E σ st w (MB σ st) ds us):cf E σ st w (frame E fn ds) {tmps:=us.toArray++Array.replicate (fn.ntmps-us.toArray.size) undef,defers:=[]}:=by
 refine⟨?_,.nil⟩
 have:=aW.append h (aW.replicate (E:=E) (σ:=σ) (st:=st) (w:=w) (M:=MB σ st) (fn.ntmps-ds.length))
 simpa [frame,aW.length h]using this
theorem Q3 (HS:Sound P E) (hmix:P.follows .mixedOrders=true) {S:FuncId→Option (Spec E)} (HC:mJ P E S) {SD:FuncId→Option (l8 E)} (HD: ∀g F,SD g=some F→ix P E g F) {L:Nat→cY E} {N:Nat} {aH:Bool} {f:FuncId} {fn:Func} {c:Code}
  (hf:P.funcs[f]? =some fn) (hb:fn.body=some c) (hL:fj S L N 0 c):tu P E f (NC E S SD L N aH fn):=by
 intro σ st w ds us r st' hst hds h
 unfold NC at h
 rw[hb]at h
 simp only at h
 obtain⟨⟨e,fr,st1⟩,h1,h2⟩:=Tree.aB h
 refine calls_of_wp_defers hf hb (iL HS hmix HC c 0 hL hst (xT hds) h1 (fun σ' w' a' x m hfr hx=> ?_))
 cases hx with
 |normal=>exact ph HS HD m hfr .none (fun v h=>by cases h) h2
 |exit id=>cases h2
 |ret=>exact ph HS HD m hfr .none (fun v h=>by cases h) h2
 |panic v u hv=>
  obtain⟨hn,h2⟩:=Tree.aO h2
  exact ph HS HD m hfr (.some v u hv) (fun v' h=>by cases h;exact List.isEmpty_iff.1 hn) h2
theorem RZ {f:FuncId} {F:List (az E.T)→St E.T→Tree (iR E.T×St E.T)} (h:tu P E f F) {G:List (az E.T)→Tree (iR E.T)} (hG: ∀ds r,(G ds).get=some r→(F ds []).get=some (r,[])):Jm P E f G:=
 fun hst hds hr=>h hst hds (hG _ _ hr)
theorem Em {ops:Array Oper} {Q:Exit→Act→List Frame→World→Prop} {cs:List Frame} (hQ: ∀a w,¬Q .outgrown a cs w): ∀(l:List Nat) (a:Act) (w:World),wpOps P ops (fun e a w=>Q e a cs w) l a w→wpOpsS P ops Q l a cs w
 |[],a,w,h=>h
 |i::r,a,w,h=>by
  simp only[wpOps]at h
  simp only[wpOpsS]
  split at h
  ·rename_i hi;rw[hi];exact Em hQ r a w h
  ·rename_i o hi
   rw[hi]
   simp only
   split at h
   ·rename_i hw
    rw[if_pos hw]
    have h:=h.resolve_right (fun⟨_,a,w,h⟩=>hQ a w h)
    have h':o.wp P a w (fun a' w'=>wpOpsS P ops Q r a' cs w') (fun e a w=>Q e a cs w):=Oper.wp_mono (fun a w h=>Em hQ r a w h) h
    unfold Oper.wp at h'
    split
    ·rename_i w' hrec
     rw[hrec]at h'
     exact h'.elim
    ·exact h'
   ·rename_i hw
    rw[if_neg hw]
    exact Em hQ r _ w h
end
open Go
noncomputable section
def UZ (P:Program) (E:Env) (t:TypeId):TK→Prop
 | .data ty=>TyM P E t ty
 | .ptr=>(∃e,P.underlying t=some (.pointer e))∧ ∃i,P.info? t=some i∧i.size=1∧i.zero=some (.pointer none)
 | .func=>(∃a b c,P.underlying t=some (.func a b c))∧ ∃i,P.info? t=some i∧i.size=1∧i.zero=some .nilFunc
 | .iface=>(∃m,P.underlying t=some (.interface m))∧ ∃i,P.info? t=some i∧i.size=1∧i.zero=some .nilIface
 | .other=>True
def NI (P:Program) (E:Env):Nat→List TK→Prop
 |_,[]=>True
 |i,k::r=>UZ P E i k∧NI P E (i+1) r
theorem JA {P:Program} {E:Env}: ∀(l:List TK) (i:Nat),NI P E i l→ ∀(j:Nat),UZ P E (i+j) (nth l j .other)
 |[],i,h,j=>trivial
 |k::r,i,h,0=>h.1
 |k::r,i,h,j+1=>by
  have:=JA r (i+1) h.2 j
  rw[show i+(j+1)=i+1+j by omega]
  exact this
theorem PQ {P:Program} {E:Env} (ok:dk E) (er: ∀i x y,E.er i x y=Mx E (E.fields i) (E.out i x) (E.out i y))
  (cmp: ∀t,E.cmp t=true→P.eqGuardType P.depth t=false∧P.stoodInHeld t=false∧(∀fs,P.underlying t=some (.struct fs)→ ∀f∈fs.toList,E.cmp f.type=true)∧ ∀n e,P.underlying t=some (.array n e)→E.cmp e=true)
  (N3:List TK) (htk: ∀t,E.tk t=nth N3 t .other) (h:NI P E 0 N3):Sound P E:=by
 have key: ∀t,UZ P E t (E.tk t):=by
  intro t
  have:=JA N3 0 h t
  rw[Nat.zero_add,←htk t]at this
  exact this
 refine{todk:=ok,er:=er,cmp:=cmp,data:= ?_,ptr:= ?_,func:= ?_,iface:= ?_}
 ·intro t ty ht;have:=key t;rw[ht]at this;exact this
 ·intro t ht;have:=key t;rw[ht]at this;exact this
 ·intro t ht;have:=key t;rw[ht]at this;exact this
 ·intro t ht;have:=key t;rw[ht]at this;exact this
def jX {E:Env}:List (Nat×Spec E)→FuncId→Option (Spec E)
 |[],_=>none
 |p::r,f=>bif Nat.beq p.1 f then some p.2 else jX r f
def Gx (P:Program) (E:Env):List (Nat×Spec E)→Prop
 |[]=>True
 |p::r=>nQ P E p.1 p.2∧Gx P E r
theorem xx {P:Program} {E:Env}: ∀{l:List (Nat×Spec E)},Gx P E l→ ∀f s,jX l f=some s→nQ P E f s
 |[],_,f,s,h=>by cases h
 |p::r,hl,f,s,h=>by
  simp only[jX]at h
  cases hb:Nat.beq p.1 f with
  |true=>
   rw[hb]at h
   cases h
   rw[←Nat.eq_of_beq_eq_true hb]
   exact hl.1
  |false=>rw[hb]at h;exact xx hl.2 f s h
def DB {E:Env}:List (Nat×l8 E)→FuncId→Option (l8 E)
 |[],_=>none
 |p::r,f=>bif Nat.beq p.1 f then some p.2 else DB r f
def Lt (P:Program) (E:Env):List (Nat×l8 E)→Prop
 |[]=>True
 |p::r=>ix P E p.1 p.2∧Lt P E r
theorem Kc {P:Program} {E:Env}: ∀{l:List (Nat×l8 E)},Lt P E l→ ∀f s,DB l f=some s→ix P E f s
 |[],_,f,s,h=>by cases h
 |p::r,hl,f,s,h=>by
  simp only[DB]at h
  cases hb:Nat.beq p.1 f with
  |true=>
   rw[hb]at h
   cases h
   rw[←Nat.eq_of_beq_eq_true hb]
   exact hl.1
  |false=>rw[hb]at h;exact Kc hl.2 f s h
theorem gK {E:Env} {S:FuncId→Option (Spec E)} {L:Nat→cY E} {N:Nat} (h: ∀i,(L i).closed=none): ∀(c:Code) (i:Nat),fj S L N i c
 | .seq a b,i=>⟨gK h a i,gK h b _⟩
 | .cond _ a b,i=>⟨gK h a i,gK h b _⟩
 | .block _ c,i=>gK h c i
 | .loop c,i=>⟨(fun f hf=>by rw[h i]at hf;cases hf),gK h c _⟩
 | .skip,i=>trivial
 | .region _ _ _,i=>trivial
 | .exit _,i=>trivial
 | .ret,i=>trivial
 | .scope _,i=>trivial
 | .label _,i=>trivial
 | .goto _,i=>trivial
 | .rangeFunc ..,i=>trivial
 | .refuse _,i=>trivial
def Y1 (E:Env):Nat→cY E:=fun _=>{aH:=[],closed:=none}
end
open Go
noncomputable section
def dG:Nat→Code→Option Code
 |i,.seq a b=>bif Nat.blt i (da a)then dG i a else dG (i-da a) b
 |i,.cond _ a b=>bif Nat.blt i (da a)then dG i a else dG (i-da a) b
 |i,.block _ c=>dG i c
 |0,.loop c=>some c
 |i+1,.loop c=>dG i c
 |_,_=>none
theorem SM {a b:Nat} (h:a<b):Nat.blt a b=true:=by rw[Nat.blt_eq];exact h
theorem Rk {a b:Nat} (h:b≤a):Nat.blt a b=false:=by
 cases hb:Nat.blt a b with
 |false=>rfl
 |true=>rw[Nat.blt_eq]at hb;omega
section
variable {E:Env}
theorem Fj {a b:Code} {k:Nat} {cb:Code} (ha:dG k a=some cb→k<da a) (hb:dG (k-da a) b=some cb→k-da a<da b) (h:(bif Nat.blt k (da a)then dG k a else dG (k-da a) b)=some cb):k<da a+da b:=by
 rcases Nat.lt_or_ge k (da a)with h1|h1
 ·omega
 ·rw[Rk h1]at h
  have:=hb h
  omega
theorem oB: ∀(c:Code) (k:Nat) {cb:Code},dG k c=some cb→k<da c
 | .seq a b,k,cb,h=>by
  unfold dG at h
  exact Fj (oB a k) (oB b _) h
 | .cond _ a b,k,cb,h=>by
  unfold dG at h
  exact Fj (oB a k) (oB b _) h
 | .block _ c,k,cb,h=>by
  unfold dG at h
  exact oB c k h
 | .loop c,0,cb,h=>Nat.succ_pos _
 | .loop c,k+1,cb,h=>by
  unfold dG at h
  exact Nat.succ_lt_succ (oB c k h)
 | .skip,_,_,h=>by unfold dG at h;cases h
 | .region _ _ _,_,_,h=>by unfold dG at h;cases h
 | .exit _,_,_,h=>by unfold dG at h;cases h
 | .ret,_,_,h=>by unfold dG at h;cases h
 | .scope _,_,_,h=>by unfold dG at h;cases h
 | .label _,_,_,h=>by unfold dG at h;cases h
 | .goto _,_,_,h=>by unfold dG at h;cases h
 | .rangeFunc ..,_,_,h=>by unfold dG at h;cases h
 | .refuse _,_,_,h=>by unfold dG at h;cases h
def Te (S:FuncId→Option (Spec E)) (L:Nat→cY E) (N:Nat) (i:Nat) (cb:Code):Prop:=
 ∀f,(L i).closed=some f→ ∀fr st out,(f fr st).get=some out→ ∃m fr',(qf E (gi E S L N (i+1) cb) (L i).aH (L i).ik st.length m fr st).get=some (out.1,fr',out.2.2)∧De out.2.1 fr'
theorem DA {S:FuncId→Option (Spec E)} {L:Nat→cY E} {N:Nat} {a b:Code} {i:Nat} (ha:(∀k cb,dG k a=some cb→Te S L N (i+k) cb)→fj S L N i a) (hb:(∀k cb,dG k b=some cb→Te S L N (i+da a+k) cb)→fj S L N (i+da a) b)
  (h: ∀k cb,(bif Nat.blt k (da a)then dG k a else dG (k-da a) b)=some cb→Te S L N (i+k) cb):fj S L N i a∧fj S L N (i+da a) b:=by
 refine⟨ha fun k cb hk=>h k cb ?_,hb fun k cb hk=> ?_⟩
 ·rw[SM (oB a k hk)];exact hk
 ·have:=h (da a+k) cb (by rw[Rk (by omega),Nat.add_sub_cancel_left];exact hk)
  rwa [←Nat.add_assoc]at this
theorem jc {S:FuncId→Option (Spec E)} {L:Nat→cY E} {N:Nat}: ∀(c:Code) (i:Nat),(∀k cb,dG k c=some cb→Te S L N (i+k) cb)→fj S L N i c
 | .seq a b,i,h=>DA (jc a i) (jc b _) (fun k cb hk=>h k cb (by unfold dG;exact hk))
 | .cond _ a b,i,h=>DA (jc a i) (jc b _) (fun k cb hk=>h k cb (by unfold dG;exact hk))
 | .block _ c,i,h=>jc c i fun k cb hk=>h k cb (by unfold dG;exact hk)
 | .loop c,i,h=>⟨h 0 c (by unfold dG;rfl),jc c (i+1) fun k cb hk=>by
   have:=h (k+1) cb (by unfold dG;exact hk)
   rwa [show i+(k+1)=i+1+k by omega]at this⟩
 | .skip,_,_=>trivial
 | .region _ _ _,_,_=>trivial
 | .exit _,_,_=>trivial
 | .ret,_,_=>trivial
 | .scope _,_,_=>trivial
 | .label _,_,_=>trivial
 | .goto _,_,_=>trivial
 | .rangeFunc ..,_,_=>trivial
 | .refuse _,_,_=>trivial
def rQ (step:Fr E.T→St E.T→Tree (bR E)) (ks:List Nat) (ik:List (Nat×Nat)) (n:Nat) (h:Fr E.T) (st:St E.T) (out:bR E):Prop:=
 ∃m,∀fr0 st0,tc E ks ik n fr0 st0=some (h,st)→ ∃fr',(qf E step ks ik n m fr0 st0).get=some (out.1,fr',out.2.2)∧De out.2.1 fr'
def forget (rs:List Nat) (fr:Fr E.T):Fr E.T:={s:=fF E rs 0 fr.s,d:=fr.d}
theorem BR (rs:List Nat): ∀(l:List (az E.T)) (i:Nat),DT (fF E rs i l) l
 |[],_=>trivial
 |v::r,i=>by
  unfold fF
  refine⟨?_,BR rs r (i+1)⟩
  cases cX rs i with
  |true=>exact .inr rfl
  |false=>exact .inl rfl
theorem xU (rs:List Nat) (fr:Fr E.T):De (forget rs fr) fr:=⟨rfl,BR rs fr.s 0⟩
def nx (E:Env) (ks:List Nat) (ik:List (Nat×Nat)) (rs:List Nat) (n:Nat) (p:bR E):Tree (Sum (Fr E.T×St E.T) (bR E)):=
 match p.1 with
 | .normal=>match tc E ks ik n p.2.1 p.2.2 with
  |some q=> .ret (.inl q)
  |none=> .fail
 |e=> .ret (.inr (e,forget rs p.2.1,p.2.2))
theorem rQ.next {step:Fr E.T→St E.T→Tree (bR E)} {ks rs:List Nat} {ik:List (Nat×Nat)} {n:Nat} {h h':Fr E.T} {st st':St E.T} {out:bR E} (h1:((step h st).bind (nx E ks ik rs n)).get=some (.inl (h',st'))) (h2:rQ step ks ik n h' st' out):rQ step ks ik n h st out:=by
 obtain⟨m,hm⟩:=h2
 refine⟨m+1,fun fr0 st0 h0=> ?_⟩
 obtain⟨p,hs,h1⟩:=Tree.aB h1
 unfold qf
 rw[h0]
 simp only[Tree.get_bind,hs,Option.bind_some]
 obtain⟨e,fr,s⟩:=p
 cases e with
 |normal=>
  simp only[nx]at h1
  cases hh:tc E ks ik n fr s with
  |none=>rw[hh]at h1;cases h1
  |some q=>rw[hh]at h1;cases h1;exact hm _ _ hh
 |exit _=>cases h1
 |ret=>cases h1
 |panic _=>cases h1
theorem rQ.stop {step:Fr E.T→St E.T→Tree (bR E)} {ks rs:List Nat} {ik:List (Nat×Nat)} {n:Nat} {h:Fr E.T} {st:St E.T} {out:bR E} (h1:((step h st).bind (nx E ks ik rs n)).get=some (.inr out)):rQ step ks ik n h st out:=by
 refine⟨1,fun fr0 st0 h0=> ?_⟩
 obtain⟨p,hs,h1⟩:=Tree.aB h1
 unfold qf
 rw[h0]
 simp only[Tree.get_bind,hs,Option.bind_some]
 obtain⟨e,fr,s⟩:=p
 cases e with
 |normal=>
  simp only[nx]at h1
  cases hh:tc E ks ik n fr s with
  |none=>rw[hh]at h1;cases h1
  |some q=>rw[hh]at h1;cases h1
 |exit _=>cases h1;exact⟨_,rfl,xU rs fr⟩
 |ret=>cases h1;exact⟨_,rfl,xU rs fr⟩
 |panic _=>cases h1;exact⟨_,rfl,xU rs fr⟩
def isU {T:Nat→Type}:az T→Bool
 | .undef=>true
 |_=>false
def zJ {T:Nat→Type} (ks:List Nat):Nat→List (az T)→Bool
 |_,[]=>true
 |i,v::r=>(cX ks i||isU v)&&zJ ks (i+1) r
def pick {T:Nat→Type}:List (Nat×az T)→Nat→az T
 |[],_=> .undef
 |(j,v) ::r,i=>bif Nat.beq i j then v else pick r i
def Na {T:Nat→Type} (l:List (Nat×az T)) (n:Nat):List (az T):=(List.range n).map (pick l)
theorem JU {T:Nat→Type} (f:Nat→az T) (q:Nat): ∀ks:List Nat,pick (ks.map fun j=>(j,f j)) q=bif cX ks q then f q else .undef
 |[]=>rfl
 |j::ks=>by
  simp only[List.map_cons,pick,cX,List.any_cons]
  cases h:Nat.beq q j with
  |true=>rw[Nat.eq_of_beq_eq_true h];rfl
  |false=>exact JU f q ks
theorem JD {T:Nat→Type} (ks:List Nat): ∀(l:List (az T)) (i q:Nat),zJ ks i l=true→cX ks (i+q)=false→nth l q .undef= .undef
 |[],_,_,_,_=>rfl
 |v::r,i,0,h,hm=>by
  unfold zJ at h
  rw[show cX ks i=false from hm]at h
  have:=(Bool.and_eq_true _ _▸h).1
  cases v<;>first|rfl|cases this
 |v::r,i,q+1,h,hm=>by
  unfold zJ at h
  have:=(Bool.and_eq_true _ _▸h).2
  exact JD ks r (i+1) q this (by rw[show i+1+q=i+(q+1)by omega];exact hm)
theorem PU {T:Nat→Type} {ks:List Nat} {l:List (az T)} (h:zJ ks 0 l=true):l=Na (ks.map fun j=>(j,nth l j .undef)) l.length:=by
 refine List.ext_getElem (by simp[Na]) fun q h1 h2=> ?_
 have e1:nth l q .undef=l[q]:=by rw[ko,List.getD_eq_getElem?_getD,List.getElem?_eq_getElem h1];rfl
 simp only[Na,List.getElem_map,List.getElem_range,JU]
 cases hm:cX ks q with
 |true=>exact e1.symm
 |false=>
  have:=JD ks l 0 q h (by rw[Nat.zero_add];exact hm)
  rw[←e1,this];rfl
theorem AS {α β:Type} (f:α→β): ∀ks:List α,ks.zip (ks.map f)=ks.map fun j=>(j,f j)
 |[]=>rfl
 |k::ks=>by simp[AS f ks]
def Im {T:Nat→Type}:List (az T)→List (az T)→Bool
 |[],[]=>true
 | .ptr o [] ::r,.ptr o' [] ::r'=>Nat.beq o o'&&Im r r'
 |_,_=>false
theorem Hc {T:Nat→Type}: ∀(l l':List (az T)),Im l l'=true→l=l'
 |[],[],_=>rfl
 | .ptr o [] ::r,.ptr o' [] ::r',h=>by
  simp only[Im,Bool.and_eq_true]at h
  rw[Nat.eq_of_beq_eq_true h.1,Hc r r' h.2]
 |[],x::r,h=>by cases x<;>cases h
 |x::r,[],h=>by cases x<;>first|cases h|(rename_i p;cases p<;>cases h)
 | .ptr o [] ::r,.ptr o' (_::_) ::r',h=>by cases h
 | .ptr o (_::_) ::r,y::r',h=>by cases y<;>cases h
 | .val .. ::_,_::_,h=>by cases h
 | .bj::_,_::_,h=>by cases h
 | .own .. ::_,_::_,h=>by cases h
 | .cM::_,_::_,h=>by cases h
 | .dZ .. ::_,_::_,h=>by cases h
 | .agg .. ::_,_::_,h=>by cases h
 | .jk .. ::_,_::_,h=>by cases h
 | .fn .. ::_,_::_,h=>by cases h
 | .ea::_,_::_,h=>by cases h
 | .fG .. ::_,_::_,h=>by cases h
 | .cr::_,_::_,h=>by cases h
 | .dA .. ::_,_::_,h=>by cases h
 | .undef::_,_::_,h=>by cases h
 | .ptr o [] ::r,.val .. ::_,h=>by cases h
 | .ptr o [] ::r,.bj::_,h=>by cases h
 | .ptr o [] ::r,.own .. ::_,h=>by cases h
 | .ptr o [] ::r,.cM::_,h=>by cases h
 | .ptr o [] ::r,.dZ .. ::_,h=>by cases h
 | .ptr o [] ::r,.agg .. ::_,h=>by cases h
 | .ptr o [] ::r,.jk .. ::_,h=>by cases h
 | .ptr o [] ::r,.fn .. ::_,h=>by cases h
 | .ptr o [] ::r,.ea::_,h=>by cases h
 | .ptr o [] ::r,.fG .. ::_,h=>by cases h
 | .ptr o [] ::r,.cr::_,h=>by cases h
 | .ptr o [] ::r,.dA .. ::_,h=>by cases h
 | .ptr o [] ::r,.undef::_,h=>by cases h
def Q8 {T:Nat→Type}:List (FuncId×List (az T))→List (FuncId×List (az T))→Bool
 |[],[]=>true
 |(f,l) ::r,(f',l') ::r'=>Nat.beq f f'&&(Im l l'&&Q8 r r')
 |_,_=>false
theorem ND {T:Nat→Type}: ∀(l l':List (FuncId×List (az T))),Q8 l l'=true→l=l'
 |[],[],_=>rfl
 |(f,l) ::r,(f',l') ::r',h=>by
  simp only[Q8,Bool.and_eq_true]at h
  have h1:f=f':=Nat.eq_of_beq_eq_true h.1
  rw[h1,Hc l l' h.2.1,ND r r' h.2.2]
 |[],_::_,h=>by cases h
 |_::_,[],h=>by cases h
def B1 (E:Env) (n:Nat) (ks:List Nat) (ik:List (Nat×Nat)) (d:List (FuncId×List (az E.T))) (g:List (az E.T)→St E.T→Tree (bR E)) (fr:Fr E.T) (st:St E.T):Tree (bR E):=
 match tc E ks ik st.length fr st with
 |some (fr',st')=>bif Nat.beq st'.length st.length&&(Nat.beq fr'.s.length n&&(Q8 fr'.d d&&zJ ks 0 fr'.s))then g (ks.map fun j=>nth fr'.s j .undef) st' else .fail
 |none=> .fail
def qp (E:Env) (n:Nat) (d:List (FuncId×List (az E.T))) (ks:List Nat) (vals:List (az E.T)):Fr E.T:={s:=Na (ks.zip vals) n,d:=d}
theorem Pe {n:Nat} {ks:List Nat} {ik:List (Nat×Nat)} {d:List (FuncId×List (az E.T))} {g:List (az E.T)→St E.T→Tree (bR E)} {step:Fr E.T→St E.T→Tree (bR E)} (h: ∀vals st out,(g vals st).get=some out→rQ step ks ik st.length (qp E n d ks vals) st out)
  (fr:Fr E.T) (st:St E.T) (out:bR E) (hc:(B1 E n ks ik d g fr st).get=some out): ∃m fr',(qf E step ks ik st.length m fr st).get=some (out.1,fr',out.2.2)∧De out.2.1 fr':=by
 unfold B1 at hc
 cases hh:tc E ks ik st.length fr st with
 |none=>rw[hh]at hc;cases hc
 |some p=>
  obtain⟨fr',st'⟩:=p
  rw[hh]at hc
  simp only at hc
  cases hb:(Nat.beq st'.length st.length&&(Nat.beq fr'.s.length n&&(Q8 fr'.d d&&zJ ks 0 fr'.s)))with
  |false=>rw[hb]at hc;cases hc
  |true=>
   rw[hb]at hc
   simp only[Bool.and_eq_true]at hb
   obtain⟨h0,h1,h2,h3⟩:=hb
   have e1:=PU h3
   rw[Nat.eq_of_beq_eq_true h1]at e1
   have e2:fr'=qp E n d ks (ks.map fun j=>nth fr'.s j .undef):=by
    unfold qp
    rw[AS,←e1,←ND _ _ h2]
   obtain⟨m,hm⟩:=h _ st' out hc
   rw[Nat.eq_of_beq_eq_true h0]at hm
   obtain⟨fr2,h5,h6⟩:=hm fr st (by rw[hh,e2.symm])
   exact⟨m,fr2,h5,h6⟩
end
end
open Go
noncomputable section
theorem Ug {P:Program} {E:Env} {t:TypeId} {ty:Ty} {i:TypeInfo} (h1:P.info? t=some i) (h2:i.size=E.size ty) (h3:i.bytes≤8192) (h4:i.zero=some (toV ty (dV E depth ty))) (h5:Vy P E t ty) (h6:Lv E depth ty=true):TyM P E t ty:=⟨⟨_,h1,h2,h3,h4⟩,h5,h6⟩
theorem Qp {l:List Nat} {t:Nat} (h:cX l t=true):t∈l:=by
 unfold cX at h
 obtain⟨x,hx,he⟩:=List.any_eq_true.1 h
 rw[Nat.eq_of_beq_eq_true he]
 exact hx
theorem UU (P:Program) (l:List Nat) (h:(l.all fun t=>(!P.eqGuardType P.depth t)&&((!P.stoodInHeld t)&&(match P.underlying t with|some (.struct fs)=>fs.toList.all (fun f=>cX l f.type)|some (.array _ e)=>cX l e|_=>true)))=true)
  (t:Nat) (ht:cX l t=true):P.eqGuardType P.depth t=false∧P.stoodInHeld t=false∧(∀fs,P.underlying t=some (.struct fs)→ ∀f∈fs.toList,cX l f.type=true)∧ ∀n e,P.underlying t=some (.array n e)→cX l e=true:=by
 have:=List.all_eq_true.1 h t (Qp ht)
 simp only[Bool.and_eq_true,Bool.not_eq_true']at this
 refine⟨this.1,this.2.1,fun fs hfs f hf=> ?_,fun n e hfs=> ?_⟩
 ·have h2:=this.2.2
  rw[hfs]at h2
  exact List.all_eq_true.1 h2 f hf
 ·have h2:=this.2.2
  rw[hfs]at h2
  exact h2
end
open Go
noncomputable section
def rK (E:Env) (te:Ty) (args:List (az E.T)) (st:St E.T):Tree (iR E.T×St E.T):=
 match args with
 |[.val (.slice t) xs]=>bif jj t te then .ret (.ret [.own st.length],st++[.arr .live t xs])else .fail
 |_=> .fail
section
variable {P:Program} {E:Env} {w w':World} {σ:Sg} {st:St E.T}
theorem R8 {te:Ty} {e:Ending} (h:GQ E σ st st w (.ret [.bj]) e w'):GQ E σ st (st++[.arr .live te []]) w (.ret [.own st.length]) e w':=by
 obtain⟨σ',m,hr⟩:=h
 cases e with
 |returned v=>
  have hv:aZ E σ' st w' (MB σ' st) .bj v:=hr
  obtain⟨a,rfl⟩:=IA hv
  have hp:=Mv.JS (E:=E) m.rep (.slice a 0 0) (.arr .live te []) (by cases a<;>rfl) (fun σ' st' w' M'=> .arr .live te [] _ ⟨Nat.zero_le _,.inl ⟨⟨a,rfl⟩,rfl⟩⟩)
  refine⟨_,m.trans (Mv.x (ks:=[]) hp).f,?_⟩
  have h1:aZ E (dL σ' st.length (.slice a 0 0)) (st++[.arr .live te []]) w' (MB (dL σ' st.length (.slice a 0 0)) (st++[.arr .live te []])) (.own st.length) (toV (.slice te) [(dL σ' st.length (.slice a 0 0)) st.length]):=
   .data _ _ _ (.own st.length .live te [] (by rw[cT];simp))
  have h2:(dL σ' st.length (.slice a 0 0)) st.length= .slice a 0 0:=by simp[dL]
  rw[h2]at h1
  exact h1
 |panicked ch=>exact hr.elim
 |outgrown=>exact hr.elim
structure ic (E:Env) (fn:Func) (te:Ty) (R0 C R:Code) (F0 F2:List (I E.T te)→Fr E.T) (F3:List (I E.T te)→Nat→Fr E.T):Prop where
 r0: ∀xs st,(gi E (fun _=>none) (Y1 E) 0 0 R0 (frame E fn [.val (.slice te) xs]) st).get=some (.normal,F0 xs,st)
 s0: ∀xs,bY E (F0 xs) (.tmp 0)= .val (.slice te) xs
 s3: ∀xs,bY E (put E (F0 xs) (some 3) (.val (.slice te) xs)) (.tmp 3)= .val (.slice te) xs
 c1: ∀xs st,(gi E (fun _=>none) (Y1 E) 0 0 C (put E (put E (F0 xs) (some 3) (.val (.slice te) xs)) (some 4) (.val .bool true)) st).get=some (.ret,F2 xs,st)
 c2: ∀xs st,(gi E (fun _=>none) (Y1 E) 0 0 C (put E (put E (F0 xs) (some 3) (.val (.slice te) xs)) (some 4) (.val .bool false)) st).get=some (.normal,put E (put E (F0 xs) (some 3) (.val (.slice te) xs)) (some 4) (.val .bool false),st)
 r: ∀xs st,(gi E (fun _=>none) (Y1 E) 0 0 R (put E (put E (F0 xs) (some 3) (.val (.slice te) xs)) (some 4) (.val .bool false)) st).get=bif decide (List.length (α:=I E.T te) xs≤dK)then some (.ret,F3 xs st.length,st++[.arr .live te xs])else none
 d2: ∀xs,(F2 xs).d=[]
 l2: ∀xs st n,(leave E (DB []) true n fn (F2 xs) st none).get=some (.ret [.bj],st)
 l3: ∀xs st n,(leave E (DB []) true n fn (F3 xs st.length) (st++[.arr .live te xs]) none).get=some (.ret [.own st.length],st++[.arr .live te xs])
theorem nN (HS:Sound P E) (hmix:P.follows .mixedOrders=true) {f:FuncId} {fn:Func} {t:TypeId} {te:Ty} {R0 C R:Code} {id:Nat} {o1 o2:Oper} {rS:TypeId} {F0 F2:List (I E.T te)→Fr E.T} {F3:List (I E.T te)→Nat→Fr E.T} (hf:P.funcs[f]? =some fn)
  (hb:fn.body=some (.seq R0 (.seq (.seq (.region id #[o1,o2] false) C) R))) (h1:o1.op= .move (.tmp 0)∧o1.dst=some 3∧o1.guard=none)
  (h2:o2.op= .binOp .eql t (.tmp 3) (.const (.slice none 0 0)) rS∧o2.dst=some 4∧o2.guard=none) (ht: ∃e,P.underlying t=some (.slice e)) (hF:ic E fn te R0 C R F0 F2 F3):tu P E f (rK E te):=by
 intro σ st w ds us r st' hst hds h
 unfold rK at h
 split at h
 ·rename_i t' xs
  rw[cond_eq_ite]at h
  split at h
  ·rename_i hte
   have:=dN hte
   subst this
   cases h
   have HC:mJ P E (fun _=>none):=Gb HS (fun f s h=>by cases h)
   have HD: ∀g F,DB ([]:List (Nat×l8 E)) g=some F→ix P E g F:=fun g F h=>by cases h
   have lp: ∀(c:Code) (i:Nat),fj (fun _=>none) (Y1 E) 0 i c:=fun c i=>gK (fun _=>rfl) c i
   obtain⟨e,hte⟩:=ht
   refine calls_of_wp_defers hf hb (wp_seq (iL HS hmix HC R0 0 (lp _ _) hst (xT hds) (hF.r0 xs st) (fun σ1 w1 a1 x1 m1 hfr1 hx1=> ?_)))
   cases hx1
   refine wp_seq (wp_seq (wp_region ?_))
   obtain⟨d1,p1,ty1,pos1,af1,g1⟩:=o1
   obtain⟨d2,p2,ty2,pos2,af2,g2⟩:=o2
   obtain⟨rfl,rfl,rfl⟩:=h1
   obtain⟨rfl,rfl,rfl⟩:=h2
   have hd0:=hF.s0 xs
   show wpOps P _ _ [0,1] a1 w1
   unfold wpOps
   simp only[List.getElem?_toArray,List.getElem?_cons_zero]
   rw[if_pos (show Region.wanted _ _=true from rfl)]
   left
   refine CX HS HC (S:=fun _=>none) (dr:=false) (out:= .next (put E (F0 xs) (some 3) (.val (.slice _) xs)) st) m1.rep hfr1 ?_ ?_
   ·simp only[pB]
    rw[hd0];rfl
   intro σ2 w2 a2 m2 hfr2
   have hv:=bU hfr2 (.tmp 3)
   rw[hF.s3]at hv
   have hev: ∃(a:Option Addr) (n cap:Nat),a2.eval (.tmp 3)= .slice a n cap∧(a=none→xs=[])∧List.length (α:=I E.T _) xs≤dK:=by
    generalize a2.eval (.tmp 3)=u3 at hv
    cases hv with
    |data _ _ cs hc=>
     cases hc with
     |val _ _ _ hc=>
      cases hc with
      |slice _ _ a cap cs hl hm hn hc=>
       refine⟨a,_,cap,rfl,fun ha=> ?_,hn⟩
       rcases hm with hm|hm
       ·exact hm
       ·subst ha
        obtain⟨b,o,h0,_⟩:=hm
        cases h0
   obtain⟨a,n,cap,hev,hxs,hlim⟩:=hev
   unfold wpOps
   simp only[List.getElem?_toArray,List.getElem?_cons_succ,List.getElem?_cons_zero]
   rw[if_pos (show Region.wanted _ _=true from rfl)]
   left
   refine ee (v:= .val .bool a.isNone) m2.rep hfr2 ⟨.bool a.isNone,by rw[hev];exact Lib.run_eql_slice_nil w2 t e a n cap 0 0 hte,gx _⟩ rfl ?_
   intro σ3 w3 a3 m3 hfr3
   cases a with
   |none=>
    obtain rfl:=hxs rfl
    refine iL HS hmix HC C 0 (lp _ _) m3.rep hfr3 (hF.c1 [] st) (fun σ4 w4 a4 x4 m4 hfr4 hx4=> ?_)
    cases hx4
    have hl:=ph (aH:=true) HS HD (m1.trans (m2.trans (m3.trans m4))) hfr4 .none (fun v h=>by cases h) (hF.l2 [] st st.length)
    have hdd:=hfr4.d
    rw[hF.d2]at hdd
    have hde:a4.defers=[]:=by
     generalize a4.defers=ds at hdd
     cases hdd
     rfl
    rw[hde]at hl
    obtain⟨v,hv,hbk⟩:=hl
    show Leaves P fn a4.tmps _ a4.defers .returning w4
    rw[hde]
    exact⟨v,hv,R8 hbk⟩
   |some a=>
    refine iL HS hmix HC C 0 (lp _ _) m3.rep hfr3 (hF.c2 xs st) (fun σ4 w4 a4 x4 m4 hfr4 hx4=> ?_)
    cases hx4
    refine iL HS hmix HC R 0 (lp _ _) m4.rep hfr4 (by rw[hF.r xs st,decide_eq_true hlim];rfl) (fun σ5 w5 a5 x5 m5 hfr5 hx5=> ?_)
    cases hx5
    exact ph (aH:=true) HS HD (m1.trans (m2.trans (m3.trans (m4.trans m5)))) hfr5 .none (fun v h=>by cases h) (hF.l3 xs st st.length)
  ·cases h
 ·cases h
end
end
open Go Go.ChangeShapes Go.RowKit
noncomputable section
structure Td {H:Type} (μ:DataW H→Nat):Prop where
 str: ∀b,b.length≤μ (.lit (.string b))
 len: ∀l r,l.length≤μ (.slice l r)
 el: ∀l r d,d∈l→μ d≤μ (.slice l r)
 part: ∀l d,d∈l→μ d≤μ (.agg l)
section
variable (E:Env) (B:Nat)
def Pz (f:(t:Ty)→I E.T t→Prop):(ts:List Ty)→HL E.T ts→Prop
 |[],_=>True
 |t::ts,x=>f t x.1∧Pz f ts x.2
def RD:Nat→(t:Ty)→I E.T t→Prop
 |0,_,_=>True
 |d+1,t,x=>
  match t with
  | .bool=>True
  | .int k=>k.min≤toI k x∧toI k x≤k.max
  | .str=>List.length (α:=UInt8) x≤B
  | .slice e=>List.length (α:=I E.T e) x≤B∧ ∀y∈(show List (I E.T e)from x),RD d e y
  | .arr n e=>List.length (α:=I E.T e) x=n∧ ∀y∈(show List (I E.T e)from x),RD d e y
  | .named i=>Pz E (RD d) (E.fields i) (E.out i x)
end
section
variable {P:Program} {E:Env} {H:Type} {enc:TypeId×Value→H} {w w':World} {B:Nat} {μ:DataW H→Nat}
theorem Rg {base:Nat} {a:Addr} {n:Nat} {cs:List Value} (h:w.cells? base a n=some cs):cs.length=n∧ ∀i,i<n→w.cell? (a.add i)=cs[i]? :=by
 unfold World.cells? at h
 split at h
 ·refine⟨by simpa using mapM_some_length h,fun i hi=> ?_⟩
  exact mapM_some_get h i i (by simp[hi])
 ·cases h
theorem add_zero (a:Addr):a.add 0=a:=by unfold Addr.add;simp
theorem Pj {a:Addr} {v:Value} (h:w.cell? a=some v):a=⟨a.block,a.off,none⟩:=by
 unfold World.cell? at h
 split at h
 ·split at h
  ·cases h
  ·rename_i hs
   obtain⟨b,o,s⟩:=a
   simp at hs
   subst hs
   rfl
 ·cases h
theorem rL {t:TypeId} {ty:Ty} (HS:Sound P E) (h:E.tk t= .data ty):P.cellsOf t=E.size ty:=by
 obtain⟨i,hi,hs,_⟩:=(HS.data t ty h).info
 unfold Program.cellsOf
 rw[hi];exact hs
theorem OU {i j:Nat} {ty:Ty} (h:aR (E.fields i) j=some ty):E.qu i (j+1)=E.qu i j+E.size ty:=by
 unfold Env.qu
 rw[cT]at h
 rw[List.take_add_one,h]
 simp
theorem SI (HS:Sound P E) (htl: ∀t,E.tk t≠ .other→t<P.types.size) (hz: ∀t e,t<P.types.size→P.underlying t=some (.slice e)→0<P.cellsOf e) (hμ:Td μ) (hB:B≤dK) {M:Nat→Prop} (hM: ∀b,¬M b): ∀(fuel:Nat) {t:TypeId} {ty:Ty} {cs:List Value} {y:DataW H×List MemPlace},E.tk t= .data ty→
  DataW.trod enc P w 0 (fun _=>true) true fuel t cs=some y→μ y.1≤B→ ∃x:I E.T ty,cx E w M ty x cs∧ ∀d,RD E B d ty x:=by
 intro fuel
 induction fuel with
 |zero=>intro t ty cs y _ h;simp[DataW.trod]at h
 |succ fuel ih=>
  intro t ty cs y ht h hy
  have hd:=(HS.data t ty ht).desc
  cases ty with
  |bool=>
   obtain⟨b,rfl,rfl⟩:=DataW.trod_bool hd h
   exact⟨b,.bool b,fun d=>by cases d<;>exact trivial⟩
  |int k=>
   obtain⟨n,rfl,rfl,hw⟩:=DataW.trod_int hd h
   simp only[Lit.wf,Bool.and_eq_true,decide_eq_true_eq]at hw
   have htn:toI k (zU k n)=n:=toI_ofI k n (fun hk=>by
    subst hk
    simp[IntKind.min,IntKind.max,IntKind.signed,IntKind.bits]at hw
    omega)
   refine⟨zU k n,?_,fun d=> ?_⟩
   ·have:=cx.int (E:=E) (w:=w) (M:=M) k (zU k n)
    rwa [htn]at this
   ·cases d with
    |zero=>exact trivial
    |succ d=>show k.min≤toI k (zU k n)∧toI k (zU k n)≤k.max;rw[htn];exact hw
  |str=>
   obtain⟨s,rfl,rfl,hs⟩:=DataW.trod_string hd h
   have hl:=hμ.str s.data.toList
   have hsz:s.data.toList.length=s.size:=Array.length_toList
   refine⟨s.data.toList,.str s (by simp only at hy;omega),fun d=> ?_⟩
   cases d with
   |zero=>exact trivial
   |succ d=>show s.data.toList.length≤B;simp only at hy;omega
  |slice e=>
   obtain⟨te,hu,hte⟩:=hd
   rcases DataW.trod_slice hu h with⟨rfl,rfl⟩|⟨a,len,cap,elems,rest,n,hn,rfl,rfl,_,hl,hmx,hel,hx,_⟩
   ·refine⟨[],.slice e [] none 0 [] (.nil e) (.inl rfl) (Nat.zero_le _) (Nat.le_refl _),fun d=> ?_⟩
    cases d with
    |zero=>exact trivial
    |succ d=>exact⟨Nat.zero_le _,fun y hy=>by cases hy⟩
   ·cases hn
    have hpos:0<P.cellsOf te:=hz t te (htl t (by rw[ht];exact fun h=>by cases h)) hu
    have hsz:=rL HS hte
    have hlenB:len≤B:=by
     have:=hμ.len (elems.map (·.1)) (rest.map (·.1))
     rw[List.length_map,hel]at this
     exact Nat.le_trans this hy
    have helB: ∀p∈elems,μ p.1≤B:=fun p hp=>Nat.le_trans (hμ.el _ _ _ (List.mem_map.2 ⟨p,hp,rfl⟩)) hy
    have rows: ∀k,k≤len→ ∃(xs:List (I E.T e)) (c:List Value),xs.length=k∧bD E w M e xs c∧(∀q u,c[q]? =some u→w.cell? (a.add q)=some u)∧ ∀y∈xs,∀d,RD E B d e y:=by
     intro k
     induction k with
     |zero=>intro _;exact⟨[],[],rfl,.nil e,fun q u hq=>by simp at hq,fun y hy=>by cases hy⟩
     |succ k ihk=>
      intro hk
      obtain⟨xs,c,h1,h2,h3,h4⟩:=ihk (by omega)
      have hkx:=hx k (by omega)
      have hke:elems[k]? =some (elems[k]'(by omega)):=List.getElem?_eq_getElem _
      rw[hke]at hkx
      obtain⟨cs1,hc1,ht1⟩:=Option.bind_eq_some_iff.1 hkx
      obtain⟨x,hx1,hx2⟩:=ih hte ht1 (helB _ (List.getElem_mem _))
      obtain⟨hcl,hcc⟩:=Rg hc1
      have hlr:=bD.append h2 (.cons e x [] cs1 [] hx1 (.nil e))
      rw[List.append_nil]at hlr
      refine⟨xs++[x],c++cs1,by simp[h1],hlr,fun q u hq=> ?_,fun y hy=> ?_⟩
      ·have hclen:=bD.len HS.todk h2
       rw[h1,←hsz]at hclen
       by_cases hqc:q<c.length
       ·rw[List.getElem?_append_left hqc]at hq
        exact h3 q u hq
       ·rw[List.getElem?_append_right (by omega)]at hq
        have hq2:=(List.getElem?_eq_some_iff.1 hq).1
        have h5:=hcc (q-c.length) (by omega)
        rw[hq]at h5
        have h6:(a.add (k*P.cellsOf te)).add (q-c.length)=a.add q∨q-c.length=0∧q=k*P.cellsOf te:=by
         by_cases h0:q-c.length=0
         ·right;exact⟨h0,by omega⟩
         ·left
          unfold Addr.add
          by_cases h7:k*P.cellsOf te=0
          ·rw[if_pos h7,if_neg h0,if_neg (by omega)]
           congr 1
           omega
          ·rw[if_neg h7,if_neg h0,if_neg (by omega)]
           simp only
           congr 1
           omega
        rcases h6 with h6|⟨h6,h7⟩
        ·rw[←h6];exact h5
        ·rw[h6,add_zero]at h5
         rw[h7];exact h5
      ·rcases List.mem_append.1 hy with hy|hy
       ·exact h4 y hy
       ·simp at hy;subst hy;exact hx2
    obtain⟨xs,c,h1,h2,h3,h4⟩:=rows len (Nat.le_refl _)
    have hc:=cx.slice (E:=E) (w:=w) (M:=M) e xs (some a) cap c h2 (by
     by_cases h0:xs=[]
     ·exact .inl h0
     ·right
      have hlen0:0<xs.length:=List.length_pos_iff.2 h0
      have hcl:=bD.len HS.todk h2
      rw[←hsz]at hcl
      have hc0:0<c.length:=by rw[hcl];exact Nat.mul_pos hlen0 hpos
      have h5:=h3 0 _ (List.getElem?_eq_getElem hc0)
      rw[add_zero]at h5
      have hsp:=Pj h5
      refine⟨a.block,a.off,by rw[←hsp],hM _,SJ h5,fun q u hq=> ?_⟩
      have:=h3 q u hq
      rw[hsp,dP]at this
      exact this) (by omega) (by omega)
    rw[h1]at hc
    refine⟨xs,hc,fun d=> ?_⟩
    cases d with
    |zero=>exact trivial
    |succ d=>exact⟨by rw[h1];exact hlenB,fun y hy=>h4 y hy d⟩
  |arr n e=>
   obtain⟨te,hu,hte⟩:=hd
   obtain⟨ys,m,hm,rfl,hcl,hyl,hx⟩:=DataW.trod_array hu h
   cases hm
   have hsz:=rL HS hte
   have hsa:=rL HS ht
   have hyB: ∀p∈ys,μ p.1≤B:=fun p hp=>Nat.le_trans (hμ.part _ _ (List.mem_map.2 ⟨p,hp,rfl⟩)) hy
   rw[hsa]at hcl
   simp only[Env.size]at hcl
   have rows: ∀k,k≤n→ ∃(xs:List (I E.T e)),xs.length=k∧bD E w M e xs (cs.take (k*E.size e))∧ ∀y∈xs,∀d,RD E B d e y:=by
    intro k
    induction k with
    |zero=>intro _;exact⟨[],rfl,by simp;exact .nil e,fun y hy=>by cases hy⟩
    |succ k ihk=>
     intro hk
     obtain⟨xs,h1,h2,h4⟩:=ihk (by omega)
     have hkx:=hx k (by omega)
     have hke:ys[k]? =some (ys[k]'(by omega)):=List.getElem?_eq_getElem _
     rw[hke]at hkx
     obtain⟨x,hx1,hx2⟩:=ih hte hkx (hyB _ (List.getElem_mem _))
     have hlr:=bD.append h2 (.cons e x [] _ [] hx1 (.nil e))
     rw[List.append_nil,hsz,←List.take_add]at hlr
     refine⟨xs++[x],by simp[h1],by rw[Nat.add_mul,Nat.one_mul];exact hlr,fun y hy=> ?_⟩
     rcases List.mem_append.1 hy with hy|hy
     ·exact h4 y hy
     ·simp at hy;subst hy;exact hx2
   obtain⟨xs,h1,h2,h4⟩:=rows n (Nat.le_refl _)
   rw[List.take_of_length_le (by omega)]at h2
   refine⟨xs,.arr n e xs cs h1 h2,fun d=> ?_⟩
   cases d with
   |zero=>exact trivial
   |succ d=>exact⟨h1,fun y hy=>h4 y hy d⟩
  |named i=>
   obtain⟨fs,hu,hfl,hf⟩:=hd
   obtain⟨ys,m,hm,rfl,hcl,hyl,hx⟩:=DataW.trod_struct hu h
   cases hm
   have hsa:=rL HS ht
   have hyB: ∀p∈ys,μ p.1≤B:=fun p hp=>Nat.le_trans (hμ.part _ _ (List.mem_map.2 ⟨p,hp,rfl⟩)) hy
   rw[hsa]at hcl
   simp only[Env.size]at hcl
   have rows: ∀(k j:Nat),k+j=(E.fields i).length→ ∃r:HL E.T ((E.fields i).drop j),l7 E w M ((E.fields i).drop j) r (cs.drop (E.qu i j))∧ ∀d,Pz E (RD E B d) ((E.fields i).drop j) r:=by
    intro k
    induction k with
    |zero=>
     intro j hj
     have hdr:(E.fields i).drop j=[]:=List.drop_of_length_le (by omega)
     have hoff:E.qu i j=cs.length:=by
      rw[hcl,HS.todk.zg]
      unfold Env.qu
      rw[List.take_of_length_le (by omega)]
     rw[hdr,hoff,List.drop_length]
     exact⟨(),.nil,fun d=>trivial⟩
    |succ k ihk=>
     intro j hj
     obtain⟨r,hr,hw⟩:=ihk (j+1) (by omega)
     have hjf:j<fs.size:=by omega
     have hfj:fs[j]? =some fs[j]:=Array.getElem?_eq_getElem _
     obtain⟨ty,h1,h2,h3,h4,h5⟩:=hf j _ hfj
     have hxj:=hx j _ hfj
     have hyj:ys[j]? =some (ys[j]'(by omega)):=List.getElem?_eq_getElem _
     rw[hyj]at hxj
     obtain⟨x,hx1,hx2⟩:=ih h2 hxj (hyB _ (List.getElem_mem _))
     rw[h3,rL HS h2]at hx1
     have hdr:(E.fields i).drop j=ty::(E.fields i).drop (j+1):=by
      rw[cT]at h1
      obtain⟨hlt,he⟩:=List.getElem?_eq_some_iff.1 h1
      rw[←he]
      exact List.drop_eq_getElem_cons hlt
     rw[OU h1]at hr
     rw[hdr]
     refine⟨(x,r),?_,fun d=>⟨hx2 d,hw d⟩⟩
     have hcat:cs.drop (E.qu i j)=(cs.drop (E.qu i j)).take (E.size ty)++cs.drop (E.qu i j+E.size ty):=by rw[←List.drop_drop,List.take_append_drop]
     rw[hcat]
     exact .cons ty _ x r _ _ hx1 hr
   have hall: ∃r:HL E.T (E.fields i),l7 E w M (E.fields i) r cs∧ ∀d,Pz E (RD E B d) (E.fields i) r:=by
    have h:=rows (E.fields i).length 0 (by omega)
    have h0:E.qu i 0=0:=by simp[Env.qu]
    rw[h0]at h
    exact h
   obtain⟨r,hr,hw⟩:=hall
   refine⟨E.CL i r,.named i _ cs (by rw[HS.todk.pe];exact hr),fun d=> ?_⟩
   cases d with
   |zero=>exact trivial
   |succ d=>show Pz E (RD E B d) (E.fields i) (E.out i (E.CL i r));rw[HS.todk.pe];exact hw d
theorem Ui {N3:List TK} (htk: ∀t,E.tk t=nth N3 t .other) (h:N3.length≤P.types.size): ∀t,E.tk t≠ .other→t<P.types.size:=by
 intro t ht
 rcases Nat.lt_or_ge t N3.length with h1|h1
 ·exact Nat.lt_of_lt_of_le h1 h
 ·exfalso
  apply ht
  rw[htk,ko,List.getD_eq_getElem?_getD,List.getElem?_eq_none h1]
  rfl
inductive Di (E:Env) (B:Nat):List Ty→List (az E.T)→Prop where
 |nil:Di E B [] []
 |cons (t:Ty) (ts:List Ty) (x:I E.T t) (ds:List (az E.T)) (h: ∀d,RD E B d t x) (h':Di E B ts ds):Di E B (t::ts) (.val t x::ds)
theorem toV_of (HS:Sound P E) {t:TypeId} {ty:Ty} {r:Reach} {base:Nat} {v:Value} (ht:E.tk t= .data ty) (h:Value.okWide P w r base t v):toV ty v.cells.toList=v:=by
 have hd:=(HS.data t ty ht).desc
 cases ty with
 |bool=>
  unfold Value.okWide at h
  rw[hd]at h
  unfold Cell.okWide Cell.ok at h
  rw[hd]at h
  cases v<;>simp at h<;>rfl
 |int k=>
  unfold Value.okWide at h
  rw[hd]at h
  unfold Cell.okWide Cell.ok at h
  rw[hd]at h
  cases v<;>simp at h<;>rfl
 |str=>
  unfold Value.okWide at h
  rw[hd]at h
  unfold Cell.okWide Cell.ok at h
  rw[hd]at h
  cases v<;>simp at h<;>rfl
 |slice e=>
  obtain⟨te,hu,_⟩:=hd
  unfold Value.okWide at h
  rw[hu]at h
  unfold Cell.okWide Cell.ok at h
  rw[hu]at h
  cases v<;>simp at h<;>rfl
 |arr n e=>
  obtain⟨te,hu,_⟩:=hd
  unfold Value.okWide at h
  rw[hu]at h
  obtain⟨cs,rfl,_⟩:=h
  simp[toV,dU,Value.cells]
 |named i=>
  obtain⟨fs,hu,_⟩:=hd
  unfold Value.okWide at h
  rw[hu]at h
  obtain⟨cs,rfl,_⟩:=h
  simp[toV,dU,Value.cells]
theorem NH (HS:Sound P E) (htl: ∀t,E.tk t≠ .other→t<P.types.size) (hz: ∀t e,t<P.types.size→P.underlying t=some (.slice e)→0<P.cellsOf e) (hμ:Td μ) (hB:B≤dK) {M:Nat→Prop} (hM: ∀b,¬M b) {r:Reach} {base:Nat} (σ:Sg) (st:St E.T): ∀(ts:List TypeId) (ps:List Ty) (us:List Value) (ds:List (DataW H)) (pl:List MemPlace),
  ts.map E.tk=ps.map .data→DataW.TrodAll enc P w 0 (fun _=>true) true ts us ds pl→(∀d∈ds,μ d≤B)→(∀(j:Nat) t v,ts[j]? =some t→us[j]? =some v→Value.okWide P w r base t v)→
  ∃xs,Di E B ps xs∧aW E σ st w M xs us
 |[],[],us,ds,pl,_,h,_,_=>by
  obtain⟨rfl,rfl,_⟩:=trodAll_nil h
  exact⟨[],.nil,.nil⟩
 |[],_::_,us,ds,pl,hp,_,_,_=>by cases hp
 |_::_,[],us,ds,pl,hp,_,_,_=>by cases hp
 |t::ts,ty::ps,us,ds,pl,hp,h,hb,hok=>by
  obtain⟨v,vs,d,ds',p,q,rfl,rfl,rfl,⟨n,h1⟩,h2⟩:=trodAll_cons h
  simp only[List.map_cons,List.cons.injEq]at hp
  obtain⟨x,hx1,hx2⟩:=SI HS htl hz hμ hB hM n hp.1 h1 (hb d (by simp))
  obtain⟨xs,hxs,hr⟩:=NH HS htl hz hμ hB hM σ st ts ps vs ds' q hp.2 h2 (fun d' hd'=>hb d' (by simp[hd'])) (fun j t' v' h3 h4=>hok (j+1) t' v' (by simpa using h3) (by simpa using h4))
  refine⟨.val ty x::xs,.cons ty ps x xs hx2 hxs,.cons _ _ _ _ ?_ hr⟩
  have hv:=aZ.data (E:=E) (σ:=σ) (st:=st) (w:=w) (M:=M) ty _ _ (.val ty x _ hx1)
  rw[toV_of HS hp.1 (hok 0 t v rfl rfl)]at hv
  exact hv
theorem GU (hl:laidOutB P=true): ∀(ts:List TypeId) {us:List Value} {ds:List (DataW H)} {pl:List MemPlace},(∀t∈ts,P.readableRec t=true∧t<P.types.size)→DataW.TrodAll enc P w 0 (fun _=>true) true ts us ds pl→(∀p∈pl,w.sameAt w' p)→
  ∀sp:Nat→Bool,(∀p∈pl,sp p.block=true)→DataW.TrodAll enc P w' 0 sp true ts us ds pl
 |[],us,ds,pl,_,h,_,sp,_=>by
  obtain⟨rfl,rfl,rfl⟩:=trodAll_nil h
  exact trodAll_mk0
 |t::ts,us,ds,pl,ht,h,hs,sp,hsp=>by
  obtain⟨v,vs,d,ds',p,q,rfl,rfl,rfl,h1,h2⟩:=trodAll_cons h
  have h3:=ht t (by simp)
  exact trodAll_cons_mk (WideElems.Trod_stays hl h3.1 h3.2 h1 (fun x hx=>hs x (by simp[hx])) (fun x hx=>hsp x (by simp[hx])))
   (GU hl ts (fun t' ht'=>ht t' (by simp[ht'])) h2 (fun x hx=>hs x (by simp[hx])) sp (fun x hx=>hsp x (by simp[hx])))
theorem IL (HS:Sound P E) (htl: ∀t,E.tk t≠ .other→t<P.types.size) (hl:laidOutB P=true) (hz: ∀t e,t<P.types.size→P.underlying t=some (.slice e)→0<P.cellsOf e) (hμ:Td μ) (hB:B≤dK) {fid:FuncId} {fn:Func} {tb:TypeId} (hrt:fn.resultTypes= #[tb]) (htb:P.underlying tb=some .bool)
  {ps:List Ty} (hps:fn.params.toList.map E.tk=ps.map .data) (hrd: ∀t∈fn.params.toList,P.readableRec t=true∧t<P.types.size) {s:ChangeSpec} (hv:s.vars=[]) (hfn: ∀ds:List (DataW H),ds.length=fn.params.toList.length→s.fn H ds={results:=[.lit (.bool true)],args:=ds})
  {F:List (az E.T)→St E.T→Tree (iR E.T×St E.T)} (hF:tu P E fid F) (law: ∀xs,Di E B ps xs→(F xs []).get=some (.ret [.val .bool true],[]))
  (W:World) (base:Nat) (args:Array Value) (ds gs:List (DataW H)) (before:List MemPlace) (hval: ∀(j:Nat) t v,fn.params[j]? =some t→args[j]? =some v→Value.okWide P W .any base t v)
  (hW:DataW.Whole enc P fn.params.toList s.vars false W args.toList ds gs before) (hk: ∀d∈ds,μ d≤B):
  Calls P fid args W fun e W'=> ∃v,e= .returned v∧s.post enc P fn false true false false W args v W':=by
 have hW':=hW
 have hlt:=hW.lt
 obtain⟨p,q,hA,hV,hbe,hfz,hnd⟩:=hW'
 have hgs:gs=[]∧q=[]:=by
  rw[hv]at hV
  cases gs with
  |nil=>exact⟨rfl,hV⟩
  |cons g gs=>exact hV.elim
 obtain⟨rfl,rfl⟩:=hgs
 rw[List.append_nil]at hbe
 subst hbe
 obtain⟨xs,hxs,hr⟩:=NH HS htl hz hμ hB (M:=fun _=>False) (fun _ h=>h) {f:=fun _=> .tuple #[],m:=fun _=>False} ([]:St E.T) fn.params.toList ps args.toList ds before hps hA hk (fun j t v h1 h2=>hval j t v (by simpa using h1) (by simpa using h2))
 have hst:=Ez (E:=E) (σ:={f:=fun _=> .tuple #[],m:=fun _=>False}) (w:=W) (M:=fun _=>False) (fun b hb=>hb.elim)
 have hc:=hF hst (aW.aH (Kept.weaken fun b hb=>AO.1 hb) hr (fun k _=>ib.refl k)) (law xs hxs)
 rw[Array.toArray_toList]at hc
 refine hc.mono fun e W' hb=> ?_
 obtain⟨σ',m,hres⟩:=hb
 cases e with
 |returned v=>
  have hvb:=yR (show aZ E σ' ([]:St E.T) W' (MB σ' ([]:St E.T)) (.val .bool true) v from hres)
  subst hvb
  have hsame: ∀b,b<W.heap.size→W'.heap[b]? =W.heap[b]? :=fun b hb=>m.aH.block b hb (fun h=>AO.1 h)
  have hlen:ds.length=fn.params.toList.length:=by
   have: ∀(ts:List TypeId) (us:List Value) (ds:List (DataW H)) (pl:List MemPlace),DataW.TrodAll enc P W 0 (fun _=>true) true ts us ds pl→ds.length=ts.length:=by
    intro ts
    induction ts with
    |nil=>intro us ds pl h;obtain⟨rfl,rfl,_⟩:=trodAll_nil h;rfl
    |cons t ts ih=>
     intro us ds pl h
     obtain⟨v,vs,d,ds',p,q,rfl,rfl,rfl,_,h2⟩:=trodAll_cons h
     simp[ih _ _ _ h2]
   exact this _ _ _ _ hA
  have hsat: ∀p∈before,W.sameAt W' p:=by
   intro p hp
   have hb:=hlt p hp
   cases p with
   |cell b off=>exact vX (hsame b hb)
   |map b=>exact hsame b hb
  have hfn':=hfn ds hlen
  refine⟨_,rfl,ds,[],before,[],before,[],hW,?_,?_,?_,?_,fun h=>by cases h⟩
  ·rw[List.append_nil,hfn',hrt]
   exact trodAll_cons_mk (shut_bool htb true) trodAll_mk0
  ·rw[List.append_nil,hfn']
   exact GU hl _ hrd hA hsat _ (fun p hp=>by simpa using hlt p hp)
  ·rw[hv,List.append_nil,hfn']
   rfl
  ·refine⟨m.aH.os,m.aH.output,fun i hi=> ?_⟩
   rw[hsame i hi]
   generalize W.heap[i]? =o
   cases o with
   |none=>rfl
   |some o=>
    cases o with
    |cells c t fr=>exact⟨rfl,rfl,rfl,fun _ _=>rfl⟩
    |map es clock=>exact .inr ⟨rfl,rfl⟩
    |_=>rfl
 |panicked ch=>exact hres.elim
 |outgrown=>exact hres.elim
end
end
open Go
noncomputable section
def stepOf (E:Env) (S:List (Nat×Spec E)) (L:Nat→cY E) (N k:Nat) (fn:Func):Fr E.T→St E.T→Tree (bR E):=
 match fn.body with
 |some c=>match dG k c with
  |some cb=>gi E (jX S) L N (k+1) cb
  |none=>fun _ _=> .fail
 |none=>fun _ _=> .fail
theorem Rj {P:Program} {E:Env} (HS:Sound P E) (hmix:P.follows .mixedOrders=true) {S:List (Nat×Spec E)} (hS:Gx P E S) {SD:List (Nat×l8 E)} (hD:Lt P E SD) {L:Nat→cY E} {N:Nat} {aH:Bool} {f:FuncId} {fn:Func} {c:Code} (hf:P.funcs[f]? =some fn) (hb:fn.body=some c)
  (h: ∀k g,(L k).closed=some g→ ∀fr st out,(g fr st).get=some out→ ∃m fr',(qf E (stepOf E S L N k fn) (L k).aH (L k).ik st.length m fr st).get=some (out.1,fr',out.2.2)∧De out.2.1 fr'):
  tu P E f (NC E (jX S) (DB SD) L N aH fn):=by
 refine Q3 HS hmix (Gb HS (xx hS)) (Kc hD) hf hb (jc c 0 fun k cb hk f' hf'=> ?_)
 rw[Nat.zero_add]at hf'⊢
 have:=h k f' hf'
 unfold stepOf at this
 rw[hb]at this
 simp only[hk]at this
 exact this
structure LpI (E:Env) where
 ks:List Nat
 ik:List (Nat×Nat):=[]
 zR:List Pw:=[]
 d:List (FuncId×List (az E.T)):=[]
 g:Option (List (az E.T)→St E.T→Tree (bR E)):=none
def Md {E:Env}:List (LpI E)→Nat→Option (LpI E)
 |[],_=>none
 |l::_,0=>some l
 |_::r,i+1=>Md r i
def Ga (E:Env) (n:Nat) (ls:List (LpI E)) (rs:List (Nat×List Pw)) (i:Nat):cY E:=
 match Md ls i with
 |some ⟨ks,ik,zR,d,g⟩=>{aH:=ks,ik:=ik,zR:=zR,closed:=(match g with|some g=>some (B1 E n ks ik d g)|none=>none),reg:=regOf rs i}
 |none=>{aH:=[],closed:=none,reg:=regOf rs i}
where
 regOf:List (Nat×List Pw)→Nat→List Pw
  |[],_=>[]
  |(j,l) ::r,i=>bif Nat.beq j i then l else regOf r i
end
end Go.Proofs.YtlejgahbbfeagaaGreatDoor.D

namespace Go.Proofs.YtlejgahbbfeagaaGreatDoor.N
open Go
@[reducible] def dK:Nat:=2147483648
@[reducible] def ay (n:Int):Int:=IntKind.i64.wrap n
@[reducible] def qj (n:Int):Int:=IntKind.u8.wrap n
@[reducible] def NS (n:Int):Int:=IntKind.u16.wrap n
@[reducible] def uf (n:Int):Int:=IntKind.u64.wrap n
@[reducible] def i8 (x:UInt8):Int:=(x.toNat:Int)
@[reducible] def b8 (n:Int):UInt8:=UInt8.ofNat n.toNat
def cN (i:Int) (n:Nat):Bool:=decide (0≤i)&&decide (i<n)
def kJ (lo hi:Int) (n:Nat):Bool:=decide (0≤lo)&&(decide (lo≤hi)&&decide (hi≤n))
def eo {α:Type} (xs:List α) (lo hi:Int):List α:=(xs.take hi.toNat).drop lo.toNat
def Y4 (a b:Int):Bool:=decide (0≤a)&&(decide (a=b)&&decide (a≤dK))
def Ng (a:Int):Bool:=decide (0≤a)&&decide (a≤dK)
def Gh (k:IntKind) (x y:Int):Int:=k.wrap (BitVec.ofInt k.bits x&&& BitVec.ofInt k.bits y).toNat
def bor (k:IntKind) (x y:Int):Int:=k.wrap (BitVec.ofInt k.bits x|||BitVec.ofInt k.bits y).toNat
def GP (k:IntKind) (x y:Int):Int:=k.wrap (BitVec.ofInt k.bits x^^^BitVec.ofInt k.bits y).toNat
def PT (k:IntKind) (x y:Int):Int:=k.wrap (x*2^min y.toNat k.bits)
def qX (k:IntKind) (x y:Int):Int:=x.fdiv (2^min y.toNat k.bits)
def ew (x y:Int):Int:=if y<x then y else x
def imax (x y:Int):Int:=if y>x then y else x
def yZ {α:Type} (xs:List α) (i:Int) (vs:List α):List α:=xs.take i.toNat++vs++xs.drop i.toNat
def BI {α β:Type} (xs:List α) (i:Int) (vs:List β):Bool:=decide (0≤i)&&(decide (i≤xs.length)&&(decide (vs.length=1)&&decide (xs.length+1≤dK)))
def pI {α:Type} (xs:List α) (n:Int):List α:=(List.replicate n.toNat xs).flatten
def EW {α:Type} (xs:List α) (n:Int):Bool:=decide (0≤n)&&(decide (n≤dK)&&decide (xs.length*n.toNat≤dK))
def Ij {α:Type} (xs:List α) (n:Int):Bool:=decide (xs.length=1)&&(decide (1≤n)&&decide (n≤64))
def UN {α:Type} (f:α→α→Bool):List α→List α→Bool
 |[],[]=>true
 |a::x,b::y=>f a b&&UN f x y
 |_,_=>false
def hZ (bs:List UInt8) (k:Nat):List UInt8:=(bs.drop (32*k)).take 32
def ia (bs:List UInt8):List (List UInt8):=(List.range ((bs.length+31)/32)).map (hZ bs)
def BH (l:List (List UInt8)) (e:List UInt8):List UInt8:=List.intercalate e l
def Fv (l:List (List UInt8)) (e:List UInt8):Bool:=decide ((BH l e).length≤dK)
def alt {α β γ:Type} (s:α ⊕ β) (f:α→Option γ) (g:β→Option γ):Option γ:=bif s.isLeft then s.getLeft?.bind f else s.getRight?.bind g
theorem bu {α β γ:Type} (a:α) (f:α→Option γ) (g:β→Option γ):alt (.inl a) f g=f a:=rfl
theorem fi {α β γ:Type} (b:β) (f:α→Option γ) (g:β→Option γ):alt (.inr b) f g=g b:=rfl
noncomputable def iter {V X:Type} (step:V→Option (V ⊕ X)) (n:Nat):V→Option X:=
 Nat.rec (fun _=>none) (fun _ ih v=>(step v).bind fun s=>alt s ih some) n
noncomputable def fuel:Nat:=Classical.choose (show ∃n:Nat,n=4294967296 from⟨_,rfl⟩)
theorem nH:fuel=4294967296:=Classical.choose_spec (show ∃n:Nat,n=4294967296 from⟨_,rfl⟩)
theorem bw {V X:Type} (step:V→Option (V ⊕ X)) (n:Nat) (v:V):iter step (n+1) v=(step v).bind fun s=>alt s (iter step n) some:=rfl
structure bB where
 At:Int
 B:List UInt8
def bB.er (x y:bB):Bool:=((x.At==y.At)&&((x.B==y.B)&&true))
structure aN where
 aU:List (List UInt8)
 bC:List bB
 gR:Int
 Down:Bool
def aN.er (x y:aN):Bool:=(false&&(false&&((x.gR==y.gR)&&((x.Down==y.Down)&&true))))
structure bL where
 Name:List UInt8
 pY:Int
 Body:List UInt8
def bL.er (x y:bL):Bool:=((x.Name==y.Name)&&((x.pY==y.pY)&&((x.Body==y.Body)&&true)))
structure bA where
 Seq:Int
 Gw:Int
 aX:Int
 pY:Int
def bA.er (x y:bA):Bool:=((x.Seq==y.Seq)&&((x.Gw==y.Gw)&&((x.aX==y.aX)&&((x.pY==y.pY)&&true))))
structure aG where
 aP:List bL
 Marks:List bA
 aS:Int
def aG.er (x y:aG):Bool:=(false&&(false&&((x.aS==y.aS)&&true)))
structure bV where
 D:aN
 S:aG
def bV.er (x y:bV):Bool:=(aN.er x.D y.D&&(aG.er x.S y.S&&true))
structure aT where
 Client:Int
 aX:Int
 Mode:Int
 ig:Int
def aT.er (x y:aT):Bool:=((x.Client==y.Client)&&((x.aX==y.aX)&&((x.Mode==y.Mode)&&((x.ig==y.ig)&&true))))
structure bG where
 Client:Int
 Seq:Int
 aX:Int
 Mode:Int
def bG.er (x y:bG):Bool:=((x.Client==y.Client)&&((x.Seq==y.Seq)&&((x.aX==y.aX)&&((x.Mode==y.Mode)&&true))))
structure b9 where
 bF:List aT
 cZ:List bG
def b9.er (x y:b9):Bool:=(false&&(false&&true))
structure ck where
 Kind:Int
 To:Int
 aS:Int
 Seq:Int
 Gw:Int
 aX:Int
 Mode:Int
 pY:Int
 Body:List UInt8
def ck.er (x y:ck):Bool:=((x.Kind==y.Kind)&&((x.To==y.To)&&((x.aS==y.aS)&&((x.Seq==y.Seq)&&((x.Gw==y.Gw)&&((x.aX==y.aX)&&((x.Mode==y.Mode)&&((x.pY==y.pY)&&((x.Body==y.Body)&&true)))))))))
structure aI where
 aA:bV
 bd:b9
 Seen:List Int
 Told:List ck
 gQ:Int
 l6:Int
 DZ:Int
 Live:Bool
 gP:Int
def aI.er (x y:aI):Bool:=(bV.er x.aA y.aA&&(b9.er x.bd y.bd&&(false&&(false&&((x.gQ==y.gQ)&&((x.l6==y.l6)&&((x.DZ==y.DZ)&&((x.Live==y.Live)&&((x.gP==y.gP)&&true)))))))))
structure aY where
 nS:Int
 B:List UInt8
def aY.er (x y:aY):Bool:=((x.nS==y.nS)&&((x.B==y.B)&&true))
structure Gp where
 Mode:Int
 ig:Int
 pY:Int
 Body:List UInt8
 agR:List aY
 Zf:Int
 RB:Bool
 aat:Bool
def Gp.er (x y:Gp):Bool:=((x.Mode==y.Mode)&&((x.ig==y.ig)&&((x.pY==y.pY)&&((x.Body==y.Body)&&(false&&((x.Zf==y.Zf)&&((x.RB==y.RB)&&((x.aat==y.aat)&&true))))))))
structure bp where
 Kind:Int
 bn:Int
 aS:Int
 Seq:Int
 Name:List UInt8
 aX:Int
 Mode:Int
 aQ:List aY
def bp.er (x y:bp):Bool:=((x.Kind==y.Kind)&&((x.bn==y.bn)&&((x.aS==y.aS)&&((x.Seq==y.Seq)&&((x.Name==y.Name)&&((x.aX==y.aX)&&((x.Mode==y.Mode)&&(false&&true))))))))
structure SX where
 Is:Bool
 Ask:bp
 Ub:Int
 aU:Int
def SX.er (x y:SX):Bool:=((x.Is==y.Is)&&(bp.er x.Ask y.Ask&&((x.Ub==y.Ub)&&((x.aU==y.aU)&&true))))
structure B9 where
 ID:Int
 gQ:Int
 aS:Int
 Seq:Int
 aP:List Gp
 Names:List (List UInt8)
 Out:SX
 DZ:Int
 aav:Int
 aaB:Int
def B9.er (x y:B9):Bool:=((x.ID==y.ID)&&((x.gQ==y.gQ)&&((x.aS==y.aS)&&((x.Seq==y.Seq)&&(false&&(false&&(SX.er x.Out y.Out&&((x.DZ==y.DZ)&&((x.aav==y.aav)&&((x.aaB==y.aaB)&&true))))))))))
structure Rq where
 To:Int
 B:List UInt8
 Rp:Bool
def Rq.er (x y:Rq):Bool:=((x.To==y.To)&&((x.B==y.B)&&((x.Rp==y.Rp)&&true)))
structure Jj where
 Real:Int
 S:aI
 aaP:List B9
 Fly:List Rq
def Jj.er (x y:Jj):Bool:=((x.Real==y.Real)&&(aI.er x.S y.S&&(false&&(false&&true))))
structure Pn where
 Gw:Int
 aX:Int
 Body:List UInt8
def Pn.er (x y:Pn):Bool:=((x.Gw==y.Gw)&&((x.aX==y.aX)&&((x.Body==y.Body)&&true)))
structure T2 where
 Kind:Int
 R:Int
 By:Int
 aX:Int
 nS:Int
 I:Int
 To:Int
 Text:List UInt8
 agQ:List Int
def T2.er (x y:T2):Bool:=((x.Kind==y.Kind)&&((x.R==y.R)&&((x.By==y.By)&&((x.aX==y.aX)&&((x.nS==y.nS)&&((x.I==y.I)&&((x.To==y.To)&&((x.Text==y.Text)&&(false&&true)))))))))
structure bt where
 l:List UInt8
 n:Int
def bt.er (x y:bt):Bool:=(false&&((x.n==y.n)&&true))
structure yu where
 e:Int
def yu.er (x y:yu):Bool:=((x.e==y.e)&&true)
structure DU where
 World:Jj
 a:Pn
def DU.er (x y:DU):Bool:=(Jj.er x.World y.World&&(Pn.er x.a y.a&&true))
structure DV where
 aV:Int
 file:Int
 mode:Int
 c:Gp
def DV.er (x y:DV):Bool:=((x.aV==y.aV)&&((x.file==y.file)&&((x.mode==y.mode)&&(Gp.er x.c y.c&&true))))
structure gO where
 B:List UInt8
 DZ:Bool
def gO.er (x y:gO):Bool:=(false&&((x.DZ==y.DZ)&&true))
structure DW where
 b:List UInt8
def DW.er (x y:DW):Bool:=(false&&true)
structure fa where
def fa.er (x y:fa):Bool:=true
structure ax where
 Server:aI
 told:List ck
def ax.er (x y:ax):Bool:=(aI.er x.Server y.Server&&(false&&true))
structure B7 where
 Client:B9
 asked:List bp
def B7.er (x y:B7):Bool:=(B9.er x.Client y.Client&&(false&&true))
structure dt where
 d:aN
def dt.er (x y:dt):Bool:=(aN.er x.d y.d&&true)
structure B8 where
 a:Pn
def B8.er (x y:B8):Bool:=(Pn.er x.a y.a&&true)
structure cn where
 b:List UInt8
def cn.er (x y:cn):Bool:=(false&&true)
structure bc where
 d:aN
def bc.er (x y:bc):Bool:=(aN.er x.d y.d&&true)
structure bH where
 b:List UInt8
def bH.er (x y:bH):Bool:=(false&&true)
structure cJ where
 e:Int
def cJ.er (x y:cJ):Bool:=((x.e==y.e)&&true)
structure j0 where
 lo:UInt8
 hi:UInt8
def j0.er (x y:j0):Bool:=((i8 x.lo==i8 y.lo)&&((i8 x.hi==i8 y.hi)&&true))
open Go
def KF (l:List bB) (i:Int):Option bB:=l.reverse.find? fun p=>p.At==i
def fC (d:aN) (i:Int):List UInt8×Bool:=
 bif !d.Down&&(decide (0≤i)&&decide (i<(d.aU.length:Int)))then
  (match KF d.bC i with
  |some p=>p.B
  |none=>d.aU.getD i.toNat [],true)
 else([],false)
theorem Mu {l:List bB} {i:Int} {m:Nat} {p:bB} (h:l[m]? =some p) (hp:p.At=i) (hr: ∀(j:Nat) q,m<j→l[j]? =some q→q.At≠i):KF l i=some p:=by
 unfold KF
 obtain⟨hm,rfl⟩:=List.getElem?_eq_some_iff.1 h
 have hs:l=l.take m++l[m] ::l.drop (m+1):=by rw[←List.drop_eq_getElem_cons hm,List.take_append_drop]
 generalize l[m]=p at hp hs
 generalize ha:l.take m=a at hs
 generalize hb:l.drop (m+1)=b at hs
 have hrb: ∀q∈b,q.At≠i:=by
  intro q hq
  rw[←hb]at hq
  obtain⟨j,hj,rfl⟩:=List.getElem_of_mem hq
  rw[List.getElem_drop]
  exact hr (m+1+j) _ (by omega) (List.getElem?_eq_getElem _)
 rw[hs,List.reverse_append,List.reverse_cons,List.find?_append,List.find?_append]
 have h1:b.reverse.find? (fun p=>p.At==i)=none:=by
  rw[List.find?_eq_none]
  intro q hq
  simpa using hrb q (List.mem_reverse.1 hq)
 rw[h1]
 simp[hp]
theorem FC {l:List bB} {i:Int} (h: ∀q∈l,q.At≠i):KF l i=none:=by
 unfold KF
 rw[List.find?_eq_none]
 intro q hq
 simpa using h q (List.mem_reverse.1 hq)
end Go.Proofs.YtlejgahbbfeagaaGreatDoor.N

namespace Go.Proofs.YtlejgahbbfeagaaGreatDoor.D
open Go
inductive TT (α:Type) where
 |ret (x:α)
 |ite (c:Bool) (t e:TT α)
def TT.val {α:Type}:TT α→α
 | .ret x=>x
 | .ite c t e=>bif c then t.val else e.val
def TT.tree {α:Type}:TT α→Tree α
 | .ret x=> .ret x
 | .ite c t e=> .ite c t.tree e.tree
theorem TT.get_bind {α β:Type} (f:α→Tree β): ∀t:TT α,(t.tree.bind f).get=(f t.val).get
 | .ret x=>rfl
 | .ite c t e=>by
  show(bif c then(t.tree.bind f).get else(e.tree.bind f).get)=(f (bif c then t.val else e.val)).get
  cases c
  ·exact TT.get_bind f e
  ·exact TT.get_bind f t
def bf {α β:Type} {X:Type} (s:α ⊕ β) (f:α→Tree X) (g:β→Tree X):Tree X:= .ite s.isLeft (.opt s.getLeft? f) (.opt s.getRight? g)
end Go.Proofs.YtlejgahbbfeagaaGreatDoor.D
namespace Go.Proofs.YtlejgahbbfeagaaGreatDoor.N
open Go.Proofs.YtlejgahbbfeagaaGreatDoor.D
theorem aD {α:Type} (a:α):(Tree.ret a).get=some a:=rfl
theorem aC {α:Type}:(Tree.fail:Tree α).get=none:=rfl
theorem get_ite {α:Type} (c:Bool) (t e:Tree α):(Tree.ite c t e).get=bif c then t.get else e.get:=rfl
theorem aE {α β:Type} (o:Option β) (f:β→Tree α):(Tree.opt o f).get=o.bind fun b=>(f b).get:=rfl
theorem aF {α β X:Type} (s:α ⊕ β) (f:α→Tree X) (g:β→Tree X):(bf s f g).get=alt s (fun a=>(f a).get) (fun b=>(g b).get):=rfl
theorem aK {α:Type} (a:α):(TT.ret a).val=a:=rfl
theorem aL {α:Type} (c:Bool) (t e:TT α):(TT.ite c t e).val=bif c then t.val else e.val:=rfl
end Go.Proofs.YtlejgahbbfeagaaGreatDoor.N

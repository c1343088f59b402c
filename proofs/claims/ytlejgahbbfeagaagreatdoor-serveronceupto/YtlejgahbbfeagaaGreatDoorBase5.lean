/- Regions whose order is open: any order. Values told anew: rows that are data, records that are joined, nil rows that become rows of one's own. Code. Bodies: what they leave. Bodies with a deferred call; functions. An environment is sound where each row of its table is. Loops in closed form. Helpers for a seat's environment; functions whose bodies are their own specs. A library function that clones a row: it asks whether its row is nil, and comes to a row of its own either way. Rows: what is read of arguments is data, of bounded size. Functions some loops of which are given in closed form. Words of the nice functions. Records of the program, as Lean has them. What stands in a disk's sector, in plain words. Trees of the nice functions. -/
import Derived.Test.YtlejgahbbfeagaaGreatDoorBase4
import Derived.Test.YtlejgahbbfeagaaGreatDoorBase3
import Derived.Recover
import Derived.Orders
import Derived.Lib.SliceRun
import Derived.Deep.Slices
import Derived.OpenShut
import Derived.Carry
import Derived.JoinedCond
import Derived.ReadAgain
import GoSem.Dispatch
import Derived.Test.YtlejgahbbfeagaaGreatDoorBase1
set_option linter.unusedVariables false
set_option linter.unusedSimpArgs false
namespace Go.Proofs.YtlejgahbbfeagaaGreatDoor.D
open Go
noncomputable section
section
variable {P:Program} {E:Env} {w w':World} {σ σ':Sg} {st st':St E.T} {fr:Fr E.T} {a:Act} {S:FuncId→Option (Spec E)} {fx bef:List Nat} {M:Nat→Prop} {ops:Array Oper}
variable {K:Act→World→Prop} {Q:Exit→Act→World→Prop}
theorem GJ {acc:List Nat} {j:Nat}: ∀{es:List Edge},Nat.testBit (bits acc es) j=true→ ∃e∈es,Region.binds .any e=true∧(j=e.on∨Nat.testBit (nth acc e.on 0) j=true)
 |[],h=>by simp[bits]at h
 |e::r,h=>by
  simp only[bits]at h
  cases hb:Region.binds .any e with
  |true=>
   rw[hb]at h
   simp only[cond_true,Nat.testBit_or,Bool.or_eq_true,Nat.testBit_two_pow,decide_eq_true_eq]at h
   rcases h with h|h|h
   ·obtain⟨e',h1,h2,h3⟩:=GJ h
    exact⟨e',by simp[h1],h2,h3⟩
   ·exact⟨e,by simp,hb,.inl h.symm⟩
   ·exact⟨e,by simp,hb,.inr h⟩
  |false=>
   rw[hb]at h
   obtain⟨e',h1,h2,h3⟩:=GJ h
   exact⟨e',by simp[h1],h2,h3⟩
theorem MW {l r:List Nat} {i:Nat} (h:i<l.length):nth (l++r) i 0=nth l i 0:=by
 simp only[kt,List.getD_eq_getElem?_getD]
 rw[List.getElem?_append_left h]
theorem L9: ∀(l:List Oper) (acc:List Nat),∃t,wL acc l=acc++t
 |[],acc=>⟨[],by simp[wL]⟩
 |o::r,acc=>by
  obtain⟨t,ht⟩:=L9 r (acc++[bits acc o.after.toList])
  exact⟨bits acc o.after.toList::t,by simp only[wL];rw[ht];simp⟩
theorem OD: ∀(l:List Oper) (acc:List Nat) (i:Nat) (o:Oper),l[i]? =some o→ ∃acc',(∀k,k<acc.length+i→nth acc' k 0=nth (wL acc l) k 0)∧nth (wL acc l) (acc.length+i) 0=bits acc' o.after.toList
 |[],acc,i,o,h=>by simp at h
 |x::r,acc,0,o,h=>by
  simp at h
  subst h
  obtain⟨t,ht⟩:=L9 r (acc++[bits acc x.after.toList])
  refine⟨acc,fun k hk=> ?_,?_⟩
  ·simp only[wL]
   rw[ht,List.append_assoc,MW (by omega)]
  ·simp only[wL]
   rw[ht]
   simp[kt,List.getD_eq_getElem?_getD]
 |x::r,acc,i+1,o,h=>by
  obtain⟨acc',h1,h2⟩:=OD r (acc++[bits acc x.after.toList]) i o (by simpa using h)
  simp only[List.length_append,List.length_cons,List.length_nil]at h1 h2
  refine⟨acc',fun k hk=> ?_,?_⟩
  ·simp only[wL];exact h1 k (by omega)
  ·simp only[wL];rw[show acc.length+(i+1)=acc.length+(0+1)+i by omega];exact h2
theorem Gm: ∀(l:List Oper) (i0 i:Nat) (o:Oper),wg i0 l=true→l[i]? =some o→ ∀e∈o.after.toList,Region.binds .any e=true→e.on<i0+i
 |[],i0,i,o,h,ho=>by simp at ho
 |x::r,i0,0,o,h,ho=>by
  simp at ho;subst ho
  simp only[wg,Bool.and_eq_true,List.all_eq_true]at h
  intro e he hb
  have:=h.1 e he
  rw[hb]at this
  simp only[Bool.not_true,Bool.false_or]at this
  have:=GI this
  omega
 |x::r,i0,i+1,o,h,ho=>by
  simp only[wg,Bool.and_eq_true]at h
  intro e he hb
  have:=Gm r (i0+1) i o h.2 (by simpa using ho) e he hb
  omega
theorem FV {l:List Oper} (hl:wg 0 l=true) {L:Nat→Prop} (hc: ∀j o,L j→l[j]? =some o→ ∀e∈o.after.toList,Region.binds .any e=true→L e.on):
  ∀(n i:Nat),i<n→ ∀o,l[i]? =some o→(∀e∈o.after.toList,Region.binds .any e=true→L e.on)→ ∀j,zz (wL [] l) i j=true→L j
 |0,i,h=>by omega
 |n+1,i,h=>by
  intro o ho hdir j hj
  unfold zz at hj
  obtain⟨acc',h1,h2⟩:=OD l [] i o ho
  simp only[List.length_nil,Nat.zero_add]at h1 h2
  rw[h2]at hj
  obtain⟨e,he,hb,hor⟩:=GJ hj
  have hlt:=Gm l 0 i o hl ho e he hb
  rw[Nat.zero_add]at hlt
  rcases hor with rfl|hor
  ·exact hdir e he hb
  ·rw[h1 _ hlt]at hor
   have hil:=(List.getElem?_eq_some_iff.1 ho).1
   have hoe:l[e.on]? =some (l[e.on]'(by omega)):=List.getElem?_eq_getElem _
   exact FV hl hc n e.on (by omega) _ hoe (hc _ _ (hdir e he hb) hoe) j hor
theorem uf: ∀(l:List Oper) (i0 id0:Nat) (x:zA),x∈uU E i0 id0 l→i0≤x.i∧l[x.i-i0]? =some x.o∧(makes E x.o.op=true→id0≤x.id∧x.id<id0+xR E l)
 |[],i0,id0,x,h=>by cases h
 |o::r,i0,id0,x,h=>by
  simp only[uU]at h
  rcases List.mem_cons.1 h with rfl|h
  ·refine⟨Nat.le_refl _,by simp,fun hm=> ?_⟩
   simp only at hm
   simp only[xR,hm,cond_true]
   omega
  ·obtain⟨h1,h2,h3⟩:=uf r _ _ x h
   refine⟨by omega,?_,fun hm=> ?_⟩
   ·rw[show x.i-i0=x.i-(i0+1)+1 by omega]
    simpa using h2
   ·obtain⟨h4,h5⟩:=h3 hm
    simp only[xR]
    cases hmk:makes E o.op with
    |true=>rw[hmk]at h4 h5;simp only[cond_true]at h4 h5⊢;omega
    |false=>rw[hmk]at h4 h5;simp only[cond_false]at h4 h5⊢;omega
theorem Bp: ∀(l:List Oper) (i0 id0 i:Nat) (o:Oper),l[i]? =some o→ ∃x∈uU E i0 id0 l,x.i=i0+i∧x.o=o
 |[],i0,id0,i,o,h=>by simp at h
 |x::r,i0,id0,0,o,h=>by
  simp at h;subst h
  exact⟨{i:=i0,id:=id0,o:=x},by simp[uU],rfl,rfl⟩
 |x::r,i0,id0,i+1,o,h=>by
  obtain⟨y,h1,h2,h3⟩:=Bp r (i0+1) (bif makes E x.op then id0+1 else id0) i o (by simpa using h)
  exact⟨y,by simp only[uU];exact List.mem_cons_of_mem _ h1,by omega,h3⟩
theorem w9: ∀(l:List Oper) (i0 id0:Nat),(uU E i0 id0 l).Pairwise fun x y=>x.i<y.i
 |[],i0,id0=> .nil
 |o::r,i0,id0=>by
  simp only[uU]
  refine List.Pairwise.cons (fun y hy=> ?_) (w9 r _ _)
  have:=(uf r _ _ y hy).1
  show i0<y.i
  omega
theorem Fi: ∀(l:List zA),IL ops bef l=true→l.Pairwise fun x y=>zz bef y.i x.i=true∨x.o.apart ops y.o=true
 |[],_=> .nil
 |x::r,h=>by
  simp only[IL,Bool.and_eq_true,List.all_eq_true,Bool.or_eq_true]at h
  exact List.Pairwise.cons (fun y hy=>h.1 y hy) (Fi r h.2)
def Inv (E:Env) (σ0:Sg) (st0:St E.T) (w0:World) (k:Nat) (fr:Fr E.T) (st:St E.T) (a:Act) (w:World):Prop:=
 ∃σ,Mf σ0 σ st0 st w0 w∧cj E σ st w fr a∧st0.length+k≤st.length∧ ∀id,st0.length≤id→id<st0.length+k→aR st id=some .dead→k9 (σ id)=none
theorem JK (HS:Sound P E) (HC:mN P E S) {x:zA} {e:sB E.T} {en:Option zB} {σ0:Sg} {st0:St E.T} {w0:World} {k:Nat} (hinv:Inv E σ0 st0 w0 k fr st a w) (h:kN S fx ops x fr st e en) (hi:ops[x.i]? =some x.o)
  (gm:makes E x.o.op=true→st0.length≤x.id∧x.id<st0.length+k)
  (hK: ∀fr1 st1 a' w',cM E fr st x.o.dst e= .next fr1 st1→Inv E σ0 st0 w0 k fr1 st1 a' w'→K a' w')
  (hP: ∀v fr1 st1 σ' w' u,cM E fr st x.o.dst e= .panic v fr1 st1→Mf σ0 σ' st0 st1 w0 w'→cj E σ' st1 w' fr1 a→a8 E σ' st1 w' (MB σ' st1) v u→Q (.panic [{v:=u,recovered:=false}]) a w'):
  wpOp P ops Q x.i K a w:=by
 obtain⟨σ,m,hfr,hlen,hdead⟩:=hinv
 unfold wpOp
 rw[hi]
 have hwant: ∀{b:Bool},lf E ops.toList x.o fr=some b→Region.wanted x.o (yielded ops a.tmps)=b:=by
  intro b hb
  unfold lf at hb
  unfold Region.wanted
  split at hb
  ·rename_i hg;rw[hg];cases hb;rfl
  ·rename_i j c hg
   rw[hg]
   split at hb
   ·rename_i t ht
    split at hb
    ·rename_i c' hc
     have hs:=CO hfr hc
     unfold pM at ht
     split at ht
     ·rename_i oj hj
      rw[cX,Array.getElem?_toList]at hj
      have hy:yielded ops a.tmps j=some c':=by
       unfold yielded
       rw[hj]
       simp only[Option.bind_some,ht,hs]
      simp only
      rw[hy]
      cases hb
      have: ∀(p q:Bool),(some p==some q)=(p==q):=by intro p q;cases p<;>cases q<;>rfl
      exact this c' c
     ·cases ht
    ·rename_i hn
     cases hb
     show(yielded ops a.tmps j==some c)=false
     rw[HA hfr ht hn];rfl
    ·cases hb
   ·cases hb
 rcases h with⟨h1,h2,h3,h4⟩|⟨h1,h2,h3⟩
 ·simp only
  rw[if_pos (hwant h1)]
  left
  cases hm:makes E x.o.op with
  |false=>
   refine Vg HS HC m.rep hfr hm h2 ?_
   cases hap:cM E fr st x.o.dst e with
   |next fr1 st1=>
    intro σ' w' a' m' hfr'
    refine hK fr1 st1 a' w' hap ⟨σ',m.trans m',hfr',Nat.le_trans hlen m'.stay.len,fun id h5 h6 h7=> ?_⟩
    have hlt:id<st.length:=by omega
    have hget:aR st id=some st[id]:=by rw[cX];exact List.getElem?_eq_getElem hlt
    obtain⟨ob',h8,t,_⟩:=m'.stay.kind id _ hget
    rw[h7]at h8
    cases h8
    have hd:st[id]= .dead:=by
     generalize st[id]=ob at t
     cases t;rfl
    rw[hd]at hget
    rw[m'.stay.same id _ hget rfl]
    exact hdead id h5 h6 hget
   |panic v fr1 st1=>
    intro σ' w' u m' hfr' hv
    exact hP v fr1 st1 σ' w' u hap (m.trans m') hfr' hv
  |true=>
   obtain⟨h5,h6⟩:=gm hm
   have hM:=uK (by
    generalize x.o.op=oo at hm
    cases oo<;>first|rfl|cases hm) h2
   have hdd:aR st x.id=some .dead:=by
    rcases hM.iO with h|⟨ob,_,h,_⟩
    ·exfalso
     generalize x.o.op=oo at hm h2
     cases oo with
     |alloc t=>
      simp only[eV]at h2
      split at h2
      ·cases h2
      ·obtain⟨_,h2⟩:=Tree.aO h2;cases h2;cases h
     |box t v=>simp only[eV]at h2;obtain⟨_,h2⟩:=Tree.aO h2;cases h2;cases h
     |makeSlice t l c=>
      simp only[eV]at h2
      obtain⟨p,_,h2⟩:=Tree.aA h2
      split at h2
      ·obtain⟨_,h2⟩:=Tree.aO h2;cases h2;cases h
      ·cases h2
     |convert s d y=>
      simp only[eV]at h2
      split at h2
      ·split at h2
       ·obtain⟨_,h2⟩:=Tree.aO h2;cases h2;cases h
       ·cases h2
      ·have hs: ∃e',E.tk d= .data (.slice e'):=by
        simp only[makes,yl]at hm
        split at hm
        ·exact⟨_,by assumption⟩
        ·cases hm
       obtain⟨e',he'⟩:=hs
       simp only[gg,he']at h2
       cases h2
     |_=>cases hm
    ·exact h
   refine Ri HS m.rep hfr hm h2 (hdead _ h5 h6 hdd) m h5 (fun σ' w' a' v ob g1 g2 g3 g4 m' hn hfr'=> ?_)
   have hap:cM E fr st x.o.dst e= .next (put E fr x.o.dst v) (dk st x.id ob):=by
    rw[zo g1 g3 g4,g2];rfl
   refine hK _ _ a' w' hap ⟨σ',m',hfr',by rw[dL];exact hlen,fun id h7 h8 h9=> ?_⟩
   by_cases hidx:id=x.id
   ·subst hidx
    rw[bF,if_pos ⟨rfl,bT hdd⟩]at h9
    cases h9
    rcases hM.iO with h|⟨ob2,h10,_,h11,_⟩
    ·rw[g2]at h;cases h
    ·rw[g2]at h10;cases h10;cases h11
   ·rw[bF,if_neg (fun h=>hidx h.1.symm)]at h9
    rw[hn id hidx]
    exact hdead id h7 h8 h9
 ·subst h2
  simp only
  rw[if_neg (by rw[hwant h1];simp)]
  exact hK _ _ _ _ rfl ⟨σ,m,fm hfr x.o.dst (.jo [] [] .nil),hlen,hdead⟩
theorem LS: ∀(l:List Oper) {fr:Fr E.T},cj E σ st w fr a→cj E σ st w (nZ E fr l) a
 |[],fr,h=>h
 |o::r,fr,h=>by
  simp only[nZ]
  refine LS r ⟨?_,?_⟩
  ·cases hd:o.dst with
   |none=>exact h.s
   |some t=>
    have: ∀{ds:List (az E.T)} {us:List Value},aW E σ st w (MB σ st) ds us→ ∀t,aW E σ st w (MB σ st) (dk ds t .undef) us:=by
     intro ds us h
     induction ds generalizing us with
     |nil=>intro t;exact h
     |cons v r ih=>
      intro t
      cases h with
      |cons v r u us h h'=>
       cases t with
       |zero=>exact .cons _ _ _ _ (.undef _) h'
       |succ t=>exact .cons _ _ _ _ h (ih h' t)
    exact this h.s t
  ·cases hd:o.dst<;>exact h.d
theorem Lj {l:Array Bool} {i j:Nat} {d:Bool}:(l.setIfInBounds i true).getD j d=if i=j∧i<l.size then true else l.getD j d:=by
 rw[Array.getD_eq_getD_getElem?,Array.getD_eq_getD_getElem?,Array.getElem?_setIfInBounds]
 by_cases h:i=j
 ·subst h
  by_cases h2:i<l.size
  ·simp[h2]
  ·simp[h2]
 ·simp[h]
theorem Vo (HS:Sound P E) (HC:mN P E S) {σ0:Sg} {st0:St E.T} {w0:World} {k:Nat} {out:oA E} (hedge:wg 0 ops.toList=true) (hk:k=xR E ops.toList)
  (hpair:(uU E 0 st0.length ops.toList).Pairwise fun x y=>zz (wL [] ops.toList) y.i x.i=true∨x.o.apart ops y.o=true) (hp:GX E σ0 st0 w0 Q out):
  ∀(fuel:Nat) (listed:Array Bool) (l:List zA) {fr:Fr E.T} {st:St E.T} {a:Act} {w:World} {log:List (Nat×zB)},listed.size=ops.size→(∀x,x∈l↔x∈uU E 0 st0.length ops.toList∧listed.getD x.i true=false)→l.Sublist (uU E 0 st0.length ops.toList)→l.length≤fuel→
   (∀j o,listed.getD j false=true→ops.toList[j]? =some o→ ∀e∈o.after.toList,Region.binds .any e=true→listed.getD e.on false=true)→
   oe S fx (wL [] ops.toList) ops l fr st out log→Inv E σ0 st0 w0 k fr st a w→wpAny P .any ops Q fuel listed a w:=by
 intro fuel
 have done: ∀(listed:Array Bool) (l:List zA),listed.size=ops.size→(∀x,x∈l↔x∈uU E 0 st0.length ops.toList∧listed.getD x.i true=false)→l.Sublist (uU E 0 st0.length ops.toList)→Region.ready .any ops listed=[]→l=[]:=by
  intro listed l hsz hmem hsub hr
  cases l with
  |nil=>rfl
  |cons x r=>
   exfalso
   obtain⟨h1,h2⟩:=(hmem x).1 (by simp)
   obtain⟨_,h3,_⟩:=uf _ _ _ x h1
   rw[Nat.sub_zero]at h3
   have:x.i∈Region.ready .any ops listed:=by
    rw[mem_ready]
    refine⟨h2,x.o,by rw[←Array.getElem?_toList];exact h3,fun e he hb=> ?_⟩
    have hlt:=Gm _ 0 _ _ hedge h3 e (by simpa using he) hb
    rw[Nat.zero_add]at hlt
    have hxi:=(List.getElem?_eq_some_iff.1 h3).1
    rw[Array.length_toList]at hxi
    cases hq:listed.getD e.on false with
    |true=>rfl
    |false=>
     have hq':listed.getD e.on true=false:=by
      have hs:e.on<listed.size:=by omega
      simp[hs]at hq⊢
      exact hq
     obtain⟨z,hz1,hz2,hz3⟩:=Bp (E:=E) ops.toList 0 st0.length e.on _ (List.getElem?_eq_getElem (by rw[Array.length_toList];omega))
     rw[Nat.zero_add]at hz2
     have hz:z∈x::r:=(hmem z).2 ⟨hz1,by rw[hz2];exact hq'⟩
     have hso:=List.Pairwise.sublist hsub (w9 (E:=E) ops.toList 0 st0.length)
     rcases List.mem_cons.1 hz with rfl|hz
     ·omega
     ·have:=(List.pairwise_cons.1 hso).1 z hz
      omega
   rw[hr]at this
   cases this
 have last: ∀{fr:Fr E.T} {st:St E.T} {a:Act} {w:World} {log:List (Nat×zB)},oe S fx (wL [] ops.toList) ops [] fr st out log→Inv E σ0 st0 w0 k fr st a w→Q .normal a w:=by
  intro fr st a w log hg hinv
  cases hg
  obtain⟨σ,m,hfr,_⟩:=hinv
  exact hp σ w a m hfr
 induction fuel with
 |zero=>
  intro listed l fr st a w log hsz hmem hsub hl hc hg hinv
  have hl0:l=[]:=List.eq_nil_of_length_eq_zero (Nat.le_zero.1 hl)
  subst hl0
  refine⟨?_,last hg hinv⟩
  cases hr:Region.ready .any ops listed with
  |nil=>rfl
  |cons i r=>
   exfalso
   have:i∈Region.ready .any ops listed:=by rw[hr];simp
   rw[mem_ready]at this
   obtain⟨h1,o,h2,h3⟩:=this
   obtain⟨z,hz1,hz2,hz3⟩:=Bp (E:=E) ops.toList 0 st0.length i o (by rw[Array.getElem?_toList];exact h2)
   rw[Nat.zero_add]at hz2
   have:=(hmem z).2 ⟨hz1,by rw[hz2];exact h1⟩
   cases this
 |succ fuel ih=>
  intro listed l fr st a w log hsz hmem hsub hl hc hg hinv
  refine⟨fun hr=> ?_,fun i hi=> ?_⟩
  ·have:=done listed l hsz hmem hsub hr
   subst this
   exact last hg hinv
  ·rw[mem_ready]at hi
   obtain⟨h1,o,h2,h3⟩:=hi
   have h2':ops.toList[i]? =some o:=by rw[Array.getElem?_toList];exact h2
   obtain⟨y,hy1,hy2,hy3⟩:=Bp (E:=E) ops.toList 0 st0.length i o h2'
   rw[Nat.zero_add]at hy2
   have hyl:y∈l:=(hmem y).2 ⟨hy1,by rw[hy2];exact h1⟩
   obtain⟨pre,post,rfl⟩:=List.append_of_mem hyl
   have hso:=List.Pairwise.sublist hsub (w9 (E:=E) ops.toList 0 st0.length)
   have hpa:=List.Pairwise.sublist hsub hpair
   have hni:i<listed.size:=by
    have:=(List.getElem?_eq_some_iff.1 h2').1
    rw[Array.length_toList]at this
    omega
   have hunl: ∀x,x∈pre++y::post→listed.getD x.i false=false:=by
    intro x hx
    have:=((hmem x).1 hx).2
    have hxs:x.i<listed.size:=by
     rcases Nat.lt_or_ge x.i listed.size with h|h
     ·exact h
     ·simp[Array.getD_eq_getD_getElem?,Array.getElem?_eq_none h]at this
    simp[hxs]at this⊢
    exact this
   have hnb: ∀x∈pre,zz (wL [] ops.toList) y.i x.i=false∧x.o.apart ops y.o=true:=by
    intro x hx
    have hb:zz (wL [] ops.toList) y.i x.i=false:=by
     cases hq:zz (wL [] ops.toList) y.i x.i with
     |false=>rfl
     |true=>
      have:=FV hedge (L:=fun j=>listed.getD j false=true) (fun j o' hj ho' e he hb=>hc j o' hj ho' e he hb) (i+1) i (by omega) o h2' (fun e he hb=>h3 e (by simpa using he) hb) x.i (by rw[←hy2];exact hq)
      have h5:=hunl x (by simp[hx])
      rw[this]at h5;cases h5
    refine⟨hb,?_⟩
    have:=(List.pairwise_append.1 hpa).2.2 x hx y (by simp)
    rw[hb]at this
    exact this.resolve_left (by simp)
   have hdst: ∀x∈pre++y::post,∃o∈ops.toList,o.dst=x.o.dst:=by
    intro x hx
    obtain⟨_,h5,_⟩:=uf _ _ _ x ((hmem x).1 hx).1
    exact⟨x.o,List.mem_of_getElem? h5,rfl⟩
   have hyo:ops[y.i]? =some y.o:=by rw[hy2,hy3];exact h2
   have hyid:makes E y.o.op=true→st0.length≤y.id∧y.id<st0.length+k:=by
    intro hm
    have:=(uf _ _ _ y hy1).2.2 hm
    rw[hk];exact this
   have hmem': ∀x,x∈pre++post↔x∈uU E 0 st0.length ops.toList∧(listed.setIfInBounds i true).getD x.i true=false:=by
    intro x
    rw[Lj]
    constructor
    ·intro hx
     have hx2:x∈pre++y::post:=by
      rcases List.mem_append.1 hx with hx|hx
      ·simp[hx]
      ·simp[hx]
     obtain⟨h5,h6⟩:=(hmem x).1 hx2
     refine⟨h5,?_⟩
     have hne:i≠x.i:=by
      rw[←hy2]
      have hpw:=List.pairwise_append.1 hso
      rcases List.mem_append.1 hx with hx|hx
      ·have:=hpw.2.2 x hx y (by simp);omega
      ·have:=(List.pairwise_cons.1 hpw.2.1).1 x hx;omega
     rw[if_neg (fun h=>hne h.1)]
     exact h6
    ·rintro⟨h5,h6⟩
     by_cases hne:i=x.i
     ·rw[if_pos ⟨hne,hni⟩]at h6;cases h6
     ·rw[if_neg (fun h=>hne h.1)]at h6
      have:=(hmem x).2 ⟨h5,h6⟩
      rcases List.mem_append.1 this with h|h
      ·simp[h]
      ·rcases List.mem_cons.1 h with rfl|h
       ·exact absurd hy2.symm hne
       ·simp[h]
   have hsub':(pre++post).Sublist (uU E 0 st0.length ops.toList):=List.Sublist.trans (List.Sublist.append (List.Sublist.refl pre) (List.sublist_cons_self y post)) hsub
   have hlen':(pre++post).length≤fuel:=by simp at hl⊢;omega
   have hc': ∀j o,(listed.setIfInBounds i true).getD j false=true→ops.toList[j]? =some o→ ∀e∈o.after.toList,Region.binds .any e=true→(listed.setIfInBounds i true).getD e.on false=true:=by
    intro j o' hj ho' e he hb
    rw[Lj]at hj⊢
    by_cases hij:i=j
    ·subst hij
     rw[h2']at ho'
     cases ho'
     have:=h3 e (by simpa using he) hb
     by_cases h:i=e.on∧i<listed.size
     ·rw[if_pos h]
     ·rw[if_neg h];exact this
    ·rw[if_neg (fun h=>hij h.1)]at hj
     have:=hc j o' hj ho' e he hb
     by_cases h:i=e.on∧i<listed.size
     ·rw[if_pos h]
     ·rw[if_neg h];exact this
   have hsz':(listed.setIfInBounds i true).size=ops.size:=by simpa using hsz
   rw[←hy2]
   rcases front pre hg hnb hdst with⟨e,en,fr1,st1,log1,g1,g2,g3,_,_⟩|⟨v,e,en,fr1,st1,g1,g2,g3,_⟩|⟨g1,g2⟩
   ·refine JK HS HC hinv g1 hyo hyid (fun fr1' st1' a' w' hap hinv'=> ?_) (fun v fr1' st1' σ' w' u hap=>by rw[g2]at hap;cases hap)
    rw[g2]at hap
    cases hap
    rw[hy2]
    exact ih _ _ hsz' hmem' hsub' hlen' hc' g3 hinv'
   ·refine JK HS HC hinv g1 hyo hyid (fun fr1' st1' a' w' hap=>by rw[g2]at hap;cases hap) (fun v' fr1' st1' σ' w' u hap m' hfr' hv=> ?_)
    rw[g2]at hap
    cases hap
    rw[g3]at hp
    exact hp σ' w' a u m' (LS _ hfr') hv
   ·obtain⟨e,v,en,hd,hap⟩:=Px (E:=E) (S:=S) (fx:=fx) (all:=ops) g1 fr st
    refine JK HS HC hinv hd hyo hyid (fun fr1' st1' a' w' hap' hinv'=> ?_) (fun v' fr1' st1' σ' w' u hap'=>by rw[hap]at hap';cases hap')
    rw[hap]at hap'
    cases hap'
    rw[hy2]
    exact ih _ _ hsz' hmem' hsub' hlen' hc' (g2 v) hinv'
theorem Ut: ∀(k:Nat) {σ:Sg} {st:St E.T} {w:World},br E σ st w→ ∃σ',Mv σ σ' st (st++List.replicate k .dead) w w∧ ∀id,st.length≤id→id<st.length+k→k9 (σ' id)=none
 |0,σ,st,w,hst=>⟨σ,by simpa using Mv.refl hst,fun id h1 h2=>by omega⟩
 |k+1,σ,st,w,hst=>by
  have m1:=Mv.KF hst (.tuple #[]) (.dead:Obj E.T) rfl (fun _ _ _ _=> .dead _)
  obtain⟨σ',m2,h⟩:=Ut k m1.rep
  refine⟨σ',?_,fun id h1 h2=> ?_⟩
  ·have:=m1.trans m2
   rw[List.append_assoc]at this
   rw[List.replicate_succ]
   exact this
  ·by_cases gm:id=st.length
   ·subst gm
    rw[m2.name _ (by simp),dH]
    rfl
   ·exact h id (by simp;omega) (by simp;omega)
theorem Nq (HS:Sound P E) (HC:mN P E S) (hmix:P.follows .mixedOrders=true) {id:Nat} {out:oA E} (hst:br E σ st w) (hfr:cj E σ st w fr a) (h:(JJ E S ops fr st).get=some out) (hp:GX E σ st w Q out):
  (Code.region id ops true).wp P Q a w:=by
 unfold JJ at h
 obtain⟨hb,h⟩:=Tree.aO h
 rw[Bool.and_eq_true]at hb
 obtain⟨log,hg,_⟩:=Ds _ h
 rw[ra]at hg
 refine wp_region_any hmix ?_
 have m0:=Mv.drawn hst (w.drawn+1)
 obtain⟨σ',m1,hno⟩:=Ut (xR E ops.toList) m0.rep
 have m:=m0.trans m1
 refine Vo HS HC hb.1 rfl (Fi _ hb.2) hp ops.size _ _ (by simp) (fun x=> ?_) (List.Sublist.refl _) ?_ (fun j o hj=> ?_) hg ⟨σ',m.f,hfr.mv m,by simp,fun id h1 h2 _=>hno id h1 h2⟩
 ·constructor
  ·intro hx
   refine⟨hx,?_⟩
   obtain⟨_,h3,_⟩:=uf _ _ _ x hx
   have:=(List.getElem?_eq_some_iff.1 h3).1
   rw[Array.length_toList,Nat.sub_zero]at this
   simp[this]
  ·exact fun hx=>hx.1
 ·have: ∀(l:List Oper) (i0 id0:Nat),(uU E i0 id0 l).length=l.length:=by
   intro l
   induction l with
   |nil=>intro i0 id0;rfl
   |cons o r ih=>intro i0 id0;simp[uU,ih]
  rw[this,Array.length_toList]
  exact Nat.le_refl _
 ·exfalso
  rw[Array.getD_eq_getD_getElem?,Array.getElem?_replicate]at hj
  split at hj<;>cases hj
end
end
open Go
noncomputable section
section
variable {P:Program} {E:Env} {w w' w'':World} {σ σ' σ'':Sg} {st st' st'':St E.T} {M M':Nat→Prop}
variable {a:Act} {fr fr':Fr E.T}
theorem iB.Um (j:Nat): ∀(j:Nat) {ts:List Ty} {fs:List (az E.T)} {cs:List Value},iB E σ st w M ts fs cs→ ∀{t:Ty} {v:az E.T},aR ts j=some t→aR fs j=some v→
  ∃c,VT E σ st w M t v c∧ ∀{σ':Sg} {st':St E.T} {w':World} {M':Nat→Prop} (v':az E.T),Kept M M' w w'→(∀k∈bh fs,ij σ σ' st st' k)→VT E σ' st' w' M' t v' c→iB E σ' st' w' M' ts (dk fs j v') cs
 |_,_,_,_,.nil,_,_,h,_=>by cases h
 |0,_,_,_,.cons t ts v r c1 c2 h h',_,_,ht,hv=>by
  simp only[dJ,cT,cU,Option.some.injEq]at ht hv
  subst ht;subst hv
  exact⟨c1,h,fun v' kp hs hv'=> .cons _ _ _ _ _ _ hv' (iB.aM kp h' (fun k hk=>hs k (by simp[bh,hk])))⟩
 |j+1,_,_,_,.cons t ts v r c1 c2 h h',_,_,ht,hv=>by
  simp only[dJ,cT,cU]at ht hv
  obtain⟨c,hc,hf⟩:=iB.Um 0 j h' ht hv
  exact⟨c,hc,fun v' kp hs hv'=> .cons _ _ _ _ _ _ (VT.aM kp h (fun k hk=>hs k (by simp[bh,hk]))) (hf v' kp (fun k hk=>hs k (by simp[bh,hk])) hv')⟩
theorem I6 {k:Nat} {e:Ty}: ∀(p:List Nat) {ot:Option Ty} {t:Ty} {v v':az E.T} {cs:List Value},VT E σ st w M t v cs→(∀t0,ot=some t0→t0=t)→CZ E k e p ot v=some v'→
  ∃a,∀{σ':Sg} {st':St E.T} {w':World} {M':Nat→Prop},σ' k= .slice a 0 0→aR st' k=some (.arr .live e [])→Kept M M' w w'→(∀j∈refs v,ij σ σ' st st' j)→
   ∃t',dX t'=dX t∧(∀t0,ot=some t0→t'=t)∧VT E σ' st' w' M' t' v' cs
 |[],ot,t,v,v',cs,h,ho,hp=>by
  cases v with
  |bm=>
   cases h with
   |bm e0 a=>
    refine⟨a,fun h1 h2 kp hs=> ?_⟩
    cases ot with
    |none=>
     cases hp
     refine⟨.slice e,rfl,?_,?_⟩
     ·intro t0 h;cases h
     have:=VT.own (σ:= ‹Sg›) (w:= ‹World›) (M:= ‹Nat→Prop›) k .live e [] h2
     rwa [h1]at this
    |some t0=>
     have ht0:=ho t0 rfl
     subst ht0
     simp only[CZ]at hp
     cases hb:jn (.slice e0) (.slice e)with
     |false=>rw[hb]at hp;cases hp
     |true=>
      rw[hb]at hp
      cases hp
      have:=dP hb
      cases this
      refine⟨_,rfl,fun _ _=>rfl,?_⟩
      have:=VT.own (σ:= ‹Sg›) (w:= ‹World›) (M:= ‹Nat→Prop›) k .live e [] h2
      rwa [h1]at this
  |_=>simp only[CZ]at hp;cases hp
 |j::p,ot,t,v,v',cs,h,ho,hp=>by
  cases v with
  |agg i fs=>
   cases h with
   |agg i fs cs hs=>
    simp only[CZ]at hp
    split at hp
    ·rename_i tj vj htj hvj
     split at hp
     ·rename_i vj' hvj'
      cases hp
      obtain⟨c,hc,hf⟩:=iB.Um 0 j hs htj hvj
      obtain⟨a,ha⟩:=I6 p hc (fun t0 h=>by cases h;rfl) hvj'
      refine⟨a,fun h1 h2 kp hsm=> ?_⟩
      have hsm': ∀k∈bh fs,ij _ _ _ _ k:=fun k hk=>hsm k (by simpa [refs]using hk)
      have hmem: ∀(l:List (az E.T)) (j:Nat) (v:az E.T),aR l j=some v→ ∀k∈refs v,k∈bh l:=by
       intro l
       induction l with
       |nil=>intro j v h;cases h
       |cons x l ih=>
        intro j v h k hk
        cases j with
        |zero=>simp only[dJ,cT,cU,Option.some.injEq]at h;subst h;simp[bh,hk]
        |succ j=>simp[bh,ih j v h k hk]
      obtain⟨t',h3,h4,h5⟩:=ha h1 h2 kp (fun q hq=>hsm' q (hmem fs j vj hvj q hq))
      rw[h4 tj rfl]at h5
      exact⟨_,rfl,fun _ _=>rfl,.agg i _ cs (hf _ kp hsm' h5)⟩
     ·cases hp
    ·cases hp
  |_=>simp only[CZ]at hp;cases hp
theorem iB.YP {f:az E.T→az E.T} (hf: ∀t v c,VT E σ st w M t v c→VT E σ st w M t (f v) c): ∀(j:Nat) {ts:List Ty} {fs:List (az E.T)} {cs:List Value},iB E σ st w M ts fs cs→iB E σ st w M ts (dk fs j (f (nth fs j .undef))) cs
 |_,_,_,_,.nil=> .nil
 |0,_,_,_,.cons t ts v r c1 c2 h h'=> .cons _ _ _ _ _ _ (hf _ _ _ h) h'
 |j+1,_,_,_,.cons t ts v r c1 c2 h h'=> .cons _ _ _ _ _ _ h (iB.YP hf j h')
theorem VT.pO (ok:dq E) (hst:br E σ st w): ∀(p:List Nat) {t:Ty} {v:az E.T} {cs:List Value},VT E σ st w (MB σ st) t v cs→VT E σ st w (MB σ st) t (D.pO E st p v) cs
 |[],t,v,cs,h=>VT.yF ok hst 0 h
 |j::p,t,v,cs,h=>by
  cases h with
  |agg i fs cs hs=>unfold D.pO;exact .agg i _ cs (iB.YP (fun t v c h=>VT.pO ok hst p h) j hs)
  |val t x cs h=>unfold D.pO;exact .val t x cs h
  |bm e a=>unfold D.pO;exact .bm e a
  |own k l e xs h=>unfold D.pO;exact .own k l e xs h
  |dD e v h=>unfold D.pO;exact .dD e v h
theorem a8.pO (ok:dq E) (hst:br E σ st w) (p:List Nat) {v:az E.T} {u:Value} (h:a8 E σ st w (MB σ st) v u):a8 E σ st w (MB σ st) (D.pO E st p v) u:=by
 cases p with
 |nil=>exact a8.yF ok hst 0 h
 |cons j p=>
  cases h with
  |data t d cs h=>exact .data t _ cs (VT.pO ok hst (j::p) h)
  |undef=>exact .undef _
  |ptr o p b h hl=>exact .ptr o p b h hl
  |cQ=>exact .cQ
  |eg t x a cs h hm=>exact .eg t x a cs h hm
  |jo vs us h=>exact .jo vs us h
  |fn f vs us h=>exact .fn f vs us h
  |ei=>exact .ei
  |fD t d v h=>exact .fD t d v h
  |ct=>exact .ct
theorem NF (p:List Nat) {d:az E.T} (h:Ev E d=true):pO E st p d=d:=by
 cases p with
 |nil=>exact LM 0 h
 |cons j p=>cases d<;>first|(cases h;done)|rfl
theorem aW.NZ: ∀(t:Nat) {ds:List (az E.T)} {us:List Value},aW E σ st w M ds us→ ∀{v':az E.T},(∀u,a8 E σ st w M (D.nth ds t .undef) u→a8 E σ st w M v' u)→aW E σ st w M (D.dk ds t v') us
 |_,_,_,.nil,_,_=> .nil
 |0,_,_,.cons v r u us h h',_,hv=> .cons _ _ _ _ (hv _ h) h'
 |t+1,_,_,.cons v r u us h h',_,hv=> .cons _ _ _ _ h (aW.NZ t h' hv)
theorem aW.IJ: ∀(t:Nat) {ds:List (az E.T)} {us:List Value},aW E σ st w M ds us→ ∀{v:az E.T} {u:Value},us[t]? =some u→a8 E σ st w M v u→aW E σ st w M (D.dk ds t v) us
 |_,_,_,.nil,_,_,_,_=> .nil
 |0,_,_,.cons v r u us h h',_,_,hu,hv=>by
  simp only[List.getElem?_cons_zero,Option.some.injEq]at hu
  subst hu
  exact .cons _ _ _ _ hv h'
 |t+1,_,_,.cons v r u us h h',_,_,hu,hv=> .cons _ _ _ _ h (aW.IJ t h' (by simpa using hu) hv)
theorem Mv.box (hst:br E σ st w) {o:Nat} {ro:Bool} {c c':az E.T} (ho:aR st o=some (.box ro c))
  (h1: ∀b cc el fr t,σ o= .pointer (some ⟨b,0,none⟩)→w.heap[b]? =some (.cells cc el fr)→VT E σ st w (MB σ st) t c cc.toList→ ∃t',VT E σ st w (MB σ st) t' c' cc.toList) (h2:Ev E c=true→c'=c):
  Mv σ σ st (D.dk st o (.box ro c')) w w:=by
 have hM: ∀b,MB σ (D.dk st o (.box ro c')) b→MB σ st b:=fun b hb=>ua (ob':= .box ro c') ho (fun h=>h) hb
 have hsame: ∀k,ij σ σ st (D.dk st o (.box ro c')) k:=fun k=>xC ho (qQ.box ro ro c c') k
 refine Mv.dk hst ho (qQ.box ro ro c c') id (fun h=>h) w rfl rfl rfl rfl (fun _ _=>rfl) ?_
 have hob:=cZ.aM (Kept.weaken (M':=MB σ (D.dk st o (.box ro c'))) hM) (fun _ _=>rfl) (fun k _=>hsame k) (hst.obj o _ ho)
 have hob0:=hst.obj o _ ho
 have h1':=fun b cc el fr t=>h1 b cc el fr t
 clear h1
 generalize σ o=u at hob hob0 h1'⊢
 cases hob0 with
 |box ro d b cc el fr hh hf hc=>
  refine .box ro _ b cc el fr hh hf ?_
  rcases hc with⟨t,ht⟩|⟨hs,v,hv,hone,hr⟩
  ·obtain⟨t',ht'⟩:=h1' b cc el fr t rfl hh ht
   exact .inl ⟨t',VT.aM (Kept.weaken hM) ht' (fun k _=>hsame k)⟩
  ·have e1:=h2 hs
   refine .inr ⟨by rw[e1];exact hs,v,hv,hone,?_⟩
   have:=a8.aM (Kept.weaken hM) hr (fun k _=>hsame k)
   rw[show c=c' from e1.symm]at this
   exact this
theorem Ap {k:Nat} {e:Ty} {p:List Nat} {v v':az E.T} (h:CZ E k e p none v=some v'):Ev E v=false:=by
 cases p with
 |nil=>cases v<;>first|rfl|(simp only[CZ]at h;cases h)
 |cons j p=>cases v<;>first|rfl|(simp only[CZ]at h;cases h)
theorem NY {α:Type}: ∀{l:List α} {n:Nat} {v:α},l.length≤n→dk l n v=l
 |[],n,v,_=>by cases n<;>rfl
 |a::l,0,v,h=>absurd h (by simp)
 |a::l,n+1,v,h=>by simp only[jJ,gF,gG];rw[NY (by simpa using h)]
theorem Tw (ok:dq E) (hst:br E σ st w) (hfr:cj E σ st w fr a) {x:Qk} (h:NQ E x fr st=some (fr',st')): ∃σ',Mf σ σ' st st' w w∧cj E σ' st' w fr' a:=by
 cases x with
 |ZH o=>
  simp only[NQ,Option.some.injEq]at h
  cases h
  obtain⟨m,_⟩:=fS [o] hst
  exact⟨σ,m.f,hfr.mv m⟩
 |und t=>
  simp only[NQ,Option.some.injEq]at h
  cases h
  refine⟨σ,Mf.refl hst,?_,hfr.d⟩
  by_cases hlt:t<fr.s.length
  ·obtain⟨u,hu,_⟩:=aW.get hfr.s (nH (d:= .undef) hlt)
   exact aW.IJ t hfr.s hu (.undef _)
  ·have:dk fr.s t .undef=fr.s:=NY (Nat.le_of_not_lt hlt)
   simp only[this]
   exact hfr.s
 |rd t=>
  simp only[NQ]at h
  split at h
  ·rename_i o hv
   split at h
   ·rename_i ro ty x ho
    simp only[Option.some.injEq]at h
    cases h
    have hlt:t<fr.s.length:=by
     rcases Nat.lt_or_ge t fr.s.length with h|h
     ·exact h
     ·exfalso
      rw[kt,List.getD_eq_getElem?_getD,List.getElem?_eq_none h]at hv
      cases hv
    obtain⟨u,hu,hru⟩:=aW.get hfr.s (nH (d:= .undef) hlt)
    rw[hv]at hru
    have hob:=hst.obj o _ ho
    have hr:cZ E σ (dk st o (.box true (.val ty x))) w (MB σ (dk st o (.box true (.val ty x)))) (σ o) (.box true (.val ty x)):=by
     have:=cZ.aM (σ':=σ) (st':=dk st o (.box true (.val ty x))) (Kept.weaken (M':=MB σ (dk st o (.box true (.val ty x)))) (fun b h=>ua ho (fun h=>by cases h) h)) (fun g _=>rfl) (fun j hj=>xC ho (.box ro true (.val ty x) (.val ty x)) j) hob
     generalize σ o=s at this
     cases this with
     |box ro c b cc el fr h1 h2 h3=>exact .box true _ b cc el fr h1 h2 h3
    obtain⟨hmv,hnot⟩:=Mv.calm hst ho (.box ro true (.val ty x) (.val ty x)) rfl rfl hr
    refine⟨σ,hmv.f,?_,(hfr.mv hmv).d⟩
    refine aW.IJ t (hfr.mv hmv).s hu ?_
    cases hru with
    |data t' d cs hv=>cases hv
    |ptr o p b hb hlo=>
     rcases JE ok (p:=[]) (v:= .val ty x) (ob:= .box true (.val ty x)) rfl (fun h=>by cases h) hr hb with⟨t',c',hvt,hcell⟩|⟨y,_,hs,_⟩
     ·cases hvt with
      |val _ _ _ hc=>exact .eg ty x _ c' hc ⟨b,E.cE [],rfl,hnot b hb,lO hst ho rfl hb,fun q v hq=>hcell q v hq⟩
     ·cases hs
   ·simp only[Option.some.injEq]at h
    cases h
    exact⟨σ,Mf.refl hst,hfr⟩
  ·simp only[Option.some.injEq]at h
   cases h
   exact⟨σ,Mf.refl hst,hfr⟩
 |yF wh p=>
  simp only[NQ,Option.some.injEq]at h
  generalize hks:refs (UL E p (IH E wh fr st))=ks at h
  obtain⟨m,_⟩:=fS ks hst
  have hst1:=m.rep
  have hfr1:=hfr.mv m
  cases wh with
  |slot t=>
   cases h
   exact⟨σ,m.f,aW.NZ t hfr1.s (fun u hu=>a8.pO ok hst1 p hu),hfr1.d⟩
  |obj o=>
   simp only[II]at h
   split at h
   ·rename_i ro c hc
    cases h
    have hc0:IH E (.obj o) fr st=c∨ ∃c0,aR st o=some c0:=by
     right
     have hl:=bT hc
     have:(freeze E st ks).length=st.length:=by
      have:=m.stay.len
      have h2: ∀(ks:List Nat) (s:St E.T),(freeze E s ks).length=s.length:=by
       intro ks
       induction ks with
       |nil=>intro s;rfl
       |cons k r ih=>intro s;rw[freeze,ih];split<;>simp[dL]
      exact h2 ks st
     rw[this]at hl
     exact⟨st[o],by rw[cX];exact List.getElem?_eq_getElem hl⟩
    have hcc:IH E (.obj o) fr st=c:=by
     rcases hc0 with h|⟨c0,h0⟩
     ·exact h
     ·have h2: ∀(ks:List Nat) (s:St E.T) (ro:Bool) (c:az E.T),aR s o=some (.box ro c)→aR (freeze E s ks) o=some (.box ro c):=by
       intro ks
       induction ks with
       |nil=>intro s ro c h;exact h
       |cons k r ih=>
        intro s ro c h
        rw[freeze]
        refine ih _ ro c ?_
        split
        ·rename_i l e xs hk
         rw[bF]
         by_cases hko:k=o
         ·subst hko;rw[h]at hk;cases hk
         ·rw[if_neg (fun h=>hko h.1)];exact h
        ·exact h
      obtain⟨ob',h3,t3,_⟩:=m.stay.kind o c0 h0
      rw[hc]at h3
      cases h3
      cases t3 with
      |box ro0 ro' c0' c'=>
       have:=h2 ks st ro0 c0' h0
       rw[hc]at this
       cases this
       simp only[IH,h0]
    rw[hcc]
    have m2:Mv σ σ (freeze E st ks) (dk (freeze E st ks) o (.box ro (pO E (freeze E st ks) p c))) w w:=Mv.box hst1 hc (fun _ _ _ _ t _ _ h=>⟨t,VT.pO ok hst1 p h⟩) (fun hs=>NF p hs)
    exact⟨σ,(m.trans m2).f,hfr1.mv m2⟩
   ·cases h
    exact⟨σ,m.f,hfr1⟩
 |xM wh p e=>
  simp only[NQ]at h
  split at h
  ·rename_i v hv
   simp only[Option.some.injEq]at h
   cases wh with
   |slot t=>
    simp only[IH]at hv
    cases h
    have hlt:t<fr.s.length:=by
     rcases Nat.lt_or_ge t fr.s.length with h|h
     ·exact h
     ·exfalso
      rw[kt,List.getD_eq_getElem?_getD,List.getElem?_eq_none h]at hv
      cases p<;>(simp only[Option.getD_none,CZ]at hv;cases hv)
    obtain⟨u,hu,hru⟩:=aW.get hfr.s (nH (d:= .undef) hlt)
    have hns:=Ap hv
    generalize hvs:nth fr.s t .undef=vs at hv hru hns
    cases hru with
    |data ty d cs hvt=>
     obtain⟨ad,had⟩:=I6 p hvt (fun _ h=>by cases h) hv
     have mp:=Mv.KF (E:=E) hst (.slice ad 0 0) (.arr .live e []) (by cases ad<;>rfl) (fun σ' st' w' M'=> .arr .live e [] _ ⟨Nat.zero_le _,.inl ⟨⟨ad,rfl⟩,rfl⟩⟩)
     refine⟨_,mp.f,?_,(hfr.mv mp).d⟩
     refine aW.IJ t (hfr.mv mp).s hu ?_
     obtain⟨t',h3,_,h5⟩:=had (σ':=dN σ st.length (.slice ad 0 0)) (st':=st++[.arr .live e []]) (w':=w) (M':=MB (dN σ st.length (.slice ad 0 0)) (st++[.arr .live e []])) dH (by rw[ew,if_pos rfl]) mp.aM.kept (fun j hj=>mp.same j (VT.refs hvt j hj))
     have:toV ty cs=toV t' cs:=by unfold toV;rw[h3]
     rw[this]
     exact .data t' _ cs h5
    |jo vs us h=>cases p<;>(simp only[CZ]at hv;cases hv)
    |_=>cases hns
   |obj o=>
    simp only[IH]at hv
    split at hv
    ·rename_i ro c hc
     have ho:=hst.obj o _ hc
     have hlo:=bT hc
     generalize hso:σ o=so at ho
     cases ho with
     |box ro d b cc el frr hh hf hcc=>
      rcases hcc with⟨ty,hvt⟩|⟨hs,_⟩
      ·obtain⟨ad,had⟩:=I6 p hvt (fun _ h=>by cases h) hv
       have mp:=Mv.KF (E:=E) hst (.slice ad 0 0) (.arr .live e []) (by cases ad<;>rfl) (fun σ' st' w' M'=> .arr .live e [] _ ⟨Nat.zero_le _,.inl ⟨⟨ad,rfl⟩,rfl⟩⟩)
       have hc1:aR (st++[Obj.arr .live e []]) o=some (.box ro c):=by rw[ew,if_neg (Nat.ne_of_lt hlo)];exact hc
       simp only[II,hc1]at h
       cases h
       have m2:=Mv.box (c':=v) mp.rep hc1 (fun b' cc' el' fr' t hs' hh' _=>by
        rw[dG (Nat.ne_of_lt hlo),hso]at hs'
        cases hs'
        rw[hh]at hh'
        cases hh'
        obtain⟨t',_,_,h5⟩:=had (σ':=dN σ st.length (.slice ad 0 0)) (st':=st++[.arr .live e []]) (w':=w) (M':=MB (dN σ st.length (.slice ad 0 0)) (st++[.arr .live e []])) dH (by rw[ew,if_pos rfl]) mp.aM.kept (fun j hj=>mp.same j (VT.refs hvt j hj))
        exact⟨t',h5⟩) (fun hs=>by rw[Ap hv]at hs;cases hs)
       exact⟨_,(mp.trans m2).f,(hfr.mv mp).mv m2⟩
      ·rw[Ap hv]at hs;cases hs
    ·cases p<;>(simp only[CZ]at hv;cases hv)
  ·simp only[Option.some.injEq]at h
   cases h
   exact⟨σ,Mf.refl hst,hfr⟩
theorem JX (ok:dq E): ∀(l:List Qk) {fr fr':Fr E.T} {st st':St E.T} {σ:Sg},br E σ st w→cj E σ st w fr a→Qc E l fr st=some (fr',st')→ ∃σ',Mf σ σ' st st' w w∧cj E σ' st' w fr' a
 |[],_,_,_,_,σ,hst,hfr,h=>by
  simp only[Qc,Option.some.injEq]at h
  cases h
  exact⟨σ,Mf.refl hst,hfr⟩
 |x::l,_,_,_,_,σ,hst,hfr,h=>by
  simp only[Qc]at h
  split at h
  ·rename_i p hp
   obtain⟨σ1,m1,hf1⟩:=Tw ok hst hfr hp
   obtain⟨σ2,m2,hf2⟩:=JX ok l m1.rep hf1 h
   exact⟨σ2,m1.trans m2,hf2⟩
  ·cases h
end
end
open Go
noncomputable section
section
variable {P:Program} {E:Env} {w w' w'':World} {σ σ' σ'':Sg} {st st' st'':St E.T} {M M':Nat→Prop}
variable {K:Act→World→Prop} {Q:Exit→Act→World→Prop} {a:Act} {fr fr1:Fr E.T}
inductive CE (E:Env) (σ:Sg) (st:St E.T) (w:World):ON E.T→Exit→Prop where
 |normal:CE E σ st w .normal .normal
 |exit (id:Nat):CE E σ st w (.exit id) (.exit id)
 |ret:CE E σ st w .ret .ret
 |panic (v:az E.T) (u:Value) (h:a8 E σ st w (MB σ st) v u):CE E σ st w (.panic v) (.panic [{v:=u,recovered:=false}])
def CD (E:Env) (σ:Sg) (st:St E.T) (w:World) (Q:Exit→Act→World→Prop) (out:bV E):Prop:=
 ∀σ' w' a' x,Mf σ σ' st out.2.2 w w'→cj E σ' out.2.2 w' out.2.1 a'→CE E σ' out.2.2 w' out.1 x→Q x a' w'
theorem CD.later {out:bV E} (m:Mf σ σ' st st' w w') (h:CD E σ st w Q out):CD E σ' st' w' Q out:=
 fun σ'' w'' a' x m'=>h σ'' w'' a' x (m.trans m')
theorem C1 {n o:Nat} (h:o<n):aR (st.take n) o=aR st o:=by
 simp only[cX]
 rw[List.getElem?_take_of_lt h]
theorem ku {n o:Nat} {ob:Obj E.T} (h:aR (st.take n) o=some ob):o<n∧aR st o=some ob:=by
 have hl:=bT h
 rw[List.length_take]at hl
 have:o<n:=by omega
 rw[C1 this]at h
 exact⟨this,h⟩
theorem Bu {n b:Nat} (h:MB σ (st.take n) b):MB σ st b:=by
 rcases h with h|⟨o,ob,ho,hm,hb⟩
 ·exact .inl h
 ·exact .inr ⟨o,ob,(ku ho).2,hm,hb⟩
theorem take_same {n k:Nat} (h:k<n):ij σ σ st (st.take n) k:=
 ⟨rfl,fun l e xs hh=>⟨l,xs,by rw[C1 h];exact hh⟩,fun hl=>by rw[List.length_take];omega⟩
theorem xd {n:Nat} (hst:br E σ st w) (hr: ∀k∈iZ E (st.take n),k<n):br E σ (st.take n) w:=by
 refine⟨fun o ob ho=> ?_,fun o o' ob ob' b hne ho ho'=>hst.apart o o' ob ob' b hne (ku ho).2 (ku ho').2,hst.qC,fun o ob b ho=>hst.out o ob b (ku ho).2⟩
 exact cZ.aM (Kept.weaken fun b hb=>Bu hb) (fun _ _=>rfl) (fun k hk=>take_same (hr k (FN ho hk))) (hst.obj o ob (ku ho).2)
theorem vL (ks:List Nat): ∀(i:Nat) {ds:List (az E.T)} {us:List Value},aW E σ st w M ds us→aW E σ st w M (fC E ks i ds) us
 |i,_,_,.nil=> .nil
 |i,_,_,.cons v r u us h h'=>by
  simp only[fC]
  refine .cons _ _ _ _ ?_ (vL ks (i+1) h')
  cases c9 ks i with
  |true=>exact h
  |false=>exact .undef _
theorem Mf.take (m:Mf σ σ' st st' w w') (hr:br E σ' (st'.take st.length) w'):Mf σ σ' st (st'.take st.length) w w':=
 ⟨hr,⟨m.aM.os,m.aM.tape,m.aM.output,m.aM.size,m.aM.block,fun b hb h=>m.aM.may b hb (Bu h)⟩,
  ⟨m.stay.same,fun o ob ho=>by
  obtain⟨ob',h1,h2,h3⟩:=m.stay.kind o ob ho
  exact⟨ob',by rw[C1 (bT ho)];exact h1,h2,h3⟩⟩,m.qC⟩
theorem FX: ∀(ks:List Nat) {s:St E.T},(freeze E s ks).length=s.length
 |[],s=>rfl
 |k::r,s=>by rw[freeze,FX r];split<;>simp[dL]
theorem KT {s:St E.T}: ∀(l:List Nat) (i:Nat),H2 E s i l=true→ ∀j,j<l.length→nth l j 0=i+j∨ ∃l2 e xs ys,aR s (i+j)=some (.arr l2 e xs)∧aR s (nth l j 0)=some (.arr .live e ys)
 |[],i,h,j,hj=>absurd hj (Nat.not_lt_zero j)
 |m::r,i,h,0,hj=>by
  simp only[H2,Bool.and_eq_true,Bool.or_eq_true]at h
  rcases h.1 with h1|h1
  ·left;exact Nat.eq_of_beq_eq_true h1
  ·right
   split at h1
   ·rename_i l2 e xs e' ys p1 p2
    have:=dP h1
    subst this
    exact⟨l2,e,xs,ys,p1,p2⟩
   ·cases h1
 |m::r,i,h,j+1,hj=>by
  simp only[H2,Bool.and_eq_true]at h
  have:=KT r (i+1) h.2 j (by simpa using hj)
  rw[show i+(j+1)=i+1+j by omega]
  exact this
theorem Lf (n:Nat) (s:List (az E.T)): ∀(iq:List (Nat×Nat)) (o:Nat),o<n→nth (Ch E n s iq) o 0=o∨ ∃x∈iq,x.2=o
 |[],o,ho=>by
  left
  simp only[Ch]
  rw[kt,List.getD_eq_getElem?_getD,List.getElem?_range ho];rfl
 |(q,k) ::r,o,ho=>by
  have ih:=Lf n s r o ho
  have ih':nth (Ch E n s r) o 0=o∨ ∃x∈(q,k) ::r,x.2=o:=ih.imp id fun⟨x,h1,h2⟩=>⟨x,List.mem_cons_of_mem _ h1,h2⟩
  simp only[Ch]
  split
  ·rename_i m _
   cases hb:Nat.ble n m with
   |false=>exact ih'
   |true=>
    simp only[cond_true]
    by_cases hk:k=o
    ·exact .inr ⟨(q,k),List.mem_cons_self ..,hk⟩
    ·rcases ih' with h|h
     ·left
      rw[kt,List.getD_eq_getElem?_getD]at h⊢
      rw[Fb,List.getElem?_set_ne hk];exact h
     ·exact .inr h
  ·exact ih'
theorem Pv {s:St E.T} {iq:List (Nat×Nat)} (h:FK E s iq=true) {x:Nat×Nat} (hx:x∈iq): ∃e xs,aR s x.2=some (.arr .live e xs):=by
 unfold FK at h
 rw[List.all_eq_true]at h
 have:=h x hx
 split at this
 ·rename_i e xs hh;exact⟨e,xs,hh⟩
 ·cases this
theorem fP.EA {ρ:Nat→Nat} (kp:Kept M M' w w'): ∀{ds:List (FuncId×List (az E.T))} {dds:List Deferred},fP E σ st w M ds dds→(∀k∈ds.flatMap fun x=>bh x.2,Es ρ σ σ' st st' k)→fP E σ' st' w' M' (ds.map fun x=>(x.1,J9 ρ x.2)) dds
 |_,_,.nil,_=> .nil
 |_,_,.cons g as args cap ds dds has h,hs=> .cons g _ args cap _ dds (aW.EA kp trivial has (fun k hk=>hs k (by simp[hk]))) (fP.EA kp h (fun k hk=>hs k (by simp only[List.flatMap_cons,List.mem_append];exact .inr hk)))
theorem EX (ok:dq E) {ks:List Nat} {iq:List (Nat×Nat)} {fr':Fr E.T} {st':St E.T} {σ0:Sg} {st0:St E.T} {w0:World} (hlv:FK E st0 iq=true) (m:Mf σ0 σ st0 st w0 w) (hfr:cj E σ st w fr a) (h:tP E ks iq st0.length fr st=some (fr',st')):
  ∃σ',Mf σ0 σ' st0 st' w0 w∧cj E σ' st' w fr' a∧st'.length=st0.length:=by
 have hst:=m.rep
 have hlen0:=m.stay.len
 unfold tP at h
 split at h
 ·simp only at h
  generalize hks:List.range' st0.length (st.length-st0.length)=ksf at h
  obtain⟨m1,_⟩:=fS ksf hst
  have hk:cj E σ (freeze E st ksf) w {s:=fC E ks 0 fr.s,d:=fr.d} a:=⟨vL ks 0 (hfr.mv m1).s,(hfr.mv m1).d⟩
  have hk2:=cj.yF ok m1.rep st0.length hk
  have md:=Mv.yF ok m1.rep st0.length
  have m2:Mf σ0 σ st0 (m7 E (freeze E st ksf) st0.length) w0 w:=m.trans (m1.trans md).f
  have hk3:=hk2.mv md
  cases hb:(jh E {s:=sl E (freeze E st ksf) st0.length (fC E ks 0 fr.s),d:=fr.d}++iZ E ((m7 E (freeze E st ksf) st0.length).take st0.length)).all (fun k=>Nat.blt k st0.length)with
  |false=>rw[hb]at h;cases h
  |true=>
   rw[hb]at h
   cases h
   rw[List.all_eq_true]at hb
   have hlt: ∀k,k∈jh E {s:=sl E (freeze E st ksf) st0.length (fC E ks 0 fr.s),d:=fr.d}++iZ E ((m7 E (freeze E st ksf) st0.length).take st0.length)→k<st0.length:=by
    intro k hk
    have:=hb k hk
    rwa [Nat.blt_eq]at this
   have hr:=xd m2.rep (fun k hk=>hlt k (List.mem_append_right _ hk))
   refine⟨σ,Mf.take m2 hr,?_,?_⟩
   ·exact vW hk3 (Kept.weaken fun b hb=>Bu hb) (fun k hk=>take_same (hlt k (List.mem_append_left _ hk)))
   ·rw[List.length_take,m7,List.length_map,FX];omega
 ·simp only at h
  generalize hR:Ch E st0.length (fC E ks 0 fr.s) iq=R at h
  generalize hks:((List.range' st0.length (st.length-st0.length)).filter fun k=> !(c9 R k))=ksf at h
  obtain⟨m1,_⟩:=fS ksf hst
  have hk:cj E σ (freeze E st ksf) w {s:=fC E ks 0 fr.s,d:=fr.d} a:=⟨vL ks 0 (hfr.mv m1).s,(hfr.mv m1).d⟩
  have hk2:=cj.yF ok m1.rep st0.length hk
  have md:=Mv.yF ok m1.rep st0.length
  have m2:Mf σ0 σ st0 (m7 E (freeze E st ksf) st0.length) w0 w:=m.trans (m1.trans md).f
  have hk3:=hk2.mv md
  generalize hfr1:({s:=sl E (freeze E st ksf) st0.length (fC E ks 0 fr.s),d:=fr.d}:Fr E.T)=fr1 at h hk3
  generalize hst2:m7 E (freeze E st ksf) st0.length=st2 at h hk3 m2
  cases hb:(Nat.beq R.length st0.length&&(pq E st2 R&&(H2 E st2 0 R&&(jh E fr1).all (c9 R))))with
  |false=>rw[hb]at h;cases h
  |true=>
   rw[hb]at h
   cases h
   simp only[Bool.and_eq_true]at hb
   obtain⟨hn,hcl,hmv,hfrR⟩:=hb
   have hn:=Nat.eq_of_beq_eq_true hn
   have hc:=zm hcl
   have hrep:=Jk (fx:=[]) m2.rep hc (m:=σ.m) (fun b h=> .inl h) m2.rep.qC (fun k hk ob b h1 h2 h3=>m2.rep.out k ob b h1 h2 h3)
   have hMB: ∀b,MB (rU σ R σ.m) (gT E st2 [] R) b→MB σ st2 b:=fun b hb=>Jm hc (fun b h=> .inl h) hb
   have hRat: ∀o,o<st0.length→nth R o 0=o∨ ∃e xs,aR st0 o=some (.arr .live e xs):=by
    intro o ho
    rw[←hR]
    rcases Lf st0.length (fC E ks 0 fr.s) iq o ho with h|⟨x,hx,rfl⟩
    ·exact .inl h
    ·exact .inr (Pv hlv hx)
   have hmem: ∀k∈jh E fr1,k∈R:=by
    intro k hk
    rw[List.all_eq_true]at hfrR
    exact(ez R k).1 (hfrR k hk)
   have hat: ∀o ob2,o<R.length→aR st2 (nth R o 0)=some ob2→aR (gT E st2 [] R) o=some (gN (idx R) ob2):=by
    intro o ob2 ho h2
    unfold gT
    rw[dA]
    have:aR R o=some (nth R o 0):=nH ho
    rw[this]
    simp only[Option.map_some,h2]
    cases ob2 with
    |arr l _ _=>cases l<;>rfl
    |_=>rfl
   refine⟨rU σ R σ.m,⟨hrep,⟨m2.aM.os,m2.aM.tape,m2.aM.output,m2.aM.size,m2.aM.block,fun b hb h=>m2.aM.may b hb (hMB b h)⟩,⟨fun o ob ho hl=> ?_,fun o ob ho=> ?_⟩,⟨m2.qC.m,m2.qC.gm⟩⟩,⟨?_,?_⟩,?_⟩
   ·have holt:=bT ho
    show σ (nth R o 0)=σ0 o
    rcases hRat o holt with h1|⟨e,xs,h1⟩
    ·rw[h1];exact m2.stay.same o ob ho hl
    ·rw[h1]at ho;cases ho;cases hl
   ·have holt:=bT ho
    obtain⟨ob',h3,t3,h4⟩:=m2.stay.kind o ob ho
    rcases hRat o holt with hR1|⟨e0,xs0,hR1⟩
    ·refine⟨gN (idx R) ob',hat o ob' (by omega) (by rw[hR1];exact h3),?_,fun hl=> ?_⟩
     ·refine t3.trans ?_
      cases ob' with
      |box ro c=>exact .box _ _ _ _
      |arr l e xs=>exact .arr _ _ _ _ _
      |dead=>exact .dead
     ·have:=h4 hl
      cases ob'<;>exact this
    rcases KT R 0 hmv o (by omega)with h1|⟨l2,e,xs,ys,h1,h2⟩
    ·rw[Nat.zero_add]at h1
     refine⟨gN (idx R) ob',hat o ob' (by omega) (by rw[h1];exact h3),?_,fun hl=> ?_⟩
     ·refine t3.trans ?_
      cases ob' with
      |box ro c=>exact .box _ _ _ _
      |arr l e xs=>exact .arr _ _ _ _ _
      |dead=>exact .dead
     ·have:=h4 hl
      cases ob'<;>exact this
    ·rw[Nat.zero_add]at h1
     rw[h1]at h3;cases h3
     refine⟨_,hat o _ (by omega) h2,t3.trans (.arr _ _ _ _ _),fun hl=>by rw[hR1]at ho;cases ho;cases hl⟩
   ·exact aW.EA (Kept.weaken hMB) trivial hk3.s (fun k hk=>xY hc (hmem k (List.mem_append_left _ hk)))
   ·exact fP.EA (Kept.weaken hMB) hk3.d (fun k hk=>xY hc (hmem k (List.mem_append_right _ hk)))
   ·rw[gT,List.length_map];exact hn
theorem least {p:Nat→Prop} (h: ∃n,p n): ∃n,p n∧ ∀m,p m→n≤m:=by
 obtain⟨n,hn⟩:=h
 induction n using Nat.strongRecOn with
 |_ n ih=>
  by_cases hm: ∃m,m<n∧p m
  ·obtain⟨m,h1,h2⟩:=hm
   exact ih m h1 h2
  ·refine⟨n,hn,fun m hm'=> ?_⟩
   rcases Nat.lt_or_ge m n with h|h
   ·exact absurd ⟨m,h,hm'⟩ hm
   ·exact h
open Classical in
theorem Mu {c:Code} (G:Nat→Act→World→Prop) {n:Nat} {a:Act} {w:World} (h0:G n a w)
  (round: ∀n a w,G n a w→ ∃m,n=m+1∧c.wp P (Exit.then (fun a' w'=>G m a' w') Q) a w):(Code.loop c).wp P Q a w:=by
 let μ:Act→World→Nat:=fun a w=>if h: ∃n,G n a w then Classical.choose (least h)else 0
 have hμ: ∀a w n,G n a w→G (μ a w) a w∧μ a w≤n:=by
  intro a w n h
  have hex: ∃n,G n a w:=⟨n,h⟩
  have hs:=Classical.choose_spec (least hex)
  have he:μ a w=Classical.choose (least hex):=dif_pos hex
  rw[he]
  exact⟨hs.1,hs.2 n h⟩
 refine wp_loop (fun a w=> ∃n,G n a w) μ ⟨n,h0⟩ (fun a w hI=> ?_)
 obtain⟨n,hn⟩:=hI
 obtain⟨m,hm,hwp⟩:=round _ a w (hμ a w n hn).1
 refine wp_mono hwp (fun e a' w' hq=> ?_)
 cases e with
 |normal=>exact⟨⟨m,hq⟩,by have:=(hμ a' w' m hq).2;omega⟩
 |exit id=>exact hq
 |goto l=>exact hq
 |ret=>exact hq
 |panic ch=>exact hq
 |outgrown=>exact hq
def En:List (az E.T)→List (az E.T)→Prop
 |[],[]=>True
 |v::r,v'::r'=>(v= .undef∨v=v')∧En r r'
 |_,_=>False
def DH (fr fr':Fr E.T):Prop:=fr.d=fr'.d∧En fr.s fr'.s
theorem En.refl: ∀l:List (az E.T),En l l
 |[]=>trivial
 |_::r=>⟨.inr rfl,En.refl r⟩
theorem DH.refl (fr:Fr E.T):DH fr fr:=⟨rfl,En.refl _⟩
theorem aW.Qp {M:Nat→Prop}: ∀{l l':List (az E.T)} {us:List Value},En l l'→aW E σ st w M l' us→aW E σ st w M l us
 |[],[],_,_,h=>h
 |v::r,v'::r',_,hw,.cons _ _ u us h h'=>by
  rcases hw.1 with rfl|rfl
  ·exact .cons _ _ _ _ (.undef _) (aW.Qp hw.2 h')
  ·exact .cons _ _ _ _ h (aW.Qp hw.2 h')
 |[],_::_,_,hw,_=>hw.elim
 |_::_,[],_,hw,_=>hw.elim
theorem cj.Qp {fr fr':Fr E.T} {a:Act} (h:cj E σ st w fr' a) (hw:DH fr fr'):cj E σ st w fr a:=⟨aW.Qp hw.2 h.s,by rw[hw.1];exact h.d⟩
def fj (S:FuncId→Option (Spec E)) (L:Nat→de E) (N:Nat):Nat→Code→Prop
 |i,.seq a b=>fj S L N i a∧fj S L N (i+dg a) b
 |i,.cond _ a b=>fj S L N i a∧fj S L N (i+dg a) b
 |i,.block _ c=>fj S L N i c
 |i,.loop c=>(∀f,(L i).closed=some f→ ∀fr st out,(f fr st).get=some out→ ∃m fr',(qz E (gh E S L N (i+1) c) (L i).aM (L i).iq st.length m fr st).get=some (out.1,fr',out.2.2)∧DH out.2.1 fr')∧fj S L N (i+1) c
 |_,_=>True
theorem KZ (ok:dq E) {ks:List Nat} {iq:List (Nat×Nat)} {step:Fr E.T→St E.T→Tree (bV E)} {c:Code}
  (hstep: ∀{fr:Fr E.T} {st:St E.T} {a:Act} {w:World} {σ:Sg} {out:bV E} {Q:Exit→Act→World→Prop},br E σ st w→cj E σ st w fr a→(step fr st).get=some out→CD E σ st w Q out→c.wp P Q a w)
  {m:Nat} {out:bV E} (hlv:FK E st iq=true) (hst:br E σ st w) (hfr:cj E σ st w fr a) (h:(qz E step ks iq st.length m fr st).get=some out) (hp:CD E σ st w Q out):(Code.loop c).wp P Q a w:=by
 refine Mu (n:=m) (fun m a' w'=> ∃fr' st' σ',Mf σ σ' st st' w w'∧cj E σ' st' w' fr' a'∧(qz E step ks iq st.length m fr' st').get=some out) ⟨fr,st,σ,Mf.refl hst,hfr,h⟩ ?_
 rintro n a' w' ⟨fr',st',σ',m',hfr',h'⟩
 cases n with
 |zero=>cases h'
 |succ n=>
  refine⟨n,rfl,?_⟩
  simp only[qz]at h'
  split at h'
  ·rename_i fr2 st2 hh
   obtain⟨σ2,m2,hfr2,hl2⟩:=EX ok hlv m' hfr' hh
   obtain⟨p,hp1,h2⟩:=Tree.aA h'
   obtain⟨e,fr3,st3⟩:=p
   refine hstep m2.rep hfr2 hp1 (fun σ3 w3 a3 x m3 hfr3 hx=> ?_)
   cases hx with
   |normal=>exact⟨fr3,st3,σ3,m2.trans m3,hfr3,h2⟩
   |exit id=>cases h2;exact hp σ3 w3 a3 _ (m2.trans m3) hfr3 (.exit id)
   |ret=>cases h2;exact hp σ3 w3 a3 _ (m2.trans m3) hfr3 .ret
   |panic v u hv=>cases h2;exact hp σ3 w3 a3 _ (m2.trans m3) hfr3 (.panic v u hv)
  ·cases h'
theorem iN (HS:Sound P E) (hmix:P.follows .mixedOrders=true) {S:FuncId→Option (Spec E)} (HC:mN P E S) {L:Nat→de E} {N:Nat}: ∀(c:Code) (i:Nat) {fr:Fr E.T} {st:St E.T} {a:Act} {w:World} {σ:Sg} {out:bV E} {Q:Exit→Act→World→Prop},fj S L N i c→
  br E σ st w→cj E σ st w fr a→(gh E S L N i c fr st).get=some out→CD E σ st w Q out→c.wp P Q a w
 | .skip,i,fr,st,a,w,σ,out,Q,hL,hst,hfr,h,hp=>by
  cases h
  exact wp_skip (hp σ w a _ (Mf.refl hst) hfr .normal)
 | .seq c1 c2,i,fr,st,a,w,σ,out,Q,hL,hst,hfr,h,hp=>by
  simp only[gh]at h
  obtain⟨⟨e,fr1,st1⟩,h1,h2⟩:=Tree.aA h
  refine wp_seq (iN HS hmix HC c1 i hL.1 hst hfr h1 (fun σ' w' a' x m hfr' hx=> ?_))
  cases hx with
  |normal=>exact iN HS hmix HC c2 (i+dg c1) hL.2 m.rep hfr' h2 (hp.later m)
  |exit id=>cases h2;exact hp σ' w' a' _ m hfr' (.exit id)
  |ret=>cases h2;exact hp σ' w' a' _ m hfr' .ret
  |panic v u hv=>cases h2;exact hp σ' w' a' _ m hfr' (.panic v u hv)
 | .region id ops draw,i,fr,st,a,w,σ,out,Q,hL,hst,hfr,h,hp=>by
  simp only[gh]at h
  split at h
  ·rename_i p hadj
   obtain⟨σ1,m1,hfr1⟩:=JX HS.todq _ hst hfr hadj
   have hp1:=hp.later m1
   cases draw with
   |true=>
    simp only at h
    obtain⟨r,h1,h2⟩:=Tree.aA h
    cases h2
    refine Nq HS HC hmix m1.rep hfr1 h1 ?_
    cases r with
    |done fr' st'=>exact fun σ' w' a' m hfr'=>hp1 σ' w' a' _ m hfr' .normal
    |panic v fr' st'=>exact fun σ' w' a' u m hfr' hv=>hp1 σ' w' a' _ m hfr' (.panic v u hv)
   |false=>
    simp only at h
    obtain⟨r,h1,h2⟩:=Tree.aA h
    cases h2
    refine Pc HS HC m1.rep hfr1 h1 ?_
    cases r with
    |done fr' st'=>exact fun σ' w' a' m hfr'=>hp1 σ' w' a' _ m hfr' .normal
    |panic v fr' st'=>exact fun σ' w' a' u m hfr' hv=>hp1 σ' w' a' _ m hfr' (.panic v u hv)
  ·cases h
 | .cond x c1 c2,i,fr,st,a,w,σ,out,Q,hL,hst,hfr,h,hp=>by
  cases x with
  |tmp t=>
   simp only[gh]at h
   obtain⟨b,hb,hor⟩:=rO h
   have hs:=CO hfr hb
   have he:a.eval (.tmp t)= .bool b:=by simp[Act.eval,Array.getD_eq_getD_getElem?,hs]
   rcases hor with⟨rfl,h⟩|⟨rfl,h⟩
   ·exact wp_cond_true he (iN HS hmix HC c1 i hL.1 hst hfr h hp)
   ·exact wp_cond_false he (iN HS hmix HC c2 (i+dg c1) hL.2 hst hfr h hp)
  |_=>simp only[gh]at h;cases h
 | .block id c,i,fr,st,a,w,σ,out,Q,hL,hst,hfr,h,hp=>by
  simp only[gh]at h
  obtain⟨⟨e,fr1,st1⟩,h1,h2⟩:=Tree.aA h
  refine wp_block (iN HS hmix HC c i hL hst hfr h1 (fun σ' w' a' x m hfr' hx=> ?_))
  cases hx with
  |normal=>cases h2;exact hp σ' w' a' _ m hfr' .normal
  |exit id'=>
   simp only[Exit.inBlock]
   simp only at h2
   cases hb:Nat.beq id' id with
   |true=>
    rw[hb]at h2
    cases h2
    rw[if_pos (Nat.eq_of_beq_eq_true hb)]
    exact hp σ' w' a' _ m hfr' .normal
   |false=>
    rw[hb]at h2
    cases h2
    rw[if_neg (fun h=>by rw[h,Nat.beq_refl]at hb;cases hb)]
    exact hp σ' w' a' _ m hfr' (.exit id')
  |ret=>cases h2;exact hp σ' w' a' _ m hfr' .ret
  |panic v u hv=>cases h2;exact hp σ' w' a' _ m hfr' (.panic v u hv)
 | .loop c,i,fr,st,a,w,σ,out,Q,hL,hst,hfr,h,hp=>by
  simp only[gh]at h
  split at h
  ·rename_i p hadj
   obtain⟨σ1,m1,hfr1⟩:=JX HS.todq _ hst hfr hadj
   split at h
   ·rename_i fr' st' hh
    obtain⟨σ2,m2,hfr2,hl2⟩:=EX HS.todq rfl (Mf.refl m1.rep) hfr1 hh
    have hp2:=(hp.later m1).later m2
    obtain⟨hlv,h⟩:=Tree.aO h
    have hbody: ∀{fr:Fr E.T} {st:St E.T} {a:Act} {w:World} {σ:Sg} {out:bV E} {Q:Exit→Act→World→Prop},br E σ st w→cj E σ st w fr a→(gh E S L N (i+1) c fr st).get=some out→CD E σ st w Q out→c.wp P Q a w:=
     fun hst hfr h hp=>iN HS hmix HC c (i+1) hL.2 hst hfr h hp
    split at h
    ·rename_i f hf
     obtain⟨m,fr2,hm,hwk⟩:=hL.1 f hf fr' st' _ h
     exact KZ HS.todq hbody hlv m2.rep hfr2 hm (fun σ'' w'' a'' x m' hfr2 hx=>hp2 σ'' w'' a'' x m' (hfr2.Qp hwk) hx)
    ·exact KZ HS.todq hbody hlv m2.rep hfr2 h hp2
   ·cases h
  ·cases h
 | .exit id,i,fr,st,a,w,σ,out,Q,hL,hst,hfr,h,hp=>by
  cases h
  exact wp_exit (hp σ w a _ (Mf.refl hst) hfr (.exit id))
 | .ret,i,fr,st,a,w,σ,out,Q,hL,hst,hfr,h,hp=>by
  cases h
  exact wp_ret (hp σ w a _ (Mf.refl hst) hfr .ret)
 | .scope c,i,fr,st,a,w,σ,out,Q,hL,hst,hfr,h,hp=>by simp only[gh]at h;cases h
 | .label l,i,fr,st,a,w,σ,out,Q,hL,hst,hfr,h,hp=>by simp only[gh]at h;cases h
 | .goto l,i,fr,st,a,w,σ,out,Q,hL,hst,hfr,h,hp=>by simp only[gh]at h;cases h
 | .rangeFunc ..,i,fr,st,a,w,σ,out,Q,hL,hst,hfr,h,hp=>by simp only[gh]at h;cases h
end
end
open Go
noncomputable section
section
variable {P:Program} {E:Env} {w w' w'':World} {σ σ' σ'':Sg} {st st' st'':St E.T} {M:Nat→Prop}
variable {a:Act} {fr fr1:Fr E.T}
def oneOf:List Value→Value
 |[u]=>u
 |us=> .tuple us.toArray
theorem QV {x:az E.T} {u:Value} {t:TypeId} {v:az E.T} (h:(yw E st t x).get=some v) (hx:a8 E σ st w M x u): ∃ad,u= .pointer (some ad):=by
 cases x with
 |ptr o p=>
  cases hx with
  |data t d cs hv=>cases hv
  |ptr o p b hb hl=>exact⟨_,rfl⟩
 |eg t' y=>
  cases hx with
  |data t d cs hv=>cases hv
  |eg t x a cs hc hm=>exact⟨a,rfl⟩
 |_=>cases h
theorem Ef (HS:Sound P E) (hst:br E σ st w) (hfr:cj E σ st w fr a): ∀(rs:List ResultVar) {vs:List (az E.T)},(yu E fr st rs).get=some vs→
  ∃us,(∀f:ResultVar→Sem Value,(∀t,f (.tmp t)=pure (a.tmps.getD t undef))→(∀b t,f (.cell b t)=(do loadVar t (←asAddr (a.tmps.getD b undef))))→(rs.mapM f).run P w= .ok us w)∧aW E σ st w (MB σ st) vs us
 |[],vs,h=>by
  cases h
  exact⟨[],fun f _ _=>by simp,.nil⟩
 |r::rs,vs,h=>by
  simp only[yu]at h
  obtain⟨v,hv,h1⟩:=Tree.aA h
  obtain⟨vs',hvs,h2⟩:=Tree.aA h1
  cases h2
  obtain⟨us,hus,hr⟩:=Ef HS hst hfr rs hvs
  cases r with
  |tmp t=>
   cases hv
   exact⟨a.eval (.tmp t) ::us,fun f h1 h2=>by simp only[List.mapM_cons,h1,Sem.run_bind,Sem.run_pure,Result.andThen_ok,hus f h1 h2];rfl,.cons _ _ _ _ (bY hfr (.tmp t)) hr⟩
  |cell b t=>
   simp only[OA]at hv
   have hx:=bY hfr (.tmp b)
   obtain⟨ad,had⟩:=QV hv hx
   obtain⟨y,hy,hvy⟩:=LC HS hst hv hx
   rw[had]at hy
   have hl:(loadVar t ad).run P w= .ok y w:=by
    unfold Instr.loadAt Instr.sureAddr at hy
    simpa using hy
   have ha:a.tmps.getD b undef= .pointer (some ad):=had
   have hasA:(asAddr (.pointer (some ad))).run P w= .ok ad w:=rfl
   exact⟨y::us,fun f h1 h2=>by simp only[List.mapM_cons,h2,Sem.run_bind,ha,hasA,Sem.run_pure,Result.andThen_ok,hl,hus f h1 h2],.cons _ _ _ _ hvy hr⟩
theorem MQ (HS:Sound P E) (hst:br E σ st w) (hfr:cj E σ st w fr a) {fn:Func} {vs:List (az E.T)} (h:(yu E fr st fn.results.toList).get=some vs):
  ∃us,(results fn a.tmps).run P w= .ok (oneOf us) w∧aW E σ st w (MB σ st) vs us:=by
 obtain⟨us,hus,hr⟩:=Ef HS hst hfr fn.results.toList h
 refine⟨us,?_,hr⟩
 unfold results
 rw[Sem.run_bind,Array.mapM_eq_mapM_toList,Sem.run_map,hus]
 ·simp only[Result.andThen_ok,Sem.run_pure]
  congr 1
  match us with
  |[]=>rfl
  |[u]=>rfl
  |u::u'::r=>simp;rfl
 ·intro t;rfl
 ·intro b t;rfl
theorem HN {vs:List (az E.T)} {us:List Value} (h:aW E σ st w M vs us):a8 E σ st w M (CU E vs) (oneOf us):=by
 cases h with
 |nil=>exact a8.jo [] [] .nil
 |cons v r u us h h'=>
  cases h' with
  |nil=>exact h
  |cons v' r' u' us' h1 h2=>exact a8.jo _ _ (.cons _ _ _ _ h (.cons _ _ _ _ h1 h2))
theorem DF (ok:dq E) (hst:br E σ st w) (hM: ∀b,M b→MB σ st b): ∀(ts:List TypeId) {vs ws:List (az E.T)} {us:List Value},asData E st ts vs=some ws→aW E σ st w (MB σ st) vs us→
  (∀k∈bh vs,∀l e xs b,aR st k=some (.arr l e xs)→k9 (σ k)=some b→ ¬M b)→aW E σ st w M ws us
 |[],[],ws,us,h,hv,_=>by cases h;cases hv;exact .nil
 |t::ts,v::vs,ws,us,h,hv,hr=>by
  cases hv with
  |cons v vs u us hv hvs=>
   simp only[asData]at h
   split at h
   ·rename_i ty hk
    split at h
    ·rename_i x hx
     split at h
     ·rename_i r hr'
      cases h
      obtain⟨cs,hvt,rfl⟩:=nu hx hv
      have hc:=toData_ok ok hst hM depth (fun k hk=>hr k (by simp[bh,hk])) hx hvt
      exact .cons _ _ _ _ (.data ty _ cs (.val ty x cs hc)) (DF ok hst hM ts hr' hvs (fun k hk=>hr k (by simp[bh,hk])))
     ·cases h
    ·cases h
   ·cases h
   ·split at h
    ·split at h
     ·rename_i r hr'
      cases h
      exact .cons _ _ _ _ (a8.aM (Kept.weaken hM) hv (fun k _=>ij.refl k)) (DF ok hst hM ts hr' hvs (fun k hk=>hr k (by simp[bh,hk])))
     ·cases h
    ·cases h
 |[],_::_,ws,us,h,_,_=>by simp[asData]at h
 |_::_,[],ws,us,h,_,_=>by simp[asData]at h
inductive sx (E:Env) (σ:Sg) (st:St E.T) (w:World):Option (az E.T)→FrameMode→Prop where
 |none:sx E σ st w none .returning
 |some (v:az E.T) (u:Value) (h:a8 E σ st w (MB σ st) v u):sx E σ st w (some v) (.panicking [{v:=u,recovered:=false}])
theorem zG: ∀(ks:List Nat) {st:St E.T},∀n,iZ E ((freeze E st ks).take n)=iZ E (st.take n)
 |[],st,n=>rfl
 |k::r,st,n=>by
  rw[freeze,zG r]
  split
  ·rename_i lv e xs hk
   have: ∀(l:St E.T) (k n:Nat) (h:aR l k=some (.arr lv e xs)),iZ E ((dk l k (.arr .bc e xs)).take n)=iZ E (l.take n):=by
    intro l
    induction l with
    |nil=>intro k n h;cases h
    |cons o l ih=>
     intro k n h
     cases n with
     |zero=>rfl
     |succ n=>
      cases k with
      |zero=>
       simp only[dJ,cT,cU,Option.some.injEq]at h
       subst h
       simp[jJ,gF,gG,iZ,cf]
      |succ k=>
       have:=ih k n h
       simp only[jJ,gF,gG,List.take_succ_cons,iZ,List.flatMap_cons]at this⊢
       rw[this]
   exact this st k n hk
  ·rfl
theorem JT {l:List Nat} {n:Nat} (h:(l.all fun k=>Nat.blt k n)=true): ∀k∈l,k<n:=by
 intro k hk
 rw[List.all_eq_true]at h
 have:=h k hk
 rwa [Nat.blt_eq]at this
theorem zi (HS:Sound P E) {aM:Bool} {fn:Func} {σ0:Sg} {st0:St E.T} {w0:World} (m:Mf σ0 σ st0 st w0 w) (hfr:cj E σ st w fr a) {sA:Option (az E.T)} {u:FrameMode} (hpan:sx E σ st w sA u) {r:iT E.T} {st':St E.T}
  (h:(ending E aM st0.length fn fr st sA).get=some (r,st')):Leaves P fn a.tmps (fun e w'=>Hs E σ0 st0 st' w0 r e w') [] u w:=by
 have hst:=m.rep
 unfold ending at h
 cases hpan with
 |some v u hv=>
  simp only at h
  cases aM with
  |true=>
   cases h
   exact⟨σ,m,u,rfl,hv⟩
  |false=>
   obtain⟨hb,h⟩:=Tree.aO h
   cases h
   have hlt:=JT hb
   have hr:=xd hst (fun k hk=>hlt k (List.mem_append_left _ hk))
   exact⟨σ,Mf.take m hr,u,rfl,a8.aM (Kept.weaken fun b hb=>Bu hb) hv (fun k hk=>take_same (hlt k (List.mem_append_right _ hk)))⟩
 |none=>
  simp only at h
  obtain⟨vs,hvs,h⟩:=Tree.aA h
  obtain⟨us,hus,hr⟩:=MQ HS hst hfr hvs
  cases aM with
  |true=>
   cases h
   exact⟨_,hus,σ,m,HN hr⟩
  |false=>
   simp only at h
   split at h
   ·rename_i ws hws
    obtain⟨hb,h⟩:=Tree.aO h
    cases h
    have hlt:=JT hb
    obtain⟨mf,_⟩:=fS (live E st (bh vs)) hst
    have hM: ∀b,MB σ (freeze E st (live E st (bh vs))) b→MB σ st b:=fun b hb=>mf.aM.may b (Eu mf.rep hb) hb
    have hd:=DF HS.todq hst hM fn.resultTypes.toList hws hr (fun k hk l e xs b hh hb=>y9 hst hk hh hb)
    have hd2:aW E σ (freeze E st (live E st (bh vs))) w (MB σ (freeze E st (live E st (bh vs)))) ws us:=aW.aM (Kept.weaken fun _ h=>h) hd (fun k hk=>mf.same k (aW.refs hd k hk))
    have hrep:=xd (n:=st0.length) mf.rep (fun k hk=>hlt k (List.mem_append_left _ (by rw[zG]at hk;exact hk)))
    have m2:=Mf.take (m.trans mf.f) hrep
    exact⟨_,hus,σ,m2,HN (aW.aM (M':=MB σ ((freeze E st (live E st (bh vs))).take st0.length)) (Kept.weaken fun b hb=>Bu hb) hd2 (fun k hk=>take_same (hlt k (List.mem_append_right _ hk))))⟩
   ·cases h
def iC (P:Program) (E:Env) (g:FuncId) (F:l8 E):Prop:=
 Enters P g∧ ∀{σ:Sg} {st:St E.T} {w:World} {ds:List (az E.T)} {us:List Value} {sA:Option (az E.T)} {u:FrameMode} {b:Bool} {st':St E.T},br E σ st w→aW E σ st w (MB σ st) ds us→sx E σ st w sA u→(F ds st sA).get=some (b,st')→
  CallsD P g us.toArray u w fun e u' w'=>(∃v,e= .returned v)∧ ∃σ',Mf σ σ' st st' w w'∧((b=true∧settle u'= .returning)∨(b=false∧u'=u))
theorem MI {sA:Option (az E.T)} {u:FrameMode} (h:sx E σ st w sA u):settle u=u:=by
 cases h with
 |none=>rfl
 |some v u h=>rfl
end
end
open Go
section
variable {P:Program} {E:Env} {w w' w'':World} {σ σ' σ'':Sg} {st st' st'':St E.T} {M:Nat→Prop}
variable {a:Act} {fr fr1:Fr E.T}
theorem sx.map {sA:Option (az E.T)} {u:FrameMode} (h:sx E σ st w sA u) (hv: ∀v u,sA=Option.some v→a8 E σ st w (MB σ st) v u→a8 E σ' st' w' (MB σ' st') v u):sx E σ' st' w' sA u:=by
 cases h with
 |none=>exact .none
 |some v u h=>exact .some v u (hv v u rfl h)
theorem pF (HS:Sound P E) {SD:FuncId→Option (l8 E)} (HD: ∀g F,SD g=some F→iC P E g F) {aM:Bool} {fn:Func} {σ0:Sg} {st0:St E.T} {w0:World} (m:Mf σ0 σ st0 st w0 w) (hfr:cj E σ st w fr a) {sA:Option (az E.T)} {u:FrameMode} (hpan:sx E σ st w sA u)
  (hpr: ∀v,sA=some v→refs v=[]) {r:iT E.T} {st':St E.T} (h:(leave E SD aM st0.length fn fr st sA).get=some (r,st')):
  Leaves P fn a.tmps (fun e w'=>Hs E σ0 st0 st' w0 r e w') a.defers u w:=by
 have hst:=m.rep
 unfold leave at h
 have hd:=hfr.d
 split at h
 ·rename_i hn
  rw[hn]at hd
  generalize hdd:a.defers=dd at hd
  cases hd
  exact zi HS m hfr hpan h
 ·rename_i g as hn
  rw[hn]at hd
  generalize hdd:a.defers=dd at hd
  cases hd with
  |cons g as args cap ds dds has hds=>
   cases hds
   split at h
   ·rename_i F hF
    obtain⟨hent,hcall⟩:=HD g F hF
    simp only at h
    generalize hbs:iZ E st++bh as=bs at h
    generalize hfs:tD E st (jh E fr)=fs at h
    generalize hhid:(fs.filter fun k=> !(c9 bs k))=gm at h
    obtain⟨p,hp1,h⟩:=Tree.aA h
    obtain⟨b,s1⟩:=p
    have hok:G1 E st gm:=by
     refine⟨fun k hk=> ?_,fun k hk=> ?_⟩
     ·rw[←hhid]at hk
      have:=(nK.1 hk).1
      rw[←hfs]at this
      exact(Jh.1 this).2
     ·rw[←hhid]at hk
      have:=(nK.1 hk).2
      rw[←hbs]at this
      exact fun h=>this (List.mem_append_left _ h)
    have hdr: ∀k∈bh as,k∉gm:=by
     intro k hk hkh
     rw[←hhid]at hkh
     have:=(nK.1 hkh).2
     rw[←hbs]at this
     exact this (List.mem_append_right _ hk)
    have has':aW E (yW σ gm) (zx E gm st) w (MB (yW σ gm) (zx E gm st)) as (args++cap).toList:=aW.aM (Kept.weaken fun b hb=>Cf hok hb) has (fun k hk=>Ie hok (hdr k hk))
    have hpan':sx E (yW σ gm) (zx E gm st) w sA u:=hpan.map (fun v u hv h=>a8.aM (Kept.weaken fun b hb=>Cf hok hb) h (fun k hk=>by rw[hpr v hv]at hk;cases hk))
    refine leaves_cons (f:=g) (args:=args++cap) (by cases hpan<;>exact fun h=>by cases h) (by simpa [invoke]using hent (args++cap) w) ?_
    have hc:=hcall (Rx hst hok) has' hpan' hp1
    rw[show((args++cap).toList.toArray)=args++cap by simp]at hc
    refine CallsD.mono hc (fun e u' w' hb=> ?_)
    obtain⟨⟨v,rfl⟩,σ',m1,hor⟩:=hb
    obtain⟨σ'',m',hv,hsame⟩:=OV hst hok m1
    have hfr':cj E σ'' (iV E st gm s1) w' (iM E st (fs.filter (c9 bs)) fr) a:=by
     have hk:=Gb hst (fs.filter (c9 bs)) hfr
     refine vW hk m'.aM.kept (fun k hk'=> ?_)
     obtain⟨h1,h2⟩:=Ea _ hk'
     refine hsame k (Dk hfr k h1) ?_
     by_cases hl: ∃e xs,aR st k=some (.arr .live e xs)
     ·left
      have hkf:k∈fs:=by rw[←hfs];exact Jh.2 ⟨h1,hl⟩
      rw[←hhid]
      exact nK.2 ⟨hkf,fun hb=>h2 (Hi.2 ⟨hkf,hb⟩)⟩
     ·right
      exact fun e xs hh=>hl ⟨e,xs,hh⟩
    have hfr2:cj E σ'' (iV E st gm s1) w' {iM E st (fs.filter (c9 bs)) fr with d:=[]} {tmps:=a.tmps,defers:=[]}:=⟨hfr'.s,.nil⟩
    have hpan2:sx E σ'' (iV E st gm s1) w' sA u:=hpan.map (fun v u hv h=>a8.aM m'.aM.kept h (fun k hk=>by rw[hpr v hv]at hk;cases hk))
    rcases hor with⟨rfl,hs⟩|⟨rfl,hs⟩
    ·show Leaves P fn a.tmps _ [] (settle u') w'
     rw[hs]
     exact zi HS (m.trans m') (a:={tmps:=a.tmps,defers:=[]}) hfr2 .none h
    ·show Leaves P fn a.tmps _ [] (settle u') w'
     rw[hs,MI hpan]
     exact zi HS (m.trans m') (a:={tmps:=a.tmps,defers:=[]}) hfr2 hpan2 h
   ·cases h
 ·cases h
theorem aW.replicate (n:Nat):aW E σ st w M (List.replicate n .undef) (List.replicate n undef):=by
 induction n with
 |zero=>exact .nil
 |succ n ih=>exact .cons _ _ _ _ (.undef _) ih
theorem yp {fn:Func} {ds:List (az E.T)} {us:List Value} (h:aW E σ st w (MB σ st) ds us):cj E σ st w (frame E fn ds) {tmps:=us.toArray++Array.replicate (fn.ntmps-us.toArray.size) undef,defers:=[]}:=by
 refine⟨?_,.nil⟩
 have:=aW.append h (aW.replicate (E:=E) (σ:=σ) (st:=st) (w:=w) (M:=MB σ st) (fn.ntmps-ds.length))
 simpa [frame,aW.length h]using this
theorem RO (HS:Sound P E) (hmix:P.follows .mixedOrders=true) {S:FuncId→Option (Spec E)} (HC:mN P E S) {SD:FuncId→Option (l8 E)} (HD: ∀g F,SD g=some F→iC P E g F) {L:Nat→de E} {N:Nat} {aM:Bool} {f:FuncId} {fn:Func} {c:Code}
  (hf:P.funcs[f]? =some fn) (hb:fn.body=some c) (hL:fj S L N 0 c):ub P E f (OB E S SD L N aM fn):=by
 intro σ st w ds us r st' hst hds h
 unfold OB at h
 rw[hb]at h
 simp only at h
 obtain⟨⟨e,fr,st1⟩,h1,h2⟩:=Tree.aA h
 refine calls_of_wp_defers hf hb (iN HS hmix HC c 0 hL hst (yp hds) h1 (fun σ' w' a' x m hfr hx=> ?_))
 cases hx with
 |normal=>exact pF HS HD m hfr .none (fun v h=>by cases h) h2
 |exit id=>cases h2
 |ret=>exact pF HS HD m hfr .none (fun v h=>by cases h) h2
 |panic v u hv=>
  obtain⟨hn,h2⟩:=Tree.aO h2
  exact pF HS HD m hfr (.some v u hv) (fun v' h=>by cases h;exact List.isEmpty_iff.1 hn) h2
theorem SK {f:FuncId} {F:List (az E.T)→St E.T→Tree (iT E.T×St E.T)} (h:ub P E f F) {G:List (az E.T)→Tree (iT E.T)} (hG: ∀ds r,(G ds).get=some r→(F ds []).get=some (r,[])):J4 P E f G:=
 fun hst hds hr=>h hst hds (hG _ _ hr)
theorem ER {ops:Array Oper} {Q:Exit→Act→List Frame→World→Prop} {cs:List Frame} (hQ: ∀a w,¬Q .outgrown a cs w): ∀(l:List Nat) (a:Act) (w:World),wpOps P ops (fun e a w=>Q e a cs w) l a w→wpOpsS P ops Q l a cs w
 |[],a,w,h=>h
 |i::r,a,w,h=>by
  simp only[wpOps]at h
  simp only[wpOpsS]
  split at h
  ·rename_i hi;rw[hi];exact ER hQ r a w h
  ·rename_i o hi
   rw[hi]
   simp only
   split at h
   ·rename_i hw
    rw[if_pos hw]
    have h:=h.resolve_right (fun⟨_,a,w,h⟩=>hQ a w h)
    have h':o.wp P a w (fun a' w'=>wpOpsS P ops Q r a' cs w') (fun e a w=>Q e a cs w):=Oper.wp_mono (fun a w h=>ER hQ r a w h) h
    unfold Oper.wp at h'
    split
    ·rename_i w' hrec
     rw[hrec]at h'
     exact h'.elim
    ·exact h'
   ·rename_i hw
    rw[if_neg hw]
    exact ER hQ r _ w h
end
open Go
noncomputable section
def Vq (P:Program) (E:Env) (t:TypeId):TK→Prop
 | .data ty=>TyM P E t ty
 | .ptr=>(∃e,P.underlying t=some (.pointer e))∧ ∃i,P.info? t=some i∧i.size=1∧i.zero=some (.pointer none)
 | .func=>(∃a b c,P.underlying t=some (.func a b c))∧ ∃i,P.info? t=some i∧i.size=1∧i.zero=some .nilFunc
 | .iface=>(∃m,P.underlying t=some (.interface m))∧ ∃i,P.info? t=some i∧i.size=1∧i.zero=some .nilIface
 | .other=>True
def OF (P:Program) (E:Env):Nat→List TK→Prop
 |_,[]=>True
 |i,k::r=>Vq P E i k∧OF P E (i+1) r
theorem Kg {P:Program} {E:Env}: ∀(l:List TK) (i:Nat),OF P E i l→ ∀(j:Nat),Vq P E (i+j) (nth l j .other)
 |[],i,h,j=>trivial
 |k::r,i,h,0=>h.1
 |k::r,i,h,j+1=>by
  have:=Kg r (i+1) h.2 j
  rw[show i+(j+1)=i+1+j by omega]
  exact this
theorem QE {P:Program} {E:Env} (ok:dq E) (ee: ∀i x y,E.ee i x y=No E (E.fields i) (E.out i x) (E.out i y))
  (cmp: ∀t,E.cmp t=true→P.eqGuardType P.depth t=false∧P.stoodInHeld t=false∧(∀fs,P.underlying t=some (.struct fs)→ ∀f∈fs.toList,E.cmp f.type=true)∧ ∀n e,P.underlying t=some (.array n e)→E.cmp e=true)
  (OY:List TK) (htk: ∀t,E.tk t=nth OY t .other) (h:OF P E 0 OY):Sound P E:=by
 have key: ∀t,Vq P E t (E.tk t):=by
  intro t
  have:=Kg OY 0 h t
  rw[Nat.zero_add,←htk t]at this
  exact this
 refine{todq:=ok,ee:=ee,cmp:=cmp,data:= ?_,ptr:= ?_,func:= ?_,iface:= ?_}
 ·intro t ty ht;have:=key t;rw[ht]at this;exact this
 ·intro t ht;have:=key t;rw[ht]at this;exact this
 ·intro t ht;have:=key t;rw[ht]at this;exact this
 ·intro t ht;have:=key t;rw[ht]at this;exact this
def jY {E:Env}:List (Nat×Spec E)→FuncId→Option (Spec E)
 |[],_=>none
 |p::r,f=>bif Nat.beq p.1 f then some p.2 else jY r f
def G3 (P:Program) (E:Env):List (Nat×Spec E)→Prop
 |[]=>True
 |p::r=>oc P E p.1 p.2∧G3 P E r
theorem xX {P:Program} {E:Env}: ∀{l:List (Nat×Spec E)},G3 P E l→ ∀f s,jY l f=some s→oc P E f s
 |[],_,f,s,h=>by cases h
 |p::r,hl,f,s,h=>by
  simp only[jY]at h
  cases hb:Nat.beq p.1 f with
  |true=>
   rw[hb]at h
   cases h
   rw[←Nat.eq_of_beq_eq_true hb]
   exact hl.1
  |false=>rw[hb]at h;exact xX hl.2 f s h
def D1 {E:Env}:List (Nat×l8 E)→FuncId→Option (l8 E)
 |[],_=>none
 |p::r,f=>bif Nat.beq p.1 f then some p.2 else D1 r f
def Mn (P:Program) (E:Env):List (Nat×l8 E)→Prop
 |[]=>True
 |p::r=>iC P E p.1 p.2∧Mn P E r
theorem K1 {P:Program} {E:Env}: ∀{l:List (Nat×l8 E)},Mn P E l→ ∀f s,D1 l f=some s→iC P E f s
 |[],_,f,s,h=>by cases h
 |p::r,hl,f,s,h=>by
  simp only[D1]at h
  cases hb:Nat.beq p.1 f with
  |true=>
   rw[hb]at h
   cases h
   rw[←Nat.eq_of_beq_eq_true hb]
   exact hl.1
  |false=>rw[hb]at h;exact K1 hl.2 f s h
theorem gS {E:Env} {S:FuncId→Option (Spec E)} {L:Nat→de E} {N:Nat} (h: ∀i,(L i).closed=none): ∀(c:Code) (i:Nat),fj S L N i c
 | .seq a b,i=>⟨gS h a i,gS h b _⟩
 | .cond _ a b,i=>⟨gS h a i,gS h b _⟩
 | .block _ c,i=>gS h c i
 | .loop c,i=>⟨(fun f hf=>by rw[h i]at hf;cases hf),gS h c _⟩
 | .skip,i=>trivial
 | .region _ _ _,i=>trivial
 | .exit _,i=>trivial
 | .ret,i=>trivial
 | .scope _,i=>trivial
 | .label _,i=>trivial
 | .goto _,i=>trivial
 | .rangeFunc ..,i=>trivial
 | .refuse _,i=>trivial
def Zy (E:Env):Nat→de E:=fun _=>{aM:=[],closed:=none}
end
open Go
noncomputable section
def dK:Nat→Code→Option Code
 |i,.seq a b=>bif Nat.blt i (dg a)then dK i a else dK (i-dg a) b
 |i,.cond _ a b=>bif Nat.blt i (dg a)then dK i a else dK (i-dg a) b
 |i,.block _ c=>dK i c
 |0,.loop c=>some c
 |i+1,.loop c=>dK i c
 |_,_=>none
theorem Tq {a b:Nat} (h:a<b):Nat.blt a b=true:=by rw[Nat.blt_eq];exact h
theorem R5 {a b:Nat} (h:b≤a):Nat.blt a b=false:=by
 cases hb:Nat.blt a b with
 |false=>rfl
 |true=>rw[Nat.blt_eq]at hb;omega
section
variable {E:Env}
theorem FR {a b:Code} {k:Nat} {cb:Code} (ha:dK k a=some cb→k<dg a) (hb:dK (k-dg a) b=some cb→k-dg a<dg b) (h:(bif Nat.blt k (dg a)then dK k a else dK (k-dg a) b)=some cb):k<dg a+dg b:=by
 rcases Nat.lt_or_ge k (dg a)with h1|h1
 ·omega
 ·rw[R5 h1]at h
  have:=hb h
  omega
theorem oS: ∀(c:Code) (k:Nat) {cb:Code},dK k c=some cb→k<dg c
 | .seq a b,k,cb,h=>by
  unfold dK at h
  exact FR (oS a k) (oS b _) h
 | .cond _ a b,k,cb,h=>by
  unfold dK at h
  exact FR (oS a k) (oS b _) h
 | .block _ c,k,cb,h=>by
  unfold dK at h
  exact oS c k h
 | .loop c,0,cb,h=>Nat.succ_pos _
 | .loop c,k+1,cb,h=>by
  unfold dK at h
  exact Nat.succ_lt_succ (oS c k h)
 | .skip,_,_,h=>by unfold dK at h;cases h
 | .region _ _ _,_,_,h=>by unfold dK at h;cases h
 | .exit _,_,_,h=>by unfold dK at h;cases h
 | .ret,_,_,h=>by unfold dK at h;cases h
 | .scope _,_,_,h=>by unfold dK at h;cases h
 | .label _,_,_,h=>by unfold dK at h;cases h
 | .goto _,_,_,h=>by unfold dK at h;cases h
 | .rangeFunc ..,_,_,h=>by unfold dK at h;cases h
 | .refuse _,_,_,h=>by unfold dK at h;cases h
def TR (S:FuncId→Option (Spec E)) (L:Nat→de E) (N:Nat) (i:Nat) (cb:Code):Prop:=
 ∀f,(L i).closed=some f→ ∀fr st out,(f fr st).get=some out→ ∃m fr',(qz E (gh E S L N (i+1) cb) (L i).aM (L i).iq st.length m fr st).get=some (out.1,fr',out.2.2)∧DH out.2.1 fr'
theorem D0 {S:FuncId→Option (Spec E)} {L:Nat→de E} {N:Nat} {a b:Code} {i:Nat} (ha:(∀k cb,dK k a=some cb→TR S L N (i+k) cb)→fj S L N i a) (hb:(∀k cb,dK k b=some cb→TR S L N (i+dg a+k) cb)→fj S L N (i+dg a) b)
  (h: ∀k cb,(bif Nat.blt k (dg a)then dK k a else dK (k-dg a) b)=some cb→TR S L N (i+k) cb):fj S L N i a∧fj S L N (i+dg a) b:=by
 refine⟨ha fun k cb hk=>h k cb ?_,hb fun k cb hk=> ?_⟩
 ·rw[Tq (oS a k hk)];exact hk
 ·have:=h (dg a+k) cb (by rw[R5 (by omega),Nat.add_sub_cancel_left];exact hk)
  rwa [←Nat.add_assoc]at this
theorem jf {S:FuncId→Option (Spec E)} {L:Nat→de E} {N:Nat}: ∀(c:Code) (i:Nat),(∀k cb,dK k c=some cb→TR S L N (i+k) cb)→fj S L N i c
 | .seq a b,i,h=>D0 (jf a i) (jf b _) (fun k cb hk=>h k cb (by unfold dK;exact hk))
 | .cond _ a b,i,h=>D0 (jf a i) (jf b _) (fun k cb hk=>h k cb (by unfold dK;exact hk))
 | .block _ c,i,h=>jf c i fun k cb hk=>h k cb (by unfold dK;exact hk)
 | .loop c,i,h=>⟨h 0 c (by unfold dK;rfl),jf c (i+1) fun k cb hk=>by
   have:=h (k+1) cb (by unfold dK;exact hk)
   rwa [show i+(k+1)=i+1+k by omega]at this⟩
 | .skip,_,_=>trivial
 | .region _ _ _,_,_=>trivial
 | .exit _,_,_=>trivial
 | .ret,_,_=>trivial
 | .scope _,_,_=>trivial
 | .label _,_,_=>trivial
 | .goto _,_,_=>trivial
 | .rangeFunc ..,_,_=>trivial
 | .refuse _,_,_=>trivial
def sy (step:Fr E.T→St E.T→Tree (bV E)) (ks:List Nat) (iq:List (Nat×Nat)) (n:Nat) (h:Fr E.T) (st:St E.T) (out:bV E):Prop:=
 ∃m,∀fr0 st0,tP E ks iq n fr0 st0=some (h,st)→ ∃fr',(qz E step ks iq n m fr0 st0).get=some (out.1,fr',out.2.2)∧DH out.2.1 fr'
def forget (rs:List Nat) (fr:Fr E.T):Fr E.T:={s:=fC E rs 0 fr.s,d:=fr.d}
theorem Cl (rs:List Nat): ∀(l:List (az E.T)) (i:Nat),En (fC E rs i l) l
 |[],_=>trivial
 |v::r,i=>by
  unfold fC
  refine⟨?_,Cl rs r (i+1)⟩
  cases c9 rs i with
  |true=>exact .inr rfl
  |false=>exact .inl rfl
theorem yq (rs:List Nat) (fr:Fr E.T):DH (forget rs fr) fr:=⟨rfl,Cl rs fr.s 0⟩
def nx (E:Env) (ks:List Nat) (iq:List (Nat×Nat)) (rs:List Nat) (n:Nat) (p:bV E):Tree (Sum (Fr E.T×St E.T) (bV E)):=
 match p.1 with
 | .normal=>match tP E ks iq n p.2.1 p.2.2 with
  |some q=> .ret (.inl q)
  |none=> .fail
 |e=> .ret (.inr (e,forget rs p.2.1,p.2.2))
theorem sy.next {step:Fr E.T→St E.T→Tree (bV E)} {ks rs:List Nat} {iq:List (Nat×Nat)} {n:Nat} {h h':Fr E.T} {st st':St E.T} {out:bV E} (h1:((step h st).bind (nx E ks iq rs n)).get=some (.inl (h',st'))) (h2:sy step ks iq n h' st' out):sy step ks iq n h st out:=by
 obtain⟨m,hm⟩:=h2
 refine⟨m+1,fun fr0 st0 h0=> ?_⟩
 obtain⟨p,hs,h1⟩:=Tree.aA h1
 unfold qz
 rw[h0]
 simp only[Tree.get_bind,hs,Option.bind_some]
 obtain⟨e,fr,s⟩:=p
 cases e with
 |normal=>
  simp only[nx]at h1
  cases hh:tP E ks iq n fr s with
  |none=>rw[hh]at h1;cases h1
  |some q=>rw[hh]at h1;cases h1;exact hm _ _ hh
 |exit _=>cases h1
 |ret=>cases h1
 |panic _=>cases h1
theorem sy.stop {step:Fr E.T→St E.T→Tree (bV E)} {ks rs:List Nat} {iq:List (Nat×Nat)} {n:Nat} {h:Fr E.T} {st:St E.T} {out:bV E} (h1:((step h st).bind (nx E ks iq rs n)).get=some (.inr out)):sy step ks iq n h st out:=by
 refine⟨1,fun fr0 st0 h0=> ?_⟩
 obtain⟨p,hs,h1⟩:=Tree.aA h1
 unfold qz
 rw[h0]
 simp only[Tree.get_bind,hs,Option.bind_some]
 obtain⟨e,fr,s⟩:=p
 cases e with
 |normal=>
  simp only[nx]at h1
  cases hh:tP E ks iq n fr s with
  |none=>rw[hh]at h1;cases h1
  |some q=>rw[hh]at h1;cases h1
 |exit _=>cases h1;exact⟨_,rfl,yq rs fr⟩
 |ret=>cases h1;exact⟨_,rfl,yq rs fr⟩
 |panic _=>cases h1;exact⟨_,rfl,yq rs fr⟩
def isU {T:Nat→Type}:az T→Bool
 | .undef=>true
 |_=>false
def Aj {T:Nat→Type} (ks:List Nat):Nat→List (az T)→Bool
 |_,[]=>true
 |i,v::r=>(c9 ks i||isU v)&&Aj ks (i+1) r
def pick {T:Nat→Type}:List (Nat×az T)→Nat→az T
 |[],_=> .undef
 |(j,v) ::r,i=>bif Nat.beq i j then v else pick r i
def N1 {T:Nat→Type} (l:List (Nat×az T)) (n:Nat):List (az T):=(List.range n).map (pick l)
theorem KH {T:Nat→Type} (f:Nat→az T) (q:Nat): ∀ks:List Nat,pick (ks.map fun j=>(j,f j)) q=bif c9 ks q then f q else .undef
 |[]=>rfl
 |j::ks=>by
  simp only[List.map_cons,pick,c9,List.any_cons]
  cases h:Nat.beq q j with
  |true=>rw[Nat.eq_of_beq_eq_true h];rfl
  |false=>exact KH f q ks
theorem Kl {T:Nat→Type} (ks:List Nat): ∀(l:List (az T)) (i q:Nat),Aj ks i l=true→c9 ks (i+q)=false→nth l q .undef= .undef
 |[],_,_,_,_=>rfl
 |v::r,i,0,h,hm=>by
  unfold Aj at h
  rw[show c9 ks i=false from hm]at h
  have:=(Bool.and_eq_true _ _▸h).1
  cases v<;>first|rfl|cases this
 |v::r,i,q+1,h,hm=>by
  unfold Aj at h
  have:=(Bool.and_eq_true _ _▸h).2
  exact Kl ks r (i+1) q this (by rw[show i+1+q=i+(q+1)by omega];exact hm)
theorem QH {T:Nat→Type} {ks:List Nat} {l:List (az T)} (h:Aj ks 0 l=true):l=N1 (ks.map fun j=>(j,nth l j .undef)) l.length:=by
 refine List.ext_getElem (by simp[N1]) fun q h1 h2=> ?_
 have e1:nth l q .undef=l[q]:=by rw[kt,List.getD_eq_getElem?_getD,List.getElem?_eq_getElem h1];rfl
 simp only[N1,List.getElem_map,List.getElem_range,KH]
 cases hm:c9 ks q with
 |true=>exact e1.symm
 |false=>
  have:=Kl ks l 0 q h (by rw[Nat.zero_add];exact hm)
  rw[←e1,this];rfl
theorem Bl {α β:Type} (f:α→β): ∀ks:List α,ks.zip (ks.map f)=ks.map fun j=>(j,f j)
 |[]=>rfl
 |k::ks=>by simp[Bl f ks]
def I4 {T:Nat→Type}:List (az T)→List (az T)→Bool
 |[],[]=>true
 | .ptr o [] ::r,.ptr o' [] ::r'=>Nat.beq o o'&&I4 r r'
 |_,_=>false
theorem HU {T:Nat→Type}: ∀(l l':List (az T)),I4 l l'=true→l=l'
 |[],[],_=>rfl
 | .ptr o [] ::r,.ptr o' [] ::r',h=>by
  simp only[I4,Bool.and_eq_true]at h
  rw[Nat.eq_of_beq_eq_true h.1,HU r r' h.2]
 |[],x::r,h=>by cases x<;>cases h
 |x::r,[],h=>by cases x<;>first|cases h|(rename_i p;cases p<;>cases h)
 | .ptr o [] ::r,.ptr o' (_::_) ::r',h=>by cases h
 | .ptr o (_::_) ::r,y::r',h=>by cases y<;>cases h
 | .val .. ::_,_::_,h=>by cases h
 | .bm::_,_::_,h=>by cases h
 | .own .. ::_,_::_,h=>by cases h
 | .cQ::_,_::_,h=>by cases h
 | .eg .. ::_,_::_,h=>by cases h
 | .agg .. ::_,_::_,h=>by cases h
 | .jo .. ::_,_::_,h=>by cases h
 | .fn .. ::_,_::_,h=>by cases h
 | .ei::_,_::_,h=>by cases h
 | .fD .. ::_,_::_,h=>by cases h
 | .ct::_,_::_,h=>by cases h
 | .dD .. ::_,_::_,h=>by cases h
 | .undef::_,_::_,h=>by cases h
 | .ptr o [] ::r,.val .. ::_,h=>by cases h
 | .ptr o [] ::r,.bm::_,h=>by cases h
 | .ptr o [] ::r,.own .. ::_,h=>by cases h
 | .ptr o [] ::r,.cQ::_,h=>by cases h
 | .ptr o [] ::r,.eg .. ::_,h=>by cases h
 | .ptr o [] ::r,.agg .. ::_,h=>by cases h
 | .ptr o [] ::r,.jo .. ::_,h=>by cases h
 | .ptr o [] ::r,.fn .. ::_,h=>by cases h
 | .ptr o [] ::r,.ei::_,h=>by cases h
 | .ptr o [] ::r,.fD .. ::_,h=>by cases h
 | .ptr o [] ::r,.ct::_,h=>by cases h
 | .ptr o [] ::r,.dD .. ::_,h=>by cases h
 | .ptr o [] ::r,.undef::_,h=>by cases h
def RS {T:Nat→Type}:List (FuncId×List (az T))→List (FuncId×List (az T))→Bool
 |[],[]=>true
 |(f,l) ::r,(f',l') ::r'=>Nat.beq f f'&&(I4 l l'&&RS r r')
 |_,_=>false
theorem OC {T:Nat→Type}: ∀(l l':List (FuncId×List (az T))),RS l l'=true→l=l'
 |[],[],_=>rfl
 |(f,l) ::r,(f',l') ::r',h=>by
  simp only[RS,Bool.and_eq_true]at h
  have h1:f=f':=Nat.eq_of_beq_eq_true h.1
  rw[h1,HU l l' h.2.1,OC r r' h.2.2]
 |[],_::_,h=>by cases h
 |_::_,[],h=>by cases h
def Cu (E:Env) (n:Nat) (ks:List Nat) (iq:List (Nat×Nat)) (d:List (FuncId×List (az E.T))) (g:List (az E.T)→St E.T→Tree (bV E)) (fr:Fr E.T) (st:St E.T):Tree (bV E):=
 match tP E ks iq st.length fr st with
 |some (fr',st')=>bif Nat.beq st'.length st.length&&(Nat.beq fr'.s.length n&&(RS fr'.d d&&Aj ks 0 fr'.s))then g (ks.map fun j=>nth fr'.s j .undef) st' else .fail
 |none=> .fail
def qK (E:Env) (n:Nat) (d:List (FuncId×List (az E.T))) (ks:List Nat) (vals:List (az E.T)):Fr E.T:={s:=N1 (ks.zip vals) n,d:=d}
theorem P5 {n:Nat} {ks:List Nat} {iq:List (Nat×Nat)} {d:List (FuncId×List (az E.T))} {g:List (az E.T)→St E.T→Tree (bV E)} {step:Fr E.T→St E.T→Tree (bV E)} (h: ∀vals st out,(g vals st).get=some out→sy step ks iq st.length (qK E n d ks vals) st out)
  (fr:Fr E.T) (st:St E.T) (out:bV E) (hc:(Cu E n ks iq d g fr st).get=some out): ∃m fr',(qz E step ks iq st.length m fr st).get=some (out.1,fr',out.2.2)∧DH out.2.1 fr':=by
 unfold Cu at hc
 cases hh:tP E ks iq st.length fr st with
 |none=>rw[hh]at hc;cases hc
 |some p=>
  obtain⟨fr',st'⟩:=p
  rw[hh]at hc
  simp only at hc
  cases hb:(Nat.beq st'.length st.length&&(Nat.beq fr'.s.length n&&(RS fr'.d d&&Aj ks 0 fr'.s)))with
  |false=>rw[hb]at hc;cases hc
  |true=>
   rw[hb]at hc
   simp only[Bool.and_eq_true]at hb
   obtain⟨h0,h1,h2,h3⟩:=hb
   have e1:=QH h3
   rw[Nat.eq_of_beq_eq_true h1]at e1
   have e2:fr'=qK E n d ks (ks.map fun j=>nth fr'.s j .undef):=by
    unfold qK
    rw[Bl,←e1,←OC _ _ h2]
   obtain⟨m,hm⟩:=h _ st' out hc
   rw[Nat.eq_of_beq_eq_true h0]at hm
   obtain⟨fr2,h5,h6⟩:=hm fr st (by rw[hh,e2.symm])
   exact⟨m,fr2,h5,h6⟩
end
end
open Go
noncomputable section
theorem UI {P:Program} {E:Env} {t:TypeId} {ty:Ty} {i:TypeInfo} (h1:P.info? t=some i) (h2:i.size=E.size ty) (h3:i.bytes≤8192) (h4:i.zero=some (toV ty (dY E depth ty))) (h5:V1 P E t ty) (h6:Mp E depth ty=true):TyM P E t ty:=⟨⟨_,h1,h2,h3,h4⟩,h5,h6⟩
theorem Re {l:List Nat} {t:Nat} (h:c9 l t=true):t∈l:=by
 unfold c9 at h
 obtain⟨x,hx,he⟩:=List.any_eq_true.1 h
 rw[Nat.eq_of_beq_eq_true he]
 exact hx
theorem Vm (P:Program) (l:List Nat) (h:(l.all fun t=>(!P.eqGuardType P.depth t)&&((!P.stoodInHeld t)&&(match P.underlying t with|some (.struct fs)=>fs.toList.all (fun f=>c9 l f.type)|some (.array _ e)=>c9 l e|_=>true)))=true)
  (t:Nat) (ht:c9 l t=true):P.eqGuardType P.depth t=false∧P.stoodInHeld t=false∧(∀fs,P.underlying t=some (.struct fs)→ ∀f∈fs.toList,c9 l f.type=true)∧ ∀n e,P.underlying t=some (.array n e)→c9 l e=true:=by
 have:=List.all_eq_true.1 h t (Re ht)
 simp only[Bool.and_eq_true,Bool.not_eq_true']at this
 refine⟨this.1,this.2.1,fun fs hfs f hf=> ?_,fun n e hfs=> ?_⟩
 ·have h2:=this.2.2
  rw[hfs]at h2
  exact List.all_eq_true.1 h2 f hf
 ·have h2:=this.2.2
  rw[hfs]at h2
  exact h2
end
open Go
noncomputable section
def sn (E:Env) (te:Ty) (args:List (az E.T)) (st:St E.T):Tree (iT E.T×St E.T):=
 match args with
 |[.val (.slice t) xs]=>bif jn t te then .ret (.ret [.own st.length],st++[.arr .live t xs])else .fail
 |_=> .fail
section
variable {P:Program} {E:Env} {w w':World} {σ:Sg} {st:St E.T}
theorem SS {te:Ty} {e:Ending} (h:Hs E σ st st w (.ret [.bm]) e w'):Hs E σ st (st++[.arr .live te []]) w (.ret [.own st.length]) e w':=by
 obtain⟨σ',m,hr⟩:=h
 cases e with
 |returned v=>
  have hv:a8 E σ' st w' (MB σ' st) .bm v:=hr
  obtain⟨a,rfl⟩:=Jf hv
  have hp:=Mv.KF (E:=E) m.rep (.slice a 0 0) (.arr .live te []) (by cases a<;>rfl) (fun σ' st' w' M'=> .arr .live te [] _ ⟨Nat.zero_le _,.inl ⟨⟨a,rfl⟩,rfl⟩⟩)
  refine⟨_,m.trans (Mv.x (ks:=[]) hp).f,?_⟩
  have h1:a8 E (dN σ' st.length (.slice a 0 0)) (st++[.arr .live te []]) w' (MB (dN σ' st.length (.slice a 0 0)) (st++[.arr .live te []])) (.own st.length) (toV (.slice te) [(dN σ' st.length (.slice a 0 0)) st.length]):=
   .data _ _ _ (.own st.length .live te [] (by rw[cX];simp))
  have h2:(dN σ' st.length (.slice a 0 0)) st.length= .slice a 0 0:=by simp[dN]
  rw[h2]at h1
  exact h1
 |panicked ch=>exact hr.elim
 |outgrown=>exact hr.elim
structure ik (E:Env) (fn:Func) (te:Ty) (R0 C R:Code) (F0 F2:List (I E.T te)→Fr E.T) (F3:List (I E.T te)→Nat→Fr E.T):Prop where
 r0: ∀xs st,(gh E (fun _=>none) (Zy E) 0 0 R0 (frame E fn [.val (.slice te) xs]) st).get=some (.normal,F0 xs,st)
 s0: ∀xs,cd E (F0 xs) (.tmp 0)= .val (.slice te) xs
 s3: ∀xs,cd E (put E (F0 xs) (some 3) (.val (.slice te) xs)) (.tmp 3)= .val (.slice te) xs
 c1: ∀xs st,(gh E (fun _=>none) (Zy E) 0 0 C (put E (put E (F0 xs) (some 3) (.val (.slice te) xs)) (some 4) (.val .bool true)) st).get=some (.ret,F2 xs,st)
 c2: ∀xs st,(gh E (fun _=>none) (Zy E) 0 0 C (put E (put E (F0 xs) (some 3) (.val (.slice te) xs)) (some 4) (.val .bool false)) st).get=some (.normal,put E (put E (F0 xs) (some 3) (.val (.slice te) xs)) (some 4) (.val .bool false),st)
 r: ∀xs st,(gh E (fun _=>none) (Zy E) 0 0 R (put E (put E (F0 xs) (some 3) (.val (.slice te) xs)) (some 4) (.val .bool false)) st).get=bif decide (List.length (α:=I E.T te) xs≤dy)then some (.ret,F3 xs st.length,st++[.arr .live te xs])else none
 d2: ∀xs,(F2 xs).d=[]
 l2: ∀xs st n,(leave E (D1 []) true n fn (F2 xs) st none).get=some (.ret [.bm],st)
 l3: ∀xs st n,(leave E (D1 []) true n fn (F3 xs st.length) (st++[.arr .live te xs]) none).get=some (.ret [.own st.length],st++[.arr .live te xs])
theorem nY (HS:Sound P E) (hmix:P.follows .mixedOrders=true) {f:FuncId} {fn:Func} {t:TypeId} {te:Ty} {R0 C R:Code} {id:Nat} {o1 o2:Oper} {sA:TypeId} {F0 F2:List (I E.T te)→Fr E.T} {F3:List (I E.T te)→Nat→Fr E.T} (hf:P.funcs[f]? =some fn)
  (hb:fn.body=some (.seq R0 (.seq (.seq (.region id #[o1,o2] false) C) R))) (h1:o1.op= .move (.tmp 0)∧o1.dst=some 3∧o1.guard=none)
  (h2:o2.op= .binOp .eql t (.tmp 3) (.const (.slice none 0 0)) sA∧o2.dst=some 4∧o2.guard=none) (ht: ∃e,P.underlying t=some (.slice e)) (hF:ik E fn te R0 C R F0 F2 F3):ub P E f (sn E te):=by
 intro σ st w ds us r st' hst hds h
 unfold sn at h
 split at h
 ·rename_i t' xs
  rw[cond_eq_ite]at h
  split at h
  ·rename_i hte
   have:=dP hte
   subst this
   cases h
   have HC:mN P E (fun _=>none):=GG HS (fun f s h=>by cases h)
   have HD: ∀g F,D1 ([]:List (Nat×l8 E)) g=some F→iC P E g F:=fun g F h=>by cases h
   have lp: ∀(c:Code) (i:Nat),fj (fun _=>none) (Zy E) 0 i c:=fun c i=>gS (fun _=>rfl) c i
   obtain⟨e,hte⟩:=ht
   refine calls_of_wp_defers hf hb (wp_seq (iN HS hmix HC R0 0 (lp _ _) hst (yp hds) (hF.r0 xs st) (fun σ1 w1 a1 x1 m1 hfr1 hx1=> ?_)))
   cases hx1
   refine wp_seq (wp_seq (wp_region ?_))
   obtain⟨d1,p1,ty1,pos1,af1,g1⟩:=o1
   obtain⟨d2,p2,ty2,pos2,af2,g2⟩:=o2
   obtain⟨rfl,rfl,rfl⟩:=h1
   obtain⟨rfl,rfl,rfl⟩:=h2
   have hd0:=hF.s0 xs
   show wpOps P _ _ [0,1] a1 w1
   unfold wpOps
   simp only[List.getElem?_toArray,List.getElem?_cons_zero]
   rw[if_pos (show Region.wanted _ _=true from rfl)]
   left
   refine Dt HS HC (S:=fun _=>none) (dr:=false) (out:= .next (put E (F0 xs) (some 3) (.val (.slice _) xs)) st) m1.rep hfr1 ?_ ?_
   ·simp only[pR]
    rw[hd0];rfl
   intro σ2 w2 a2 m2 hfr2
   have hv:=bY hfr2 (.tmp 3)
   rw[hF.s3]at hv
   have hev: ∃(a:Option Addr) (n cap:Nat),a2.eval (.tmp 3)= .slice a n cap∧(a=none→xs=[])∧List.length (α:=I E.T _) xs≤dy:=by
    generalize a2.eval (.tmp 3)=u3 at hv
    cases hv with
    |data _ _ cs hc=>
     cases hc with
     |val _ _ _ hc=>
      cases hc with
      |slice _ _ a cap cs hl hm hn hc=>
       refine⟨a,_,cap,rfl,fun ha=> ?_,hn⟩
       rcases hm with hm|hm
       ·exact hm
       ·subst ha
        obtain⟨b,o,h0,_⟩:=hm
        cases h0
   obtain⟨a,n,cap,hev,hxs,hlim⟩:=hev
   unfold wpOps
   simp only[List.getElem?_toArray,List.getElem?_cons_succ,List.getElem?_cons_zero]
   rw[if_pos (show Region.wanted _ _=true from rfl)]
   left
   refine eo (v:= .val .bool a.isNone) m2.rep hfr2 ⟨.bool a.isNone,by rw[hev];exact Lib.run_eql_slice_nil w2 t e a n cap 0 0 hte,gy _⟩ rfl ?_
   intro σ3 w3 a3 m3 hfr3
   cases a with
   |none=>
    obtain rfl:=hxs rfl
    refine iN HS hmix HC C 0 (lp _ _) m3.rep hfr3 (hF.c1 [] st) (fun σ4 w4 a4 x4 m4 hfr4 hx4=> ?_)
    cases hx4
    have hl:=pF (aM:=true) HS HD (m1.trans (m2.trans (m3.trans m4))) hfr4 .none (fun v h=>by cases h) (hF.l2 [] st st.length)
    have hdd:=hfr4.d
    rw[hF.d2]at hdd
    have hde:a4.defers=[]:=by
     generalize a4.defers=ds at hdd
     cases hdd
     rfl
    rw[hde]at hl
    obtain⟨v,hv,hbk⟩:=hl
    show Leaves P fn a4.tmps _ a4.defers .returning w4
    rw[hde]
    exact⟨v,hv,SS hbk⟩
   |some a=>
    refine iN HS hmix HC C 0 (lp _ _) m3.rep hfr3 (hF.c2 xs st) (fun σ4 w4 a4 x4 m4 hfr4 hx4=> ?_)
    cases hx4
    refine iN HS hmix HC R 0 (lp _ _) m4.rep hfr4 (by rw[hF.r xs st,decide_eq_true hlim];rfl) (fun σ5 w5 a5 x5 m5 hfr5 hx5=> ?_)
    cases hx5
    exact pF (aM:=true) HS HD (m1.trans (m2.trans (m3.trans (m4.trans m5)))) hfr5 .none (fun v h=>by cases h) (hF.l3 xs st st.length)
  ·cases h
 ·cases h
end
end
open Go Go.ChangeShapes Go.RowKit
noncomputable section
structure TQ {H:Type} (μ:DataW H→Nat):Prop where
 str: ∀b,b.length≤μ (.lit (.string b))
 len: ∀l r,l.length≤μ (.slice l r)
 el: ∀l r d,d∈l→μ d≤μ (.slice l r)
 part: ∀l d,d∈l→μ d≤μ (.agg l)
section
variable (E:Env) (B:Nat)
def Qo (f:(t:Ty)→I E.T t→Prop):(ts:List Ty)→HL E.T ts→Prop
 |[],_=>True
 |t::ts,x=>f t x.1∧Qo f ts x.2
def So:Nat→(t:Ty)→I E.T t→Prop
 |0,_,_=>True
 |d+1,t,x=>
  match t with
  | .bool=>True
  | .int k=>k.min≤toI k x∧toI k x≤k.max
  | .str=>List.length (α:=UInt8) x≤B
  | .slice e=>List.length (α:=I E.T e) x≤B∧ ∀y∈(show List (I E.T e)from x),So d e y
  | .arr n e=>List.length (α:=I E.T e) x=n∧ ∀y∈(show List (I E.T e)from x),So d e y
  | .named i=>Qo E (So d) (E.fields i) (E.out i x)
end
section
variable {P:Program} {E:Env} {H:Type} {enc:TypeId×Value→H} {w w':World} {B:Nat} {μ:DataW H→Nat}
theorem R1 {base:Nat} {a:Addr} {n:Nat} {cs:List Value} (h:w.cells? base a n=some cs):cs.length=n∧ ∀i,i<n→w.cell? (a.add i)=cs[i]? :=by
 unfold World.cells? at h
 split at h
 ·refine⟨by simpa using mapM_some_length h,fun i hi=> ?_⟩
  exact mapM_some_get h i i (by simp[hi])
 ·cases h
theorem add_zero (a:Addr):a.add 0=a:=by unfold Addr.add;simp
theorem P9 {a:Addr} {v:Value} (h:w.cell? a=some v):a=⟨a.block,a.off,none⟩:=by
 unfold World.cell? at h
 split at h
 ·split at h
  ·cases h
  ·rename_i hs
   obtain⟨b,o,s⟩:=a
   simp at hs
   subst hs
   rfl
 ·cases h
theorem sq {t:TypeId} {ty:Ty} (HS:Sound P E) (h:E.tk t= .data ty):P.cellsOf t=E.size ty:=by
 obtain⟨i,hi,hs,_⟩:=(HS.data t ty h).info
 unfold Program.cellsOf
 rw[hi];exact hs
theorem PI {i j:Nat} {ty:Ty} (h:aR (E.fields i) j=some ty):E.qM i (j+1)=E.qM i j+E.size ty:=by
 unfold Env.qM
 rw[cX]at h
 rw[List.take_add_one,h]
 simp
theorem Tm (HS:Sound P E) (htl: ∀t,E.tk t≠ .other→t<P.types.size) (hz: ∀t e,t<P.types.size→P.underlying t=some (.slice e)→0<P.cellsOf e) (hμ:TQ μ) (hB:B≤dy) {M:Nat→Prop} (hM: ∀b,¬M b): ∀(fuel:Nat) {t:TypeId} {ty:Ty} {cs:List Value} {y:DataW H×List MemPlace},E.tk t= .data ty→
  DataW.trod enc P w 0 (fun _=>true) true fuel t cs=some y→μ y.1≤B→ ∃x:I E.T ty,cF E w M ty x cs∧ ∀d,So E B d ty x:=by
 intro fuel
 induction fuel with
 |zero=>intro t ty cs y _ h;simp[DataW.trod]at h
 |succ fuel ih=>
  intro t ty cs y ht h hy
  have hd:=(HS.data t ty ht).desc
  cases ty with
  |bool=>
   obtain⟨b,rfl,rfl⟩:=DataW.trod_bool hd h
   exact⟨b,.bool b,fun d=>by cases d<;>exact trivial⟩
  |int k=>
   obtain⟨n,rfl,rfl,hw⟩:=DataW.trod_int hd h
   simp only[Lit.wf,Bool.and_eq_true,decide_eq_true_eq]at hw
   have htn:toI k (As k n)=n:=toI_ofI k n (fun hk=>by
    subst hk
    simp[IntKind.min,IntKind.max,IntKind.signed,IntKind.bits]at hw
    omega)
   refine⟨As k n,?_,fun d=> ?_⟩
   ·have:=cF.int (E:=E) (w:=w) (M:=M) k (As k n)
    rwa [htn]at this
   ·cases d with
    |zero=>exact trivial
    |succ d=>show k.min≤toI k (As k n)∧toI k (As k n)≤k.max;rw[htn];exact hw
  |str=>
   obtain⟨s,rfl,rfl,hs⟩:=DataW.trod_string hd h
   have hl:=hμ.str s.data.toList
   have hsz:s.data.toList.length=s.size:=Array.length_toList
   refine⟨s.data.toList,.str s (by simp only at hy;omega),fun d=> ?_⟩
   cases d with
   |zero=>exact trivial
   |succ d=>show s.data.toList.length≤B;simp only at hy;omega
  |slice e=>
   obtain⟨te,hu,hte⟩:=hd
   rcases DataW.trod_slice hu h with⟨rfl,rfl⟩|⟨a,len,cap,elems,rest,n,hn,rfl,rfl,_,hl,hmx,hel,hx,_⟩
   ·refine⟨[],.slice e [] none 0 [] (.nil e) (.inl rfl) (Nat.zero_le _) (Nat.le_refl _),fun d=> ?_⟩
    cases d with
    |zero=>exact trivial
    |succ d=>exact⟨Nat.zero_le _,fun y hy=>by cases hy⟩
   ·cases hn
    have hpos:0<P.cellsOf te:=hz t te (htl t (by rw[ht];exact fun h=>by cases h)) hu
    have hsz:=sq HS hte
    have hlenB:len≤B:=by
     have:=hμ.len (elems.map (·.1)) (rest.map (·.1))
     rw[List.length_map,hel]at this
     exact Nat.le_trans this hy
    have helB: ∀p∈elems,μ p.1≤B:=fun p hp=>Nat.le_trans (hμ.el _ _ _ (List.mem_map.2 ⟨p,hp,rfl⟩)) hy
    have rows: ∀k,k≤len→ ∃(xs:List (I E.T e)) (c:List Value),xs.length=k∧bE E w M e xs c∧(∀q u,c[q]? =some u→w.cell? (a.add q)=some u)∧ ∀y∈xs,∀d,So E B d e y:=by
     intro k
     induction k with
     |zero=>intro _;exact⟨[],[],rfl,.nil e,fun q u hq=>by simp at hq,fun y hy=>by cases hy⟩
     |succ k ihk=>
      intro hk
      obtain⟨xs,c,h1,h2,h3,h4⟩:=ihk (by omega)
      have hkx:=hx k (by omega)
      have hke:elems[k]? =some (elems[k]'(by omega)):=List.getElem?_eq_getElem _
      rw[hke]at hkx
      obtain⟨cs1,hc1,ht1⟩:=Option.bind_eq_some_iff.1 hkx
      obtain⟨x,hx1,hx2⟩:=ih hte ht1 (helB _ (List.getElem_mem _))
      obtain⟨hcl,hcc⟩:=R1 hc1
      have hlr:=bE.append h2 (.cons e x [] cs1 [] hx1 (.nil e))
      rw[List.append_nil]at hlr
      refine⟨xs++[x],c++cs1,by simp[h1],hlr,fun q u hq=> ?_,fun y hy=> ?_⟩
      ·have hclen:=bE.len HS.todq h2
       rw[h1,←hsz]at hclen
       by_cases hqc:q<c.length
       ·rw[List.getElem?_append_left hqc]at hq
        exact h3 q u hq
       ·rw[List.getElem?_append_right (by omega)]at hq
        have hq2:=(List.getElem?_eq_some_iff.1 hq).1
        have h5:=hcc (q-c.length) (by omega)
        rw[hq]at h5
        have h6:(a.add (k*P.cellsOf te)).add (q-c.length)=a.add q∨q-c.length=0∧q=k*P.cellsOf te:=by
         by_cases h0:q-c.length=0
         ·right;exact⟨h0,by omega⟩
         ·left
          unfold Addr.add
          by_cases h7:k*P.cellsOf te=0
          ·rw[if_pos h7,if_neg h0,if_neg (by omega)]
           congr 1
           omega
          ·rw[if_neg h7,if_neg h0,if_neg (by omega)]
           simp only
           congr 1
           omega
        rcases h6 with h6|⟨h6,h7⟩
        ·rw[←h6];exact h5
        ·rw[h6,add_zero]at h5
         rw[h7];exact h5
      ·rcases List.mem_append.1 hy with hy|hy
       ·exact h4 y hy
       ·simp at hy;subst hy;exact hx2
    obtain⟨xs,c,h1,h2,h3,h4⟩:=rows len (Nat.le_refl _)
    have hc:=cF.slice (E:=E) (w:=w) (M:=M) e xs (some a) cap c h2 (by
     by_cases h0:xs=[]
     ·exact .inl h0
     ·right
      have hlen0:0<xs.length:=List.length_pos_iff.2 h0
      have hcl:=bE.len HS.todq h2
      rw[←hsz]at hcl
      have hc0:0<c.length:=by rw[hcl];exact Nat.mul_pos hlen0 hpos
      have h5:=h3 0 _ (List.getElem?_eq_getElem hc0)
      rw[add_zero]at h5
      have hsp:=P9 h5
      refine⟨a.block,a.off,by rw[←hsp],hM _,Tn h5,fun q u hq=> ?_⟩
      have:=h3 q u hq
      rw[hsp,dS]at this
      exact this) (by omega) (by omega)
    rw[h1]at hc
    refine⟨xs,hc,fun d=> ?_⟩
    cases d with
    |zero=>exact trivial
    |succ d=>exact⟨by rw[h1];exact hlenB,fun y hy=>h4 y hy d⟩
  |arr n e=>
   obtain⟨te,hu,hte⟩:=hd
   obtain⟨ys,m,hm,rfl,hcl,hyl,hx⟩:=DataW.trod_array hu h
   cases hm
   have hsz:=sq HS hte
   have hsa:=sq HS ht
   have hyB: ∀p∈ys,μ p.1≤B:=fun p hp=>Nat.le_trans (hμ.part _ _ (List.mem_map.2 ⟨p,hp,rfl⟩)) hy
   rw[hsa]at hcl
   simp only[Env.size]at hcl
   have rows: ∀k,k≤n→ ∃(xs:List (I E.T e)),xs.length=k∧bE E w M e xs (cs.take (k*E.size e))∧ ∀y∈xs,∀d,So E B d e y:=by
    intro k
    induction k with
    |zero=>intro _;exact⟨[],rfl,by simp;exact .nil e,fun y hy=>by cases hy⟩
    |succ k ihk=>
     intro hk
     obtain⟨xs,h1,h2,h4⟩:=ihk (by omega)
     have hkx:=hx k (by omega)
     have hke:ys[k]? =some (ys[k]'(by omega)):=List.getElem?_eq_getElem _
     rw[hke]at hkx
     obtain⟨x,hx1,hx2⟩:=ih hte hkx (hyB _ (List.getElem_mem _))
     have hlr:=bE.append h2 (.cons e x [] _ [] hx1 (.nil e))
     rw[List.append_nil,hsz,←List.take_add]at hlr
     refine⟨xs++[x],by simp[h1],by rw[Nat.add_mul,Nat.one_mul];exact hlr,fun y hy=> ?_⟩
     rcases List.mem_append.1 hy with hy|hy
     ·exact h4 y hy
     ·simp at hy;subst hy;exact hx2
   obtain⟨xs,h1,h2,h4⟩:=rows n (Nat.le_refl _)
   rw[List.take_of_length_le (by omega)]at h2
   refine⟨xs,.arr n e xs cs h1 h2,fun d=> ?_⟩
   cases d with
   |zero=>exact trivial
   |succ d=>exact⟨h1,fun y hy=>h4 y hy d⟩
  |named i=>
   obtain⟨fs,hu,hfl,hf⟩:=hd
   obtain⟨ys,m,hm,rfl,hcl,hyl,hx⟩:=DataW.trod_struct hu h
   cases hm
   have hsa:=sq HS ht
   have hyB: ∀p∈ys,μ p.1≤B:=fun p hp=>Nat.le_trans (hμ.part _ _ (List.mem_map.2 ⟨p,hp,rfl⟩)) hy
   rw[hsa]at hcl
   simp only[Env.size]at hcl
   have rows: ∀(k j:Nat),k+j=(E.fields i).length→ ∃r:HL E.T ((E.fields i).drop j),l7 E w M ((E.fields i).drop j) r (cs.drop (E.qM i j))∧ ∀d,Qo E (So E B d) ((E.fields i).drop j) r:=by
    intro k
    induction k with
    |zero=>
     intro j hj
     have hdr:(E.fields i).drop j=[]:=List.drop_of_length_le (by omega)
     have hoff:E.qM i j=cs.length:=by
      rw[hcl,HS.todq.zL]
      unfold Env.qM
      rw[List.take_of_length_le (by omega)]
     rw[hdr,hoff,List.drop_length]
     exact⟨(),.nil,fun d=>trivial⟩
    |succ k ihk=>
     intro j hj
     obtain⟨r,hr,hw⟩:=ihk (j+1) (by omega)
     have hjf:j<fs.size:=by omega
     have hfj:fs[j]? =some fs[j]:=Array.getElem?_eq_getElem _
     obtain⟨ty,h1,h2,h3,h4,h5⟩:=hf j _ hfj
     have hxj:=hx j _ hfj
     have hyj:ys[j]? =some (ys[j]'(by omega)):=List.getElem?_eq_getElem _
     rw[hyj]at hxj
     obtain⟨x,hx1,hx2⟩:=ih h2 hxj (hyB _ (List.getElem_mem _))
     rw[h3,sq HS h2]at hx1
     have hdr:(E.fields i).drop j=ty::(E.fields i).drop (j+1):=by
      rw[cX]at h1
      obtain⟨hlt,he⟩:=List.getElem?_eq_some_iff.1 h1
      rw[←he]
      exact List.drop_eq_getElem_cons hlt
     rw[PI h1]at hr
     rw[hdr]
     refine⟨(x,r),?_,fun d=>⟨hx2 d,hw d⟩⟩
     have hcat:cs.drop (E.qM i j)=(cs.drop (E.qM i j)).take (E.size ty)++cs.drop (E.qM i j+E.size ty):=by rw[←List.drop_drop,List.take_append_drop]
     rw[hcat]
     exact .cons ty _ x r _ _ hx1 hr
   have hall: ∃r:HL E.T (E.fields i),l7 E w M (E.fields i) r cs∧ ∀d,Qo E (So E B d) (E.fields i) r:=by
    have h:=rows (E.fields i).length 0 (by omega)
    have h0:E.qM i 0=0:=by simp[Env.qM]
    rw[h0]at h
    exact h
   obtain⟨r,hr,hw⟩:=hall
   refine⟨E.Dg i r,.named i _ cs (by rw[HS.todq.pC];exact hr),fun d=> ?_⟩
   cases d with
   |zero=>exact trivial
   |succ d=>show Qo E (So E B d) (E.fields i) (E.out i (E.Dg i r));rw[HS.todq.pC];exact hw d
theorem UK {OY:List TK} (htk: ∀t,E.tk t=nth OY t .other) (h:OY.length≤P.types.size): ∀t,E.tk t≠ .other→t<P.types.size:=by
 intro t ht
 rcases Nat.lt_or_ge t OY.length with h1|h1
 ·exact Nat.lt_of_lt_of_le h1 h
 ·exfalso
  apply ht
  rw[htk,kt,List.getD_eq_getElem?_getD,List.getElem?_eq_none h1]
  rfl
inductive DK (E:Env) (B:Nat):List Ty→List (az E.T)→Prop where
 |nil:DK E B [] []
 |cons (t:Ty) (ts:List Ty) (x:I E.T t) (ds:List (az E.T)) (h: ∀d,So E B d t x) (h':DK E B ts ds):DK E B (t::ts) (.val t x::ds)
theorem toV_of (HS:Sound P E) {t:TypeId} {ty:Ty} {r:Reach} {base:Nat} {v:Value} (ht:E.tk t= .data ty) (h:Value.okWide P w r base t v):toV ty v.cells.toList=v:=by
 have hd:=(HS.data t ty ht).desc
 cases ty with
 |bool=>
  unfold Value.okWide at h
  rw[hd]at h
  unfold Cell.okWide Cell.ok at h
  rw[hd]at h
  cases v<;>simp at h<;>rfl
 |int k=>
  unfold Value.okWide at h
  rw[hd]at h
  unfold Cell.okWide Cell.ok at h
  rw[hd]at h
  cases v<;>simp at h<;>rfl
 |str=>
  unfold Value.okWide at h
  rw[hd]at h
  unfold Cell.okWide Cell.ok at h
  rw[hd]at h
  cases v<;>simp at h<;>rfl
 |slice e=>
  obtain⟨te,hu,_⟩:=hd
  unfold Value.okWide at h
  rw[hu]at h
  unfold Cell.okWide Cell.ok at h
  rw[hu]at h
  cases v<;>simp at h<;>rfl
 |arr n e=>
  obtain⟨te,hu,_⟩:=hd
  unfold Value.okWide at h
  rw[hu]at h
  obtain⟨cs,rfl,_⟩:=h
  simp[toV,dX,Value.cells]
 |named i=>
  obtain⟨fs,hu,_⟩:=hd
  unfold Value.okWide at h
  rw[hu]at h
  obtain⟨cs,rfl,_⟩:=h
  simp[toV,dX,Value.cells]
theorem OE (HS:Sound P E) (htl: ∀t,E.tk t≠ .other→t<P.types.size) (hz: ∀t e,t<P.types.size→P.underlying t=some (.slice e)→0<P.cellsOf e) (hμ:TQ μ) (hB:B≤dy) {M:Nat→Prop} (hM: ∀b,¬M b) {r:Reach} {base:Nat} (σ:Sg) (st:St E.T): ∀(ts:List TypeId) (ps:List Ty) (us:List Value) (ds:List (DataW H)) (pl:List MemPlace),
  ts.map E.tk=ps.map .data→DataW.TrodAll enc P w 0 (fun _=>true) true ts us ds pl→(∀d∈ds,μ d≤B)→(∀(j:Nat) t v,ts[j]? =some t→us[j]? =some v→Value.okWide P w r base t v)→
  ∃xs,DK E B ps xs∧aW E σ st w M xs us
 |[],[],us,ds,pl,_,h,_,_=>by
  obtain⟨rfl,rfl,_⟩:=trodAll_nil h
  exact⟨[],.nil,.nil⟩
 |[],_::_,us,ds,pl,hp,_,_,_=>by cases hp
 |_::_,[],us,ds,pl,hp,_,_,_=>by cases hp
 |t::ts,ty::ps,us,ds,pl,hp,h,hb,hok=>by
  obtain⟨v,vs,d,ds',p,q,rfl,rfl,rfl,⟨n,h1⟩,h2⟩:=trodAll_cons h
  simp only[List.map_cons,List.cons.injEq]at hp
  obtain⟨x,hx1,hx2⟩:=Tm HS htl hz hμ hB hM n hp.1 h1 (hb d (by simp))
  obtain⟨xs,hxs,hr⟩:=OE HS htl hz hμ hB hM σ st ts ps vs ds' q hp.2 h2 (fun d' hd'=>hb d' (by simp[hd'])) (fun j t' v' h3 h4=>hok (j+1) t' v' (by simpa using h3) (by simpa using h4))
  refine⟨.val ty x::xs,.cons ty ps x xs hx2 hxs,.cons _ _ _ _ ?_ hr⟩
  have hv:=a8.data (E:=E) (σ:=σ) (st:=st) (w:=w) (M:=M) ty _ _ (.val ty x _ hx1)
  rw[toV_of HS hp.1 (hok 0 t v rfl rfl)]at hv
  exact hv
theorem Hv (hl:laidOutB P=true): ∀(ts:List TypeId) {us:List Value} {ds:List (DataW H)} {pl:List MemPlace},(∀t∈ts,P.readableRec t=true∧t<P.types.size)→DataW.TrodAll enc P w 0 (fun _=>true) true ts us ds pl→(∀p∈pl,w.sameAt w' p)→
  ∀sp:Nat→Bool,(∀p∈pl,sp p.block=true)→DataW.TrodAll enc P w' 0 sp true ts us ds pl
 |[],us,ds,pl,_,h,_,sp,_=>by
  obtain⟨rfl,rfl,rfl⟩:=trodAll_nil h
  exact trodAll_mk0
 |t::ts,us,ds,pl,ht,h,hs,sp,hsp=>by
  obtain⟨v,vs,d,ds',p,q,rfl,rfl,rfl,h1,h2⟩:=trodAll_cons h
  have h3:=ht t (by simp)
  exact trodAll_cons_mk (WideElems.Trod_stays hl h3.1 h3.2 h1 (fun x hx=>hs x (by simp[hx])) (fun x hx=>hsp x (by simp[hx])))
   (Hv hl ts (fun t' ht'=>ht t' (by simp[ht'])) h2 (fun x hx=>hs x (by simp[hx])) sp (fun x hx=>hsp x (by simp[hx])))
theorem Jp (HS:Sound P E) (htl: ∀t,E.tk t≠ .other→t<P.types.size) (hl:laidOutB P=true) (hz: ∀t e,t<P.types.size→P.underlying t=some (.slice e)→0<P.cellsOf e) (hμ:TQ μ) (hB:B≤dy) {fid:FuncId} {fn:Func} {tb:TypeId} (hrt:fn.resultTypes= #[tb]) (htb:P.underlying tb=some .bool)
  {ps:List Ty} (hps:fn.params.toList.map E.tk=ps.map .data) (hrd: ∀t∈fn.params.toList,P.readableRec t=true∧t<P.types.size) {s:ChangeSpec} (hv:s.vars=[]) (hfn: ∀ds:List (DataW H),ds.length=fn.params.toList.length→s.fn H ds={results:=[.lit (.bool true)],args:=ds})
  {F:List (az E.T)→St E.T→Tree (iT E.T×St E.T)} (hF:ub P E fid F) (law: ∀xs,DK E B ps xs→(F xs []).get=some (.ret [.val .bool true],[]))
  (W:World) (base:Nat) (args:Array Value) (ds gs:List (DataW H)) (before:List MemPlace) (hval: ∀(j:Nat) t v,fn.params[j]? =some t→args[j]? =some v→Value.okWide P W .any base t v)
  (hW:DataW.Whole enc P fn.params.toList s.vars false W args.toList ds gs before) (hk: ∀d∈ds,μ d≤B):
  Calls P fid args W fun e W'=> ∃v,e= .returned v∧s.post enc P fn false true false false W args v W':=by
 have hW':=hW
 have hlt:=hW.lt
 obtain⟨p,q,hA,hV,hbe,hfz,hnd⟩:=hW'
 have hgs:gs=[]∧q=[]:=by
  rw[hv]at hV
  cases gs with
  |nil=>exact⟨rfl,hV⟩
  |cons g gs=>exact hV.elim
 obtain⟨rfl,rfl⟩:=hgs
 rw[List.append_nil]at hbe
 subst hbe
 obtain⟨xs,hxs,hr⟩:=OE HS htl hz hμ hB (M:=fun _=>False) (fun _ h=>h) {f:=fun _=> .tuple #[],m:=fun _=>False} ([]:St E.T) fn.params.toList ps args.toList ds before hps hA hk (fun j t v h1 h2=>hval j t v (by simpa using h1) (by simpa using h2))
 have hst:=E3 (E:=E) (σ:={f:=fun _=> .tuple #[],m:=fun _=>False}) (w:=W) (M:=fun _=>False) (fun b hb=>hb.elim)
 have hc:=hF hst (aW.aM (Kept.weaken fun b hb=>Bi.1 hb) hr (fun k _=>ij.refl k)) (law xs hxs)
 rw[Array.toArray_toList]at hc
 refine hc.mono fun e W' hb=> ?_
 obtain⟨σ',m,hres⟩:=hb
 cases e with
 |returned v=>
  have hvb:=zn (show a8 E σ' ([]:St E.T) W' (MB σ' ([]:St E.T)) (.val .bool true) v from hres)
  subst hvb
  have hsame: ∀b,b<W.heap.size→W'.heap[b]? =W.heap[b]? :=fun b hb=>m.aM.block b hb (fun h=>Bi.1 h)
  have hlen:ds.length=fn.params.toList.length:=by
   have: ∀(ts:List TypeId) (us:List Value) (ds:List (DataW H)) (pl:List MemPlace),DataW.TrodAll enc P W 0 (fun _=>true) true ts us ds pl→ds.length=ts.length:=by
    intro ts
    induction ts with
    |nil=>intro us ds pl h;obtain⟨rfl,rfl,_⟩:=trodAll_nil h;rfl
    |cons t ts ih=>
     intro us ds pl h
     obtain⟨v,vs,d,ds',p,q,rfl,rfl,rfl,_,h2⟩:=trodAll_cons h
     simp[ih _ _ _ h2]
   exact this _ _ _ _ hA
  have hsat: ∀p∈before,W.sameAt W' p:=by
   intro p hp
   have hb:=hlt p hp
   cases p with
   |cell b off=>exact wE (hsame b hb)
   |map b=>exact hsame b hb
  have hfn':=hfn ds hlen
  refine⟨_,rfl,ds,[],before,[],before,[],hW,?_,?_,?_,?_,fun h=>by cases h⟩
  ·rw[List.append_nil,hfn',hrt]
   exact trodAll_cons_mk (shut_bool htb true) trodAll_mk0
  ·rw[List.append_nil,hfn']
   exact Hv hl _ hrd hA hsat _ (fun p hp=>by simpa using hlt p hp)
  ·rw[hv,List.append_nil,hfn']
   rfl
  ·refine⟨m.aM.os,m.aM.output,fun i hi=> ?_⟩
   rw[hsame i hi]
   generalize W.heap[i]? =o
   cases o with
   |none=>rfl
   |some o=>
    cases o with
    |cells c t fr=>exact⟨rfl,rfl,rfl,fun _ _=>rfl⟩
    |map es clock=>exact .inr ⟨rfl,rfl⟩
    |_=>rfl
 |panicked ch=>exact hres.elim
 |outgrown=>exact hres.elim
end
end
open Go
noncomputable section
def stepOf (E:Env) (S:List (Nat×Spec E)) (L:Nat→de E) (N k:Nat) (fn:Func):Fr E.T→St E.T→Tree (bV E):=
 match fn.body with
 |some c=>match dK k c with
  |some cb=>gh E (jY S) L N (k+1) cb
  |none=>fun _ _=> .fail
 |none=>fun _ _=> .fail
theorem R4 {P:Program} {E:Env} (HS:Sound P E) (hmix:P.follows .mixedOrders=true) {S:List (Nat×Spec E)} (hS:G3 P E S) {SD:List (Nat×l8 E)} (hD:Mn P E SD) {L:Nat→de E} {N:Nat} {aM:Bool} {f:FuncId} {fn:Func} {c:Code} (hf:P.funcs[f]? =some fn) (hb:fn.body=some c)
  (h: ∀k g,(L k).closed=some g→ ∀fr st out,(g fr st).get=some out→ ∃m fr',(qz E (stepOf E S L N k fn) (L k).aM (L k).iq st.length m fr st).get=some (out.1,fr',out.2.2)∧DH out.2.1 fr'):
  ub P E f (OB E (jY S) (D1 SD) L N aM fn):=by
 refine RO HS hmix (GG HS (xX hS)) (K1 hD) hf hb (jf c 0 fun k cb hk f' hf'=> ?_)
 rw[Nat.zero_add]at hf'⊢
 have:=h k f' hf'
 unfold stepOf at this
 rw[hb]at this
 simp only[hk]at this
 exact this
structure LpI (E:Env) where
 ks:List Nat
 iq:List (Nat×Nat):=[]
 xM:List Qk:=[]
 d:List (FuncId×List (az E.T)):=[]
 g:Option (List (az E.T)→St E.T→Tree (bV E)):=none
def M4 {E:Env}:List (LpI E)→Nat→Option (LpI E)
 |[],_=>none
 |l::_,0=>some l
 |_::r,i+1=>M4 r i
def GF (E:Env) (n:Nat) (ls:List (LpI E)) (rs:List (Nat×List Qk)) (i:Nat):de E:=
 match M4 ls i with
 |some ⟨ks,iq,xM,d,g⟩=>{aM:=ks,iq:=iq,xM:=xM,closed:=(match g with|some g=>some (Cu E n ks iq d g)|none=>none),reg:=regOf rs i}
 |none=>{aM:=[],closed:=none,reg:=regOf rs i}
where
 regOf:List (Nat×List Qk)→Nat→List Qk
  |[],_=>[]
  |(j,l) ::r,i=>bif Nat.beq j i then l else regOf r i
end
end Go.Proofs.YtlejgahbbfeagaaGreatDoor.D

namespace Go.Proofs.YtlejgahbbfeagaaGreatDoor.N
open Go
@[reducible] def dy:Nat:=2147483648
@[reducible] def ay (n:Int):Int:=IntKind.i64.wrap n
@[reducible] def qE (n:Int):Int:=IntKind.u8.wrap n
@[reducible] def OQ (n:Int):Int:=IntKind.u16.wrap n
@[reducible] def uP (n:Int):Int:=IntKind.u64.wrap n
@[reducible] def i8 (x:UInt8):Int:=(x.toNat:Int)
@[reducible] def b8 (n:Int):UInt8:=UInt8.ofNat n.toNat
def cL (i:Int) (n:Nat):Bool:=decide (0≤i)&&decide (i<n)
def j2 (lo hi:Int) (n:Nat):Bool:=decide (0≤lo)&&(decide (lo≤hi)&&decide (hi≤n))
def eD {α:Type} (xs:List α) (lo hi:Int):List α:=(xs.take hi.toNat).drop lo.toNat
def ZC (a b:Int):Bool:=decide (0≤a)&&(decide (a=b)&&decide (a≤dy))
def Od (a:Int):Bool:=decide (0≤a)&&decide (a≤dy)
def GM (k:IntKind) (x y:Int):Int:=k.wrap (BitVec.ofInt k.bits x&&& BitVec.ofInt k.bits y).toNat
def bor (k:IntKind) (x y:Int):Int:=k.wrap (BitVec.ofInt k.bits x|||BitVec.ofInt k.bits y).toNat
def Hp (k:IntKind) (x y:Int):Int:=k.wrap (BitVec.ofInt k.bits x^^^BitVec.ofInt k.bits y).toNat
def QG (k:IntKind) (x y:Int):Int:=k.wrap (x*2^min y.toNat k.bits)
def rv (k:IntKind) (x y:Int):Int:=x.fdiv (2^min y.toNat k.bits)
def jE (x y:Int):Int:=if y<x then y else x
def imax (x y:Int):Int:=if y>x then y else x
def zw {α:Type} (xs:List α) (i:Int) (vs:List α):List α:=xs.take i.toNat++vs++xs.drop i.toNat
def Cb {α β:Type} (xs:List α) (i:Int) (vs:List β):Bool:=decide (0≤i)&&(decide (i≤xs.length)&&(decide (vs.length=1)&&decide (xs.length+1≤dy)))
def pW {α:Type} (xs:List α) (n:Int):List α:=(List.replicate n.toNat xs).flatten
def Fw {α:Type} (xs:List α) (n:Int):Bool:=decide (0≤n)&&(decide (n≤dy)&&decide (xs.length*n.toNat≤dy))
def I1 {α:Type} (xs:List α) (n:Int):Bool:=decide (xs.length=1)&&(decide (1≤n)&&decide (n≤64))
def Vf {α:Type} (f:α→α→Bool):List α→List α→Bool
 |[],[]=>true
 |a::x,b::y=>f a b&&Vf f x y
 |_,_=>false
def jk (bs:List UInt8) (k:Nat):List UInt8:=(bs.drop (32*k)).take 32
def jl (bs:List UInt8):List (List UInt8):=(List.range ((bs.length+31)/32)).map (jk bs)
def F5 (l:List (List UInt8)) (e:List UInt8):List UInt8:=List.intercalate e l
def Jw (l:List (List UInt8)) (e:List UInt8):Bool:=decide ((F5 l e).length≤dy)
def alt {α β γ:Type} (s:α ⊕ β) (f:α→Option γ) (g:β→Option γ):Option γ:=bif s.isLeft then s.getLeft?.bind f else s.getRight?.bind g
theorem bB {α β γ:Type} (a:α) (f:α→Option γ) (g:β→Option γ):alt (.inl a) f g=f a:=rfl
theorem fu {α β γ:Type} (b:β) (f:α→Option γ) (g:β→Option γ):alt (.inr b) f g=g b:=rfl
noncomputable def iter {V X:Type} (step:V→Option (V ⊕ X)) (n:Nat):V→Option X:=
 Nat.rec (fun _=>none) (fun _ ih v=>(step v).bind fun s=>alt s ih some) n
noncomputable def fuel:Nat:=Classical.choose (show ∃n:Nat,n=4294967296 from⟨_,rfl⟩)
theorem pn:fuel=4294967296:=Classical.choose_spec (show ∃n:Nat,n=4294967296 from⟨_,rfl⟩)
theorem bw {V X:Type} (step:V→Option (V ⊕ X)) (n:Nat) (v:V):iter step (n+1) v=(step v).bind fun s=>alt s (iter step n) some:=rfl
structure bJ where
 At:Int
 B:List UInt8
def bJ.ee (x y:bJ):Bool:=((x.At==y.At)&&((x.B==y.B)&&true))
structure aT where
 bz:List (List UInt8)
 bM:List bJ
 im:Int
 Down:Bool
def aT.ee (x y:aT):Bool:=(false&&(false&&((x.im==y.im)&&((x.Down==y.Down)&&true))))
structure bL where
 Name:List UInt8
 qo:Int
 Body:List UInt8
def bL.ee (x y:bL):Bool:=((x.Name==y.Name)&&((x.qo==y.qo)&&((x.Body==y.Body)&&true)))
structure bC where
 Seq:Int
 G2:Int
 aV:Int
 qo:Int
def bC.ee (x y:bC):Bool:=((x.Seq==y.Seq)&&((x.G2==y.G2)&&((x.aV==y.aV)&&((x.qo==y.qo)&&true))))
structure aI where
 aQ:List bL
 Marks:List bC
 aP:Int
def aI.ee (x y:aI):Bool:=(false&&(false&&((x.aP==y.aP)&&true)))
structure bZ where
 D:aT
 S:aI
def bZ.ee (x y:bZ):Bool:=(aT.ee x.D y.D&&(aI.ee x.S y.S&&true))
structure aS where
 Client:Int
 aV:Int
 Mode:Int
 il:Int
def aS.ee (x y:aS):Bool:=((x.Client==y.Client)&&((x.aV==y.aV)&&((x.Mode==y.Mode)&&((x.il==y.il)&&true))))
structure bA where
 Client:Int
 Seq:Int
 aV:Int
 Mode:Int
def bA.ee (x y:bA):Bool:=((x.Client==y.Client)&&((x.Seq==y.Seq)&&((x.aV==y.aV)&&((x.Mode==y.Mode)&&true))))
structure bR where
 bD:List aS
 cW:List bA
def bR.ee (x y:bR):Bool:=(false&&(false&&true))
structure bQ where
 Kind:Int
 To:Int
 aP:Int
 Seq:Int
 G2:Int
 aV:Int
 Mode:Int
 qo:Int
 Body:List UInt8
def bQ.ee (x y:bQ):Bool:=((x.Kind==y.Kind)&&((x.To==y.To)&&((x.aP==y.aP)&&((x.Seq==y.Seq)&&((x.G2==y.G2)&&((x.aV==y.aV)&&((x.Mode==y.Mode)&&((x.qo==y.qo)&&((x.Body==y.Body)&&true)))))))))
structure aG where
 aB:bZ
 aY:bR
 Seen:List Int
 Told:List bQ
 gD:Int
 od:Int
 wM:Int
 Live:Bool
 fG:Int
def aG.ee (x y:aG):Bool:=(bZ.ee x.aB y.aB&&(bR.ee x.aY y.aY&&(false&&(false&&((x.gD==y.gD)&&((x.od==y.od)&&((x.wM==y.wM)&&((x.Live==y.Live)&&((x.fG==y.fG)&&true)))))))))
structure aX where
 og:Int
 B:List UInt8
def aX.ee (x y:aX):Bool:=((x.og==y.og)&&((x.B==y.B)&&true))
structure GV where
 Mode:Int
 il:Int
 qo:Int
 Body:List UInt8
 ai0:List aX
 ZM:Int
 Sm:Bool
 ab5:Bool
def GV.ee (x y:GV):Bool:=((x.Mode==y.Mode)&&((x.il==y.il)&&((x.qo==y.qo)&&((x.Body==y.Body)&&(false&&((x.ZM==y.ZM)&&((x.Sm==y.Sm)&&((x.ab5==y.ab5)&&true))))))))
structure bf where
 Kind:Int
 bg:Int
 aP:Int
 Seq:Int
 Name:List UInt8
 aV:Int
 Mode:Int
 aN:List aX
def bf.ee (x y:bf):Bool:=((x.Kind==y.Kind)&&((x.bg==y.bg)&&((x.aP==y.aP)&&((x.Seq==y.Seq)&&((x.Name==y.Name)&&((x.aV==y.aV)&&((x.Mode==y.Mode)&&(false&&true))))))))
structure Tx where
 Is:Bool
 Ask:bf
 UE:Int
 bz:Int
def Tx.ee (x y:Tx):Bool:=((x.Is==y.Is)&&(bf.ee x.Ask y.Ask&&((x.UE==y.UE)&&((x.bz==y.bz)&&true))))
structure CC where
 ID:Int
 gD:Int
 aP:Int
 Seq:Int
 aQ:List GV
 Names:List (List UInt8)
 Out:Tx
 wM:Int
 ab7:Int
 abd:Int
def CC.ee (x y:CC):Bool:=((x.ID==y.ID)&&((x.gD==y.gD)&&((x.aP==y.aP)&&((x.Seq==y.Seq)&&(false&&(false&&(Tx.ee x.Out y.Out&&((x.wM==y.wM)&&((x.ab7==y.ab7)&&((x.abd==y.abd)&&true))))))))))
structure Sb where
 To:Int
 B:List UInt8
 Sa:Bool
def Sb.ee (x y:Sb):Bool:=((x.To==y.To)&&((x.B==y.B)&&((x.Sa==y.Sa)&&true)))
structure JY where
 Real:Int
 S:aG
 abu:List CC
 Fly:List Sb
def JY.ee (x y:JY):Bool:=((x.Real==y.Real)&&(aG.ee x.S y.S&&(false&&(false&&true))))
structure Qd where
 G2:Int
 aV:Int
 Body:List UInt8
def Qd.ee (x y:Qd):Bool:=((x.G2==y.G2)&&((x.aV==y.aV)&&((x.Body==y.Body)&&true)))
structure Uv where
 Kind:Int
 R:Int
 By:Int
 aV:Int
 og:Int
 I:Int
 To:Int
 Text:List UInt8
 ahZ:List Int
def Uv.ee (x y:Uv):Bool:=((x.Kind==y.Kind)&&((x.R==y.R)&&((x.By==y.By)&&((x.aV==y.aV)&&((x.og==y.og)&&((x.I==y.I)&&((x.To==y.To)&&((x.Text==y.Text)&&(false&&true)))))))))
structure bu where
 l:List UInt8
 n:Int
def bu.ee (x y:bu):Bool:=(false&&((x.n==y.n)&&true))
structure yT where
 e:Int
def yT.ee (x y:yT):Bool:=((x.e==y.e)&&true)
structure Eo where
 World:JY
 a:Qd
def Eo.ee (x y:Eo):Bool:=(JY.ee x.World y.World&&(Qd.ee x.a y.a&&true))
structure Ep where
 aU:Int
 file:Int
 mode:Int
 c:GV
def Ep.ee (x y:Ep):Bool:=((x.aU==y.aU)&&((x.file==y.file)&&((x.mode==y.mode)&&(GV.ee x.c y.c&&true))))
structure bp where
 B:List UInt8
 wM:Bool
def bp.ee (x y:bp):Bool:=(false&&((x.wM==y.wM)&&true))
structure Er where
 b:List UInt8
def Er.ee (x y:Er):Bool:=(false&&true)
structure fa where
def fa.ee (x y:fa):Bool:=true
structure ax where
 Server:aG
 told:List bQ
def ax.ee (x y:ax):Bool:=(aG.ee x.Server y.Server&&(false&&true))
structure CA where
 Client:CC
 asked:List bf
def CA.ee (x y:CA):Bool:=(CC.ee x.Client y.Client&&(false&&true))
structure dw where
 d:aT
def dw.ee (x y:dw):Bool:=(aT.ee x.d y.d&&true)
structure CB where
 a:Qd
def CB.ee (x y:CB):Bool:=(Qd.ee x.a y.a&&true)
structure cq where
 b:List UInt8
def cq.ee (x y:cq):Bool:=(false&&true)
structure bd where
 d:aT
def bd.ee (x y:bd):Bool:=(aT.ee x.d y.d&&true)
structure bH where
 b:List UInt8
def bH.ee (x y:bH):Bool:=(false&&true)
structure cN where
 e:Int
def cN.ee (x y:cN):Bool:=((x.e==y.e)&&true)
structure j6 where
 lo:UInt8
 hi:UInt8
def j6.ee (x y:j6):Bool:=((i8 x.lo==i8 y.lo)&&((i8 x.hi==i8 y.hi)&&true))
open Go
def Lq (l:List bJ) (i:Int):Option bJ:=l.reverse.find? fun p=>p.At==i
def gC (d:aT) (i:Int):List UInt8×Bool:=
 bif !d.Down&&(decide (0≤i)&&decide (i<(d.bz.length:Int)))then
  (match Lq d.bM i with
  |some p=>p.B
  |none=>d.bz.getD i.toNat [],true)
 else([],false)
theorem Nk {l:List bJ} {i:Int} {m:Nat} {p:bJ} (h:l[m]? =some p) (hp:p.At=i) (hr: ∀(j:Nat) q,m<j→l[j]? =some q→q.At≠i):Lq l i=some p:=by
 unfold Lq
 obtain⟨hm,rfl⟩:=List.getElem?_eq_some_iff.1 h
 have hs:l=l.take m++l[m] ::l.drop (m+1):=by rw[←List.drop_eq_getElem_cons hm,List.take_append_drop]
 generalize l[m]=p at hp hs
 generalize ha:l.take m=a at hs
 generalize hb:l.drop (m+1)=b at hs
 have hrb: ∀q∈b,q.At≠i:=by
  intro q hq
  rw[←hb]at hq
  obtain⟨j,hj,rfl⟩:=List.getElem_of_mem hq
  rw[List.getElem_drop]
  exact hr (m+1+j) _ (by omega) (List.getElem?_eq_getElem _)
 rw[hs,List.reverse_append,List.reverse_cons,List.find?_append,List.find?_append]
 have h1:b.reverse.find? (fun p=>p.At==i)=none:=by
  rw[List.find?_eq_none]
  intro q hq
  simpa using hrb q (List.mem_reverse.1 hq)
 rw[h1]
 simp[hp]
theorem Nl {l:List bJ} {i:Int} (h: ∀q∈l,q.At≠i):Lq l i=none:=by
 unfold Lq
 rw[List.find?_eq_none]
 intro q hq
 simpa using h q (List.mem_reverse.1 hq)
end Go.Proofs.YtlejgahbbfeagaaGreatDoor.N

namespace Go.Proofs.YtlejgahbbfeagaaGreatDoor.D
open Go
inductive TT (α:Type) where
 |ret (x:α)
 |ite (c:Bool) (t e:TT α)
def TT.val {α:Type}:TT α→α
 | .ret x=>x
 | .ite c t e=>bif c then t.val else e.val
def TT.tree {α:Type}:TT α→Tree α
 | .ret x=> .ret x
 | .ite c t e=> .ite c t.tree e.tree
theorem TT.get_bind {α β:Type} (f:α→Tree β): ∀t:TT α,(t.tree.bind f).get=(f t.val).get
 | .ret x=>rfl
 | .ite c t e=>by
  show(bif c then(t.tree.bind f).get else(e.tree.bind f).get)=(f (bif c then t.val else e.val)).get
  cases c
  ·exact TT.get_bind f e
  ·exact TT.get_bind f t
def ba {α β:Type} {X:Type} (s:α ⊕ β) (f:α→Tree X) (g:β→Tree X):Tree X:= .ite s.isLeft (.opt s.getLeft? f) (.opt s.getRight? g)
end Go.Proofs.YtlejgahbbfeagaaGreatDoor.D
namespace Go.Proofs.YtlejgahbbfeagaaGreatDoor.N
open Go.Proofs.YtlejgahbbfeagaaGreatDoor.D
theorem aD {α:Type} (a:α):(Tree.ret a).get=some a:=rfl
theorem aC {α:Type}:(Tree.fail:Tree α).get=none:=rfl
theorem get_ite {α:Type} (c:Bool) (t e:Tree α):(Tree.ite c t e).get=bif c then t.get else e.get:=rfl
theorem aE {α β:Type} (o:Option β) (f:β→Tree α):(Tree.opt o f).get=o.bind fun b=>(f b).get:=rfl
theorem aF {α β X:Type} (s:α ⊕ β) (f:α→Tree X) (g:β→Tree X):(ba s f g).get=alt s (fun a=>(f a).get) (fun b=>(g b).get):=rfl
theorem aK {α:Type} (a:α):(TT.ret a).val=a:=rfl
theorem aL {α:Type} (c:Bool) (t e:TT α):(TT.ite c t e).val=bif c then t.val else e.val:=rfl
end Go.Proofs.YtlejgahbbfeagaaGreatDoor.N

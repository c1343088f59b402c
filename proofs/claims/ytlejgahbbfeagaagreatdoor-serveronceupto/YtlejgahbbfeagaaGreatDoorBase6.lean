/- Instances: what a function comes to where its arguments, and the objects that they lead to, are of some shape. Loops by their rounds. A function's instance out of its nice function: all that ties the two but the one fact that the kernel checks. A seat's table of types, told right by two closed facts. Deferred functions, of which the first part stands further in. Short names for what links say most often. Functions of the library by contracts that are given: strings.Repeat. A body whose last part ranges over the chunks of a row of bytes. strings.Join, by its contract. Rows of one's own whose elements have so many cells: copied, cleared, written over. slices.Insert of one element into a row of one's own. A body whose last part cuts a row of one's own short, and clears what is behind (slices.DeleteFunc). slices.Delete from a row of one's own. -/
import Derived.Test.YtlejgahbbfeagaaGreatDoorBase5
import Derived.Below
import Derived.Lib.Repeat
import Derived.RangeFuncLeaves
import Derived.RangeFuncBox
import Derived.Lib.Join
import Derived.Test.YtlejgahbbfeagaaGreatDoorBase3
import Derived.Test.YtlejgahbbfeagaaGreatDoorBase2
import Derived.Lib.Overlaps
import Derived.Laws.Externs
import Derived.Lib.SliceRun
set_option linter.unusedVariables false
set_option linter.unusedSimpArgs false
namespace Go.Proofs.YtlejgahbbfeagaaGreatDoor.D
open Go
noncomputable section
inductive PS where
 |tQ (i j:Nat)
 |idx (e:Ty) (n:Nat)
 |at_ (e:Ty)
inductive Sh where
 |v (t:Ty)
 |str (s:List UInt8)
 |bm
 |own (k:Nat)
 |ptr (o:Nat) (p:List PS)
 |cQ
 |eg (t:Ty)
 |agg (i:Nat) (l:List Sh)
 |fn (f:FuncId) (l:List Sh)
 |ei
 |fD (t:TypeId) (s:Sh)
 |ct
 |undef
inductive fF where
 |box (ro:Bool) (s:Sh)
 |arr (l:RM) (e:Ty)
 |dead
section
variable (E:Env)
@[reducible] def PS.Fn:List PS→Type 1→Type 1
 |[],A=>A
 | .at_ _::p,A=>Nat→PS.Fn p A
 |_::p,A=>PS.Fn p A
mutual
@[reducible] def Sh.Fn:Sh→Type 1→Type 1
 | .v t,A=>I E.T t→A
 | .ptr _ p,A=>PS.Fn p A
 | .eg t,A=>I E.T t→A
 | .agg _ l,A=>Sh.E6 l A
 | .fn _ l,A=>Sh.E6 l A
 | .fD _ s,A=>Sh.Fn s A
 |_,A=>A
termination_by structural x=>x
@[reducible] def Sh.E6:List Sh→Type 1→Type 1
 |[],A=>A
 |s::r,A=>Sh.Fn s (Sh.E6 r A)
termination_by structural x=>x
end
@[reducible] def fF.Fn:fF→Type 1→Type 1
 | .box _ s,A=>Sh.Fn E s A
 | .arr _ e,A=>List (I E.T e)→A
 | .dead,A=>A
@[reducible] def fF.E6:List fF→Type 1→Type 1
 |[],A=>A
 |s::r,A=>fF.Fn E s (fF.E6 r A)
def PS.dec {A:Type 1}:(q:List PS)→List Step→PS.Fn q A→Option A
 |[],[],k=>some k
 | .tQ i j::q,.tQ i' j'::p,k=>bif Nat.beq i i'&&Nat.beq j j' then PS.dec q p k else none
 | .idx e n::q,.idx e' n'::p,k=>bif jn e e'&&Nat.beq n n' then PS.dec q p k else none
 | .at_ e::q,.idx e' n'::p,k=>bif jn e e' then PS.dec q p (k n')else none
 |_,_,_=>none
mutual
def Sh.dec:(s:Sh)→{A:Type 1}→az E.T→Sh.Fn E s A→Option A
 | .v t,_,d,k=>match valOf E t d with
  |some x=>some (k x)
  |none=>none
 | .str s,_,.val .str x,k=>bif x==s then some k else none
 | .bm,_,.bm,k=>some k
 | .own n,_,.own m,k=>bif Nat.beq n m then some k else none
 | .ptr o p,_,.ptr o' p',k=>bif Nat.beq o o' then PS.dec p p' k else none
 | .cQ,_,.cQ,k=>some k
 | .eg t,_,.eg t' x,k=>match wS t' t with
  |some h=>some (k (zY h.down x))
  |none=>none
 | .agg i l,_,.agg i' ds,k=>bif Nat.beq i i' then Sh.yB l ds k else none
 | .fn f l,_,.fn f' ds,k=>bif Nat.beq f f' then Sh.yB l ds k else none
 | .ei,_,.ei,k=>some k
 | .fD t s,_,.fD t' d,k=>bif Nat.beq t t' then Sh.dec s d k else none
 | .ct,_,.ct,k=>some k
 |_,_,_,_=>none
termination_by structural x=>x
def Sh.yB:(l:List Sh)→{A:Type 1}→List (az E.T)→Sh.E6 E l A→Option A
 |[],_,[],k=>some k
 |s::r,_,d::ds,k=>match Sh.dec s d k with
  |some k'=>Sh.yB r ds k'
  |none=>none
 |_,_,_,_=>none
termination_by structural x=>x
end
def RM.ee:RM→RM→Bool
 | .bc,.bc=>true
 | .fix,.fix=>true
 | .live,.live=>true
 |_,_=>false
def fF.dec:(s:fF)→{A:Type 1}→Obj E.T→fF.Fn E s A→Option A
 | .box ro s,_,.box ro' d,k=>bif ro==ro' then Sh.dec E s d k else none
 | .arr l e,_,.arr l' e' xs,k=>match wS (.slice e') (.slice e)with
  |some h=>bif RM.ee l l' then some (k (zY (T:=E.T) h.down xs))else none
  |none=>none
 | .dead,_,.dead,k=>some k
 |_,_,_,_=>none
def fF.yB:(l:List fF)→{A:Type 1}→St E.T→fF.E6 E l A→Option A
 |[],_,[],k=>some k
 |s::r,_,d::ds,k=>match fF.dec E s d k with
  |some k'=>fF.yB r ds k'
  |none=>none
 |_,_,_,_=>none
def PS.Rel {A:Type 1}:(q:List PS)→PS.Fn q A→(List Step→A→Prop)→Prop
 |[],k,P=>P [] k
 | .tQ i j::q,k,P=>PS.Rel q k fun p a=>P (.tQ i j::p) a
 | .idx e n::q,k,P=>PS.Rel q k fun p a=>P (.idx e n::p) a
 | .at_ e::q,k,P=> ∀n,PS.Rel q (k n) fun p a=>P (.idx e n::p) a
mutual
def Sh.Rel:(s:Sh)→{A:Type 1}→Sh.Fn E s A→(az E.T→A→Prop)→Prop
 | .v t,_,k,P=> ∀x,P (.val t x) (k x)
 | .str s,_,k,P=>P (.val .str s) k
 | .bm,_,k,P=>P .bm k
 | .own n,_,k,P=>P (.own n) k
 | .ptr o p,_,k,P=>PS.Rel p k fun p a=>P (.ptr o p) a
 | .cQ,_,k,P=>P .cQ k
 | .eg t,_,k,P=> ∀x,P (.eg t x) (k x)
 | .agg i l,_,k,P=>Sh.o7 l k fun ds a=>P (.agg i ds) a
 | .fn f l,_,k,P=>Sh.o7 l k fun ds a=>P (.fn f ds) a
 | .ei,_,k,P=>P .ei k
 | .fD t s,_,k,P=>Sh.Rel s k fun d a=>P (.fD t d) a
 | .ct,_,k,P=>P .ct k
 | .undef,_,_,_=>True
termination_by structural x=>x
def Sh.o7:(l:List Sh)→{A:Type 1}→Sh.E6 E l A→(List (az E.T)→A→Prop)→Prop
 |[],_,k,P=>P [] k
 |s::r,_,k,P=>Sh.Rel s k fun d k'=>Sh.o7 r k' fun ds a=>P (d::ds) a
termination_by structural x=>x
end
def fF.Rel:(s:fF)→{A:Type 1}→fF.Fn E s A→(Obj E.T→A→Prop)→Prop
 | .box ro s,_,k,P=>Sh.Rel E s k fun d a=>P (.box ro d) a
 | .arr l e,_,k,P=> ∀xs,P (.arr l e xs) (k xs)
 | .dead,_,k,P=>P .dead k
def fF.o7:(l:List fF)→{A:Type 1}→fF.E6 E l A→(St E.T→A→Prop)→Prop
 |[],_,k,P=>P [] k
 |s::r,_,k,P=>fF.Rel E s k fun d k'=>fF.o7 r k' fun ds a=>P (d::ds) a
end
section
variable {E:Env}
theorem PS.k7 {A:Type 1}: ∀(q:List PS) (p:List Step) (k:PS.Fn q A) {a:A} {P:List Step→A→Prop},PS.dec q p k=some a→PS.Rel q k P→P p a
 |[],[],k,a,P,h,hr=>by cases h;exact hr
 | .tQ i j::q,.tQ i' j'::p,k,a,P,h,hr=>by
  simp only[PS.dec]at h
  cases hb:Nat.beq i i'&&Nat.beq j j' with
  |false=>rw[hb]at h;cases h
  |true=>
   rw[hb]at h
   rw[Bool.and_eq_true]at hb
   have h1:=Nat.eq_of_beq_eq_true hb.1
   have h2:=Nat.eq_of_beq_eq_true hb.2
   subst h1;subst h2
   exact PS.k7 q p k h hr
 | .idx e n::q,.idx e' n'::p,k,a,P,h,hr=>by
  simp only[PS.dec]at h
  cases hb:jn e e'&&Nat.beq n n' with
  |false=>rw[hb]at h;cases h
  |true=>
   rw[hb]at h
   rw[Bool.and_eq_true]at hb
   have h1:=dP hb.1
   have h2:=Nat.eq_of_beq_eq_true hb.2
   subst h1;subst h2
   exact PS.k7 q p k h hr
 | .at_ e::q,.idx e' n'::p,k,a,P,h,hr=>by
  simp only[PS.dec]at h
  cases hb:jn e e' with
  |false=>rw[hb]at h;cases h
  |true=>
   rw[hb]at h
   have h1:=dP hb
   subst h1
   exact PS.k7 q p (k n') h (hr n')
 |[],_::_,k,a,P,h,hr=>by cases h
 | .tQ i j::q,[],k,a,P,h,hr=>by cases h
 | .tQ i j::q,.idx _ _::p,k,a,P,h,hr=>by cases h
 | .idx e n::q,[],k,a,P,h,hr=>by cases h
 | .idx e n::q,.tQ _ _::p,k,a,P,h,hr=>by cases h
 | .at_ e::q,[],k,a,P,h,hr=>by cases h
 | .at_ e::q,.tQ _ _::p,k,a,P,h,hr=>by cases h
theorem Qx {t:Ty} {d:az E.T} {x:I E.T t} (h:valOf E t d=some x):d= .val t x:=by
 cases d with
 |val t' y=>
  simp only[valOf]at h
  split at h
  ·rename_i p _
   cases p with|up p=>
   cases p
   cases h
   rfl
  ·cases h
 |_=>cases h
mutual
theorem Sh.k7: ∀(s:Sh) {A:Type 1} (d:az E.T) (k:Sh.Fn E s A) {a:A} {P:az E.T→A→Prop},Sh.dec E s d k=some a→Sh.Rel E s k P→P d a
 | .v t,A,d,k,a,P,h,hr=>by
  simp only[Sh.dec]at h
  split at h
  ·rename_i x hx
   cases h
   rw[Qx hx]
   exact hr x
  ·cases h
 | .str s,A,d,k,a,P,h,hr=>by
  cases d<;>try (simp only[Sh.dec]at h;cases h)
  rename_i t x
  cases t<;>try (simp only[Sh.dec]at h;cases h)
  simp only[Sh.dec]at h
  cases hb:(x==s)with
  |false=>rw[hb]at h;cases h
  |true=>rw[hb]at h;cases h;have:=eq_of_beq hb;subst this;exact hr
 | .bm,A,d,k,a,P,h,hr=>by cases d<;>first|(cases h;exact hr)|(simp only[Sh.dec]at h;cases h)
 | .own n,A,d,k,a,P,h,hr=>by
  cases d<;>try (simp only[Sh.dec]at h;cases h)
  rename_i m
  simp only[Sh.dec]at h
  cases hb:Nat.beq n m with
  |false=>rw[hb]at h;cases h
  |true=>rw[hb]at h;cases h;have:=Nat.eq_of_beq_eq_true hb;subst this;exact hr
 | .ptr o p,A,d,k,a,P,h,hr=>by
  cases d<;>try (simp only[Sh.dec]at h;cases h)
  rename_i o' p'
  simp only[Sh.dec]at h
  cases hb:Nat.beq o o' with
  |false=>rw[hb]at h;cases h
  |true=>rw[hb]at h;have:=Nat.eq_of_beq_eq_true hb;subst this;exact PS.k7 p p' k h hr
 | .cQ,A,d,k,a,P,h,hr=>by cases d<;>first|(cases h;exact hr)|(simp only[Sh.dec]at h;cases h)
 | .eg t,A,d,k,a,P,h,hr=>by
  cases d<;>try (simp only[Sh.dec]at h;cases h)
  rename_i t' x
  simp only[Sh.dec]at h
  split at h
  ·rename_i p _
   cases p with|up p=>
   cases p
   cases h
   exact hr x
  ·cases h
 | .agg i l,A,d,k,a,P,h,hr=>by
  cases d<;>try (simp only[Sh.dec]at h;cases h)
  rename_i i' ds
  simp only[Sh.dec]at h
  cases hb:Nat.beq i i' with
  |false=>rw[hb]at h;cases h
  |true=>rw[hb]at h;have:=Nat.eq_of_beq_eq_true hb;subst this;exact Sh.sj l ds k h hr
 | .fn f l,A,d,k,a,P,h,hr=>by
  cases d<;>try (simp only[Sh.dec]at h;cases h)
  rename_i f' ds
  simp only[Sh.dec]at h
  cases hb:Nat.beq f f' with
  |false=>rw[hb]at h;cases h
  |true=>rw[hb]at h;have:=Nat.eq_of_beq_eq_true hb;subst this;exact Sh.sj l ds k h hr
 | .ei,A,d,k,a,P,h,hr=>by cases d<;>first|(cases h;exact hr)|(simp only[Sh.dec]at h;cases h)
 | .fD t s,A,d,k,a,P,h,hr=>by
  cases d<;>try (simp only[Sh.dec]at h;cases h)
  rename_i t' d
  simp only[Sh.dec]at h
  cases hb:Nat.beq t t' with
  |false=>rw[hb]at h;cases h
  |true=>rw[hb]at h;have:=Nat.eq_of_beq_eq_true hb;subst this;exact Sh.k7 s d k h hr
 | .ct,A,d,k,a,P,h,hr=>by cases d<;>first|(cases h;exact hr)|(simp only[Sh.dec]at h;cases h)
 | .undef,A,d,k,a,P,h,hr=>by cases d<;>(simp only[Sh.dec]at h;cases h)
theorem Sh.sj: ∀(l:List Sh) {A:Type 1} (ds:List (az E.T)) (k:Sh.E6 E l A) {a:A} {P:List (az E.T)→A→Prop},Sh.yB E l ds k=some a→Sh.o7 E l k P→P ds a
 |[],A,[],k,a,P,h,hr=>by simp only[Sh.yB,Option.some.injEq]at h;subst h;exact hr
 |[],A,_::_,k,a,P,h,hr=>by simp only[Sh.yB]at h;cases h
 |s::r,A,[],k,a,P,h,hr=>by simp only[Sh.yB]at h;cases h
 |s::r,A,d::ds,k,a,P,h,hr=>by
  simp only[Sh.yB]at h
  split at h
  ·rename_i k' hk
   exact Sh.sj r ds k' (P:=fun ds a=>P (d::ds) a) h (Sh.k7 s d k (P:=fun d k'=>Sh.o7 E r k' fun ds a=>P (d::ds) a) hk hr)
  ·cases h
end
theorem fF.k7 (s:fF) {A:Type 1} (d:Obj E.T) (k:fF.Fn E s A) {a:A} {P:Obj E.T→A→Prop} (h:fF.dec E s d k=some a) (hr:fF.Rel E s k P):P d a:=by
 cases s with
 |box ro s=>
  cases d<;>try (simp only[fF.dec]at h;cases h)
  rename_i ro' d
  simp only[fF.dec]at h
  cases hb:(ro==ro')with
  |false=>rw[hb]at h;cases h
  |true=>rw[hb]at h;have:=eq_of_beq hb;subst this;exact Sh.k7 s d k h hr
 |arr l e=>
  cases d<;>try (simp only[fF.dec]at h;cases h)
  rename_i l' e' xs
  simp only[fF.dec]at h
  split at h
  ·rename_i p _
   cases p with|up p=>
   cases p
   cases hb:RM.ee l l' with
   |false=>rw[hb]at h;cases h
   |true=>
    rw[hb]at h
    cases h
    have:l=l':=by cases l<;>cases l'<;>first|rfl|cases hb
    subst this
    exact hr xs
  ·cases h
 |dead=>cases d<;>first|(cases h;exact hr)|(simp only[fF.dec]at h;cases h)
theorem fF.sj: ∀(l:List fF) {A:Type 1} (ds:St E.T) (k:fF.E6 E l A) {a:A} {P:St E.T→A→Prop},fF.yB E l ds k=some a→fF.o7 E l k P→P ds a
 |[],A,[],k,a,P,h,hr=>by simp only[fF.yB,Option.some.injEq]at h;subst h;exact hr
 |[],A,_::_,k,a,P,h,hr=>by simp only[fF.yB]at h;cases h
 |s::r,A,[],k,a,P,h,hr=>by simp only[fF.yB]at h;cases h
 |s::r,A,d::ds,k,a,P,h,hr=>by
  simp only[fF.yB]at h
  split at h
  ·rename_i k' hk
   exact fF.sj r ds k' (P:=fun ds a=>P (d::ds) a) h (fF.k7 s d k (P:=fun d k'=>fF.o7 E r k' fun ds a=>P (d::ds) a) hk hr)
  ·cases h
structure GZ (E:Env) (X:Type) where
 args:List Sh
 B0:List fF
 k:Sh.E6 E args (fF.E6 E B0 (Tree X))
def GZ.dec {X:Type} (i:GZ E X) (ds:List (az E.T)) (st:St E.T):Option (Tree X):=
 match Sh.yB E i.args ds i.k with
 |some k'=>fF.yB E i.B0 st k'
 |none=>none
def GZ.Rel {X:Type} (i:GZ E X) (P:List (az E.T)→St E.T→Tree X→Prop):Prop:=Sh.o7 E i.args i.k fun ds k'=>fF.o7 E i.B0 k' fun st t=>P ds st t
theorem GZ.k7 {X:Type} {i:GZ E X} {ds:List (az E.T)} {st:St E.T} {t:Tree X} {P:List (az E.T)→St E.T→Tree X→Prop} (h:i.dec ds st=some t) (hr:i.Rel P):P ds st t:=by
 unfold GZ.dec at h
 split at h
 ·rename_i k' hk
  exact fF.sj i.B0 st k' (P:=fun st t=>P ds st t) h (Sh.sj i.args ds i.k (P:=fun ds k'=>fF.o7 E i.B0 k' fun st t=>P ds st t) hk hr)
 ·cases h
def JC {X:Type}:List (GZ E X)→List (az E.T)→St E.T→Tree X
 |[],_,_=> .fail
 |i::r,ds,st=>match i.dec ds st with
  |some t=>t
  |none=>JC r ds st
variable {P:Program}
def aJ (P:Program) (f:FuncId) (i:GZ E (iT E.T×St E.T)):Prop:=
 ∃B,ub P E f B∧i.Rel fun ds st t=> ∀out,t.get=some out→(B ds st).get=some out
def TW (P:Program) (f:FuncId):List (GZ E (iT E.T×St E.T))→Prop
 |[]=>True
 |i::r=>aJ P f i∧TW P f r
theorem JB {f:FuncId}: ∀{l:List (GZ E (iT E.T×St E.T))},TW P f l→ub P E f (JC l)
 |[],_=>fun _ _ h=>by cases h
 |i::r,hl=>fun hst hds h=>by
  simp only[JC]at h
  split at h
  ·rename_i t ht
   obtain⟨B,hB,hr⟩:=hl.1
   exact hB hst hds (GZ.k7 ht hr _ h)
  ·exact JB hl.2 hst hds h
theorem Vi (ok:dq E) {f:FuncId} {B:List (az E.T)→St E.T→Tree (iT E.T×St E.T)} (h:ub P E f B):ub P E f fun ds st=>B (sl E st st.length ds) (m7 E st st.length):=by
 intro σ st w ds us q st' hst hds hg
 have m:=Mv.yF ok hst st.length
 have hd:=aW.yF ok hst st.length hds
 refine Calls.mono (h m.rep (m.Ke hd) hg) (fun e w' hb=> ?_)
 obtain⟨σ',m',hr⟩:=hb
 exact⟨σ',m.f.trans m',hr⟩
def cC (l:List (GZ E (iT E.T×St E.T))) (ds:List (az E.T)) (st:St E.T):Tree (iT E.T×St E.T):=JC l (sl E st st.length ds) (m7 E st st.length)
theorem bn (ok:dq E) {f:FuncId} {ps:List TK} {flat:Bool} {l:List (GZ E (iT E.T×St E.T))} (hen:Enters P f) (h:TW P f l):oc P E f (.full ps flat (cC l)):=
 ⟨hen,Vi ok (JB h)⟩
def bj (l:List (GZ E (iT E.T×St E.T))) (ds:List (az E.T)):Tree (iT E.T):=(JC l ds []).bind fun p=>match p.2 with
 |[]=> .ret p.1
 |_=> .fail
theorem aH {f:FuncId} {ps:List Ty} {l:List (GZ E (iT E.T×St E.T))} (hen:Enters P f) (h:TW P f l):oc P E f (.pure ps (bj l)):=by
 refine⟨hen,SK (JB h) fun ds r hg=> ?_⟩
 unfold bj at hg
 obtain⟨p,h1,h2⟩:=Tree.aA hg
 obtain⟨r',s⟩:=p
 cases s with
 |nil=>cases h2;exact h1
 |cons _ _=>cases h2
theorem Ib {V X:Type} {step:V→Option (V ⊕ X)} {stp:Fr E.T→St E.T→Tree (bV E)} {ks rs:List Nat} {iq:List (Nat×Nat)} {n:Nat} {hd:V→Fr E.T} {sv:V→St E.T} {ex:X→Tree (bV E)}
  (h: ∀v,((stp (hd v) (sv v)).bind (nx E ks iq rs n)).get=(step v).bind fun s=>N.alt s (fun v'=>some (.inl (hd v',sv v'))) fun x=>(ex x).get.map Sum.inr):
  ∀(m:Nat) (v:V) {x:X} {out:bV E},N.iter step m v=some x→(ex x).get=some out→sy stp ks iq n (hd v) (sv v) out
 |0,v,x,out,hi,ho=>by cases hi
 |m+1,v,x,out,hi,ho=>by
  rw[N.bw]at hi
  have hv:=h v
  cases hst:step v with
  |none=>rw[hst]at hi;cases hi
  |some s=>
   rw[hst]at hi hv
   cases s with
   |inl v'=>exact sy.next hv (Ib h m v' hi ho)
   |inr y=>
    have:y=x:=Option.some.inj hi
    subst this
    refine sy.stop (rs:=rs) ?_
    rw[hv]
    show(ex y).get.map Sum.inr=_
    rw[ho]
    rfl
def UD (n:Nat) (ks:List Nat) (iq:List (Nat×Nat)) (d:List (FuncId×List (az E.T))) (stp:Fr E.T→St E.T→Tree (bV E)) (i:GZ E (bV E)):Prop:=
 i.Rel fun vals st t=> ∀out,t.get=some out→sy stp ks iq st.length (qK E n d ks vals) st out
def OP (n:Nat) (ks:List Nat) (iq:List (Nat×Nat)) (d:List (FuncId×List (az E.T))) (stp:Fr E.T→St E.T→Tree (bV E)):List (GZ E (bV E))→Prop
 |[]=>True
 |i::r=>UD n ks iq d stp i∧OP n ks iq d stp r
theorem Lc {n:Nat} {ks:List Nat} {iq:List (Nat×Nat)} {d:List (FuncId×List (az E.T))} {stp:Fr E.T→St E.T→Tree (bV E)}: ∀{l:List (GZ E (bV E))},OP n ks iq d stp l→ ∀vals st out,(JC l vals st).get=some out→sy stp ks iq st.length (qK E n d ks vals) st out
 |[],_,vals,st,out,h=>by cases h
 |i::r,hl,vals,st,out,h=>by
  simp only[JC]at h
  split at h
  ·rename_i t ht
   exact GZ.k7 ht hl.1 out h
  ·exact Lc hl.2 vals st out h
theorem ZD {n:Nat} {ks:List Nat} {iq:List (Nat×Nat)} {d:List (FuncId×List (az E.T))} {stp:Fr E.T→St E.T→Tree (bV E)} {l:List (GZ E (bV E))} (h:OP n ks iq d stp l) (fr:Fr E.T) (st:St E.T) (out:bV E)
  (hc:(Cu E n ks iq d (JC l) fr st).get=some out): ∃m fr',(qz E stp ks iq st.length m fr st).get=some (out.1,fr',out.2.2)∧DH out.2.1 fr':=
 P5 (Lc h) fr st out hc
def ND (st:St E.T):iT E.T→iT E.T
 | .ret vs=> .ret (sl E st st.length vs)
 | .panic v=> .panic v
def EM:iT E.T→List Nat
 | .ret vs=>bh vs
 | .panic v=>refs v
def rY (R:List Nat):Nat→St E.T→St E.T
 |_,[]=>[]
 |i,o::r=>(bif c9 R i then o else .dead) ::rY R (i+1) r
def Fh (B:List (az E.T)→St E.T→Tree (iT E.T×St E.T)) (ds:List (az E.T)) (st:St E.T):Tree (iT E.T×St E.T):=
 (B ds st).bind fun p=>
  let s1:=m7 E p.2 p.2.length
  let r1:=ND p.2 p.1
  let R:=reach E s1 1000 (List.range st.length++EM r1) []
  Tree.cV (R.all (fun k=>(ju E s1 k).all (c9 R))&&((List.range st.length).all (c9 R)&&(EM r1).all (c9 R))) (.ret (r1,rY R 0 s1))
theorem Ia (R:List Nat): ∀(i:Nat) (l:St E.T),(rY R i l).length=l.length
 |_,[]=>rfl
 |i,o::r=>by simp[rY,Ia R (i+1) r]
theorem yf (R:List Nat): ∀(i:Nat) (l:St E.T) (j:Nat),aR (rY R i l) j=if i+j∈R then aR l j else(aR l j).map fun _=> .dead
 |i,[],j=>by simp[rY,dJ,cT,cU]
 |i,o::r,0=>by
  simp only[rY,dJ,cT,cU,Nat.add_zero]
  by_cases h:i∈R
  ·rw[if_pos h,(ez R i).2 h];rfl
  ·have:c9 R i=false:=by
    cases hb:c9 R i with
    |false=>rfl
    |true=>exact absurd ((ez R i).1 hb) h
   rw[if_neg h,this];rfl
 |i,o::r,j+1=>by
  simp only[rY,dJ,cT,cU]
  rw[yf R (i+1) r j,show i+1+j=i+(j+1)by omega]
section
variable {σ σ':Sg} {st st':St E.T} {w w':World} {R:List Nat}
theorem F1 {b:Nat} (h:MB σ (rY R 0 st) b):MB σ st b:=by
 rcases h with h|⟨o,ob,ho,hm,hb⟩
 ·exact .inl h
 ·rw[yf,Nat.zero_add]at ho
  split at ho
  ·exact .inr ⟨o,ob,ho,hm,hb⟩
  ·obtain⟨q,_,rfl⟩:=Option.map_eq_some_iff.1 ho
   cases hm
theorem AM {k:Nat} (hk:k∈R):ij σ σ st (rY R 0 st) k:=
 ⟨rfl,fun l e xs h=>⟨l,xs,by rw[yf,Nat.zero_add,if_pos hk];exact h⟩,fun h=>by rw[Ia];exact h⟩
theorem PC (hst:br E σ st w) (hc: ∀k∈R,∀ob,aR st k=some ob→ ∀j∈cf E ob,j∈R):br E σ (rY R 0 st) w:=by
 have hat: ∀{o ob},aR (rY R 0 st) o=some ob→dC ob=false→o∈R∧aR st o=some ob:=by
  intro o ob ho hd
  rw[yf,Nat.zero_add]at ho
  split at ho
  ·rename_i h;exact⟨h,ho⟩
  ·obtain⟨q,_,rfl⟩:=Option.map_eq_some_iff.1 ho
   cases hd
 refine⟨fun o ob ho=> ?_,fun o o' ob ob' b hne ho ho' hm hd hb1 hb2=> ?_,hst.qC,fun o ob b ho hd hb=>hst.out o ob b (hat ho hd).2 hd hb⟩
 ·cases hd:dC ob with
  |true=>cases ob<;>first|exact .dead _|cases hd
  |false=>
   obtain⟨h1,h2⟩:=hat ho hd
   exact cZ.aM (Kept.weaken fun b hb=>F1 hb) (fun _ _=>rfl) (fun k hk=>AM (hc o h1 ob h2 k hk)) (hst.obj o ob h2)
 ·exact hst.apart o o' ob ob' b hne (hat ho (by cases ob<;>first|rfl|cases hm)).2 (hat ho' hd).2 hm hd hb1 hb2
theorem EI (ok:dq E) {f:FuncId} {B:List (az E.T)→St E.T→Tree (iT E.T×St E.T)} (h:ub P E f B):ub P E f (Fh B):=by
 intro σ st w ds us q st' hst hds hg
 unfold Fh at hg
 obtain⟨p,hp,hg⟩:=Tree.aA hg
 obtain⟨r,s⟩:=p
 simp only at hg
 generalize hR:reach E (m7 E s s.length) 1000 (List.range st.length++EM (ND s r)) []=R at hg
 obtain⟨hb,hg⟩:=Tree.aO hg
 cases hg
 simp only[Bool.and_eq_true,List.all_eq_true]at hb
 obtain⟨h1,h2,h3⟩:=hb
 refine Calls.mono (h hst hds hp) (fun e w' hb=> ?_)
 obtain⟨σ',m,hr⟩:=hb
 have md:=Mv.yF ok m.rep s.length
 have m1:=m.trans md.f
 have hcl: ∀k∈R,∀ob,aR (m7 E s s.length) k=some ob→ ∀j∈cf E ob,j∈R:=by
  intro k hk ob ho j hj
  have:=h1 k hk
  simp only[ju,ho]at this
  exact(ez R j).1 (this j hj)
 have hrep:=PC m1.rep hcl
 have hkp:Kept (MB σ' (m7 E s s.length)) (MB σ' (rY R 0 (m7 E s s.length))) w' w':=Kept.weaken fun b hb=>F1 hb
 refine⟨σ',⟨hrep,⟨m1.aM.os,m1.aM.tape,m1.aM.output,m1.aM.size,m1.aM.block,fun b hb h=>m1.aM.may b hb (F1 h)⟩,⟨m1.stay.same,fun o ob ho=> ?_⟩,m1.qC⟩,?_⟩
 ·obtain⟨ob',h4,h5,h6⟩:=m1.stay.kind o ob ho
  have:o∈R:=(ez R o).1 (h2 o (List.mem_range.2 (bT ho)))
  exact⟨ob',by rw[yf,Nat.zero_add,if_pos this];exact h4,h5,h6⟩
 ·have h3': ∀k∈EM (ND s r),k∈R:=fun k hk=>(ez R k).1 (h3 k hk)
  cases r with
  |panic v=>
   cases e with
   |returned _=>exact hr.elim
   |outgrown=>exact hr.elim
   |panicked ch=>
    obtain⟨u,hu,hv⟩:=hr
    exact⟨u,hu,a8.aM hkp (md.YO hv) (fun k hk=>AM (h3' k hk))⟩
  |ret vs=>
   cases e with
   |panicked ch=>exact hr.elim
   |outgrown=>exact hr.elim
   |returned v=>
    have key: ∀us:List Value,aW E σ' s w' (MB σ' s) vs us→aW E σ' (rY R 0 (m7 E s s.length)) w' (MB σ' (rY R 0 (m7 E s s.length))) (sl E s s.length vs) us:=
     fun us hv=>aW.aM hkp (md.Ke (aW.yF ok m.rep s.length hv)) (fun k hk=>AM (h3' k hk))
    show a8 E σ' _ w' _ (CU E (sl E s s.length vs)) v
    have hr':a8 E σ' s w' (MB σ' s) (CU E vs) v:=hr
    match vs,hr',key with
    |[],hr',key=>
     cases hr' with
     |data t d cs hv=>cases hv
     |jo vs us h=>exact .jo _ us (key us h)
    |[x],hr',key=>
     have:=key [v] (.cons x [] v [] hr' .nil)
     cases this with
     |cons _ _ _ _ h _=>exact h
    |x::y::r,hr',key=>
     cases hr' with
     |data t d cs hv=>cases hv
     |jo vs us h=>exact .jo _ us (key us h)
end
end
end
open Go
noncomputable section
inductive OH (R:Type):Type 1 where
 |opt {X:Type} (t:Tree X) (k:X→Tree R)
 |xa {X:Type} (t:TT X) (k:X→Tree R)
 |bad
def OH.spec {R:Type}:OH R→Tree R
 | .opt t k=> .opt t.get k
 | .xa t k=>k t.val
 | .bad=> .fail
def Tree.nf {R:Type}:Tree R→Tree R
 | .ite c t e=>bif c then t.nf else e.nf
 | .opt o g=>match o with
  |some x=>(g x).nf
  |none=> .fail
 | .ret a=> .ret a
 | .fail=> .fail
theorem Tree.C3 {R:Type}: ∀t:Tree R,t.nf.get=t.get
 | .ite c t e=>by
  show(bif c then t.nf else e.nf).get=bif c then t.get else e.get
  cases c
  ·exact Tree.C3 e
  ·exact Tree.C3 t
 | .opt none g=>rfl
 | .opt (some x) g=>Tree.C3 (g x)
 | .ret a=>rfl
 | .fail=>rfl
def Tree.S5 {R:Type}:Tree R→Option R
 | .ite c t e=>bif c then t.S5 else e.S5
 | .opt o g=>o.bind fun x=>(g x).S5
 | .ret a=>some a
 | .fail=>none
theorem Tree.Dh {R:Type}: ∀t:Tree R,t.S5=t.get
 | .ite c t e=>by
  show(bif c then t.S5 else e.S5)=bif c then t.get else e.get
  rw[Tree.Dh t,Tree.Dh e]
 | .opt o g=>by
  show(o.bind fun x=>(g x).S5)=o.bind fun x=>(g x).get
  congr 1
  funext x
  exact Tree.Dh (g x)
 | .ret a=>rfl
 | .fail=>rfl
def OH.full {R:Type}:OH R→Tree R
 | .opt t k=>t.bind fun x=>(k x).nf
 | .xa t k=>t.tree.bind fun x=>(k x).nf
 | .bad=> .fail
theorem OH.get_eq {R:Type} (p:OH R):p.full.get=p.spec.get:=by
 cases p with
 |opt t k=>exact(Tree.get_bind t fun x=>(k x).nf).trans (congrArg (Option.bind t.get) (funext fun x=>Tree.C3 (k x)))
 |xa t k=>exact(TT.get_bind (fun x=>(k x).nf) t).trans (Tree.C3 _)
 |bad=>rfl
section
variable {E:Env}
def PS.map {A B:Type 1} (f:A→B):(q:List PS)→PS.Fn q A→PS.Fn q B
 |[],k=>f k
 | .tQ _ _::q,k=>PS.map f q k
 | .idx _ _::q,k=>PS.map f q k
 | .at_ _::q,k=>fun n=>PS.map f q (k n)
mutual
def Sh.map:(s:Sh)→{A B:Type 1}→(A→B)→Sh.Fn E s A→Sh.Fn E s B
 | .v _,_,_,f,k=>fun x=>f (k x)
 | .str _,_,_,f,k=>f k
 | .bm,_,_,f,k=>f k
 | .own _,_,_,f,k=>f k
 | .ptr _ p,_,_,f,k=>PS.map f p k
 | .cQ,_,_,f,k=>f k
 | .eg _,_,_,f,k=>fun x=>f (k x)
 | .agg _ l,_,_,f,k=>Sh.B2 l f k
 | .fn _ l,_,_,f,k=>Sh.B2 l f k
 | .ei,_,_,f,k=>f k
 | .fD _ s,_,_,f,k=>Sh.map s f k
 | .ct,_,_,f,k=>f k
 | .undef,_,_,f,k=>f k
termination_by structural x=>x
def Sh.B2:(l:List Sh)→{A B:Type 1}→(A→B)→Sh.E6 E l A→Sh.E6 E l B
 |[],_,_,f,k=>f k
 |s::r,_,_,f,k=>Sh.map s (Sh.B2 r f) k
termination_by structural x=>x
end
def fF.map:(s:fF)→{A B:Type 1}→(A→B)→fF.Fn E s A→fF.Fn E s B
 | .box _ s,_,_,f,k=>Sh.map s f k
 | .arr _ _,_,_,f,k=>fun xs=>f (k xs)
 | .dead,_,_,f,k=>f k
def fF.B2:(l:List fF)→{A B:Type 1}→(A→B)→fF.E6 E l A→fF.E6 E l B
 |[],_,_,f,k=>f k
 |s::r,_,_,f,k=>fF.map s (fF.B2 r f) k
theorem PS.pd {A B:Type 1} (f:A→B): ∀(q:List PS) (k:PS.Fn q A) {P:List Step→B→Prop},PS.Rel q k (fun p a=>P p (f a))→PS.Rel q (PS.map f q k) P
 |[],k,P,h=>h
 | .tQ i j::q,k,P,h=>PS.pd f q k (P:=fun p a=>P (.tQ i j::p) a) h
 | .idx e n::q,k,P,h=>PS.pd f q k (P:=fun p a=>P (.idx e n::p) a) h
 | .at_ e::q,k,P,h=>fun n=>PS.pd f q (k n) (P:=fun p a=>P (.idx e n::p) a) (h n)
mutual
theorem Sh.pd: ∀(s:Sh) {A B:Type 1} (f:A→B) (k:Sh.Fn E s A) {P:az E.T→B→Prop},Sh.Rel E s k (fun d a=>P d (f a))→Sh.Rel E s (Sh.map s f k) P
 | .v t,_,_,f,k,P,h=>h
 | .str s,_,_,f,k,P,h=>h
 | .bm,_,_,f,k,P,h=>h
 | .own n,_,_,f,k,P,h=>h
 | .ptr o p,_,_,f,k,P,h=>PS.pd f p k (P:=fun p a=>P (.ptr o p) a) h
 | .cQ,_,_,f,k,P,h=>h
 | .eg t,_,_,f,k,P,h=>h
 | .agg i l,_,_,f,k,P,h=>Sh.rA l f k (P:=fun ds a=>P (.agg i ds) a) h
 | .fn g l,_,_,f,k,P,h=>Sh.rA l f k (P:=fun ds a=>P (.fn g ds) a) h
 | .ei,_,_,f,k,P,h=>h
 | .fD t s,_,_,f,k,P,h=>Sh.pd s f k (P:=fun d a=>P (.fD t d) a) h
 | .ct,_,_,f,k,P,h=>h
 | .undef,_,_,f,k,P,h=>trivial
theorem Sh.rA: ∀(l:List Sh) {A B:Type 1} (f:A→B) (k:Sh.E6 E l A) {P:List (az E.T)→B→Prop},Sh.o7 E l k (fun ds a=>P ds (f a))→Sh.o7 E l (Sh.B2 l f k) P
 |[],_,_,f,k,P,h=>h
 |s::r,_,_,f,k,P,h=>by
  unfold Sh.o7 at h⊢
  unfold Sh.B2
  refine Sh.pd s (Sh.B2 r f) k (P:=fun d k'=>Sh.o7 E r k' fun ds a=>P (d::ds) a) ?_
  exact Sh.lV s k (fun d k' h=>Sh.rA r f k' (P:=fun ds a=>P (d::ds) a) h) h
theorem Sh.lV: ∀(s:Sh) {A:Type 1} (k:Sh.Fn E s A) {P Q:az E.T→A→Prop},(∀d a,P d a→Q d a)→Sh.Rel E s k P→Sh.Rel E s k Q
 | .v t,_,k,P,Q,g,h=>fun x=>g _ _ (h x)
 | .str s,_,k,P,Q,g,h=>g _ _ h
 | .bm,_,k,P,Q,g,h=>g _ _ h
 | .own n,_,k,P,Q,g,h=>g _ _ h
 | .ptr o p,_,k,P,Q,g,h=>EN p k (fun p a=>g (.ptr o p) a) h
 | .cQ,_,k,P,Q,g,h=>g _ _ h
 | .eg t,_,k,P,Q,g,h=>fun x=>g _ _ (h x)
 | .agg i l,_,k,P,Q,g,h=>Sh.mX l k (fun ds a=>g (.agg i ds) a) h
 | .fn f l,_,k,P,Q,g,h=>Sh.mX l k (fun ds a=>g (.fn f ds) a) h
 | .ei,_,k,P,Q,g,h=>g _ _ h
 | .fD t s,_,k,P,Q,g,h=>Sh.lV s k (fun d a=>g (.fD t d) a) h
 | .ct,_,k,P,Q,g,h=>g _ _ h
 | .undef,_,k,P,Q,g,h=>trivial
theorem Sh.mX: ∀(l:List Sh) {A:Type 1} (k:Sh.E6 E l A) {P Q:List (az E.T)→A→Prop},(∀ds a,P ds a→Q ds a)→Sh.o7 E l k P→Sh.o7 E l k Q
 |[],_,k,P,Q,g,h=>g _ _ h
 |s::r,_,k,P,Q,g,h=>by
  unfold Sh.o7 at h⊢
  exact Sh.lV s k (fun d k' h=>Sh.mX r k' (fun ds a=>g (d::ds) a) h) h
theorem EN {A:Type 1}: ∀(q:List PS) (k:PS.Fn q A) {P Q:List Step→A→Prop},(∀p a,P p a→Q p a)→PS.Rel q k P→PS.Rel q k Q
 |[],k,P,Q,g,h=>g _ _ h
 | .tQ i j::q,k,P,Q,g,h=>EN q k (fun p a=>g (.tQ i j::p) a) h
 | .idx e n::q,k,P,Q,g,h=>EN q k (fun p a=>g (.idx e n::p) a) h
 | .at_ e::q,k,P,Q,g,h=>fun n=>EN q (k n) (fun p a=>g (.idx e n::p) a) (h n)
end
theorem fF.lV (s:fF) {A:Type 1} (k:fF.Fn E s A) {P Q:Obj E.T→A→Prop} (g: ∀d a,P d a→Q d a) (h:fF.Rel E s k P):fF.Rel E s k Q:=by
 cases s with
 |box ro s=>exact Sh.lV s k (fun d a=>g (.box ro d) a) h
 |arr l e=>exact fun xs=>g _ _ (h xs)
 |dead=>exact g _ _ h
theorem fF.pd (s:fF) {A B:Type 1} (f:A→B) (k:fF.Fn E s A) {P:Obj E.T→B→Prop} (h:fF.Rel E s k (fun d a=>P d (f a))):fF.Rel E s (fF.map s f k) P:=by
 cases s with
 |box ro s=>exact Sh.pd s f k (P:=fun d a=>P (.box ro d) a) h
 |arr l e=>exact h
 |dead=>exact h
theorem fF.mX: ∀(l:List fF) {A:Type 1} (k:fF.E6 E l A) {P Q:St E.T→A→Prop},(∀d a,P d a→Q d a)→fF.o7 E l k P→fF.o7 E l k Q
 |[],_,k,P,Q,g,h=>g _ _ h
 |s::r,_,k,P,Q,g,h=>fF.lV s k (fun d k' h=>fF.mX r k' (fun ds a=>g (d::ds) a) h) h
theorem fF.rA: ∀(l:List fF) {A B:Type 1} (f:A→B) (k:fF.E6 E l A) {P:St E.T→B→Prop},fF.o7 E l k (fun d a=>P d (f a))→fF.o7 E l (fF.B2 l f k) P
 |[],_,_,f,k,P,h=>h
 |s::r,_,_,f,k,P,h=>fF.pd s (fF.B2 r f) k (P:=fun d k'=>fF.o7 E r k' fun ds a=>P (d::ds) a) (fF.lV s k (fun d k' h=>fF.rA r f k' (P:=fun ds a=>P (d::ds) a) h) h)
structure sz (E:Env) (A:Type 1) where
 args:List Sh
 B0:List fF
 k:Sh.E6 E args (fF.E6 E B0 A)
def sz.Rel {A:Type 1} (i:sz E A) (P:List (az E.T)→St E.T→A→Prop):Prop:=Sh.o7 E i.args i.k fun ds k'=>fF.o7 E i.B0 k' fun st a=>P ds st a
def sz.ins {A:Type 1} {X:Type} (f:A→Tree X) (i:sz E A):GZ E X:=⟨i.args,i.B0,Sh.B2 i.args (fF.B2 i.B0 f) i.k⟩
theorem sz.lV {A:Type 1} {i:sz E A} {P Q:List (az E.T)→St E.T→A→Prop} (g: ∀ds st a,P ds st a→Q ds st a) (h:i.Rel P):i.Rel Q:=
 Sh.mX i.args i.k (fun ds k' h=>fF.mX i.B0 k' (fun st a=>g ds st a) h) h
theorem sz.Ot {A:Type 1} {X:Type} {f:A→Tree X} {i:sz E A} {P:List (az E.T)→St E.T→Tree X→Prop} (h:i.Rel fun ds st a=>P ds st (f a)):(i.ins f).Rel P:=
 Sh.rA i.args (fF.B2 i.B0 f) i.k (P:=fun ds k'=>fF.o7 E i.B0 k' fun st t=>P ds st t) (Sh.mX i.args i.k (fun ds k' h=>fF.rA i.B0 f k' (P:=fun st t=>P ds st t) h) h)
structure EH (E:Env) where
 {V:Type}
 {X:Type}
 v:V
 step:V→Tree (V ⊕ X)
 hd:V→List (az E.T)×St E.T
 ex:X→Tree (ON E.T×List (az E.T)×St E.T)
variable (E) in
def Io (n:Nat) (d:List (FuncId×List (az E.T))) (rs:List Nat) (o:ON E.T×List (az E.T)×St E.T):Tree (bV E):= .ret (o.1,qK E n d rs o.2.1,o.2.2)
noncomputable def EH.tree (n:Nat) (d:List (FuncId×List (az E.T))) (rs:List Nat) (p:EH E):Tree (bV E):= .opt (N.iter (fun v=>(p.step v).get) N.fuel p.v) fun x=>(p.ex x).bind (Io E n d rs)
def EH.out (n:Nat) (d:List (FuncId×List (az E.T))) (ks rs:List Nat) (p:EH E):p.V ⊕ p.X→Tree (Sum (Fr E.T×St E.T) (bV E))
 | .inl v=> .ret (.inl (qK E n d ks (p.hd v).1,(p.hd v).2))
 | .inr x=>(p.ex x).nf.bind fun o=>(Io E n d rs o).bind fun q=> .ret (.inr q)
structure J7 (E:Env) where
 ks:List Nat
 rs:List Nat:=[]
 iq:List (Nat×Nat):=[]
 xM:List Qk:=[]
 d:List (FuncId×List (az E.T)):=[]
 ins:Option (List (sz E (EH E))):=none
noncomputable def J7.info (n:Nat) (l:J7 E):LpI E:={ks:=l.ks,iq:=l.iq,xM:=l.xM,d:=l.d,g:=(match l.ins with|some is=>some (JC (is.map (sz.ins (EH.tree n l.d l.rs))))|none=>none)}
def UC (n:Nat) (stp:Fr E.T→St E.T→Tree (bV E)) (l:J7 E) (i:sz E (EH E)):Prop:=
 i.Rel fun ds st p=>p.hd p.v=(ds,st)∧ ∀v,((stp (qK E n l.d l.ks (p.hd v).1) (p.hd v).2).bind (nx E l.ks l.iq l.rs st.length)).get=((p.step v).bind (p.out n l.d l.ks l.rs)).S5
theorem Rm {n:Nat} {stp:Fr E.T→St E.T→Tree (bV E)} {l:J7 E} {i:sz E (EH E)} (h:UC n stp l i):UD n l.ks l.iq l.d stp (i.ins (EH.tree n l.d l.rs)):=by
 refine sz.Ot (sz.lV (fun ds st p hp=> ?_) h)
 obtain⟨h1,h2⟩:=hp
 intro out ho
 have e1:(p.hd p.v).1=ds:=by rw[h1]
 have e2:(p.hd p.v).2=st:=by rw[h1]
 obtain⟨x,hx,ho'⟩:=Option.bind_eq_some_iff.1 (show(N.iter (fun v=>(p.step v).get) N.fuel p.v).bind (fun x=>((p.ex x).bind (Io E n l.d l.rs)).get)=some out from ho)
 have:=Ib (stp:=stp) (ks:=l.ks) (rs:=l.rs) (iq:=l.iq) (n:=st.length) (step:=fun v=>(p.step v).get) (hd:=fun v=>qK E n l.d l.ks (p.hd v).1) (sv:=fun v=>(p.hd v).2) (ex:=fun x=>(p.ex x).bind (Io E n l.d l.rs)) (fun v=>by
  rw[h2 v,Tree.Dh,Tree.get_bind]
  congr 1
  funext s
  cases s with
  |inl v'=>rfl
  |inr y=>
   refine Eq.trans (b:=((p.ex y).bind (Io E n l.d l.rs)).get.map Sum.inr) ?_ rfl
   show((p.ex y).nf.bind fun o=>(Io E n l.d l.rs o).bind fun q=>(Tree.ret (Sum.inr q):Tree (Sum (Fr E.T×St E.T) (bV E)))).get=_
   rw[Tree.get_bind,Tree.get_bind,Tree.C3]
   cases (p.ex y).get with
   |none=>rfl
   |some o=>rfl) N.fuel p.v hx ho'
 rw[e1,e2]at this
 exact this
def Sn (n:Nat) (stp:Fr E.T→St E.T→Tree (bV E)) (l:J7 E):List (sz E (EH E))→Prop
 |[]=>True
 |i::r=>UC n stp l i∧Sn n stp l r
theorem Me {n:Nat} {stp:Fr E.T→St E.T→Tree (bV E)} {l:J7 E}: ∀{is:List (sz E (EH E))},Sn n stp l is→OP n l.ks l.iq l.d stp (is.map (sz.ins (EH.tree n l.d l.rs)))
 |[],_=>trivial
 |i::r,h=>⟨Rm h.1,Me h.2⟩
def LpF (n:Nat) (stp:Fr E.T→St E.T→Tree (bV E)) (l:J7 E):Prop:=
 match l.ins with
 |some is=>Sn n stp l is
 |none=>True
def VZ (n:Nat) (stp:Nat→Fr E.T→St E.T→Tree (bV E)):Nat→List (J7 E)→Prop
 |_,[]=>True
 |k,l::r=>LpF n (stp k) l∧VZ n stp (k+1) r
theorem FQ {n:Nat}: ∀(ls:List (J7 E)) (k:Nat),M4 (ls.map (J7.info n)) k=(ls[k]?).map (J7.info n)
 |[],_=>by simp[M4]
 |l::r,0=>rfl
 |l::r,k+1=>by
  have:=FQ (n:=n) r k
  simpa [M4]using this
theorem Oj {n:Nat} {stp:Nat→Fr E.T→St E.T→Tree (bV E)}: ∀{ls:List (J7 E)} {j:Nat},VZ n stp j ls→ ∀{k:Nat} {l:J7 E},ls[k]? =some l→LpF n (stp (j+k)) l
 |[],j,h,k,l,hk=>by simp at hk
 |a::r,j,h,0,l,hk=>by cases hk;exact h.1
 |a::r,j,h,k+1,l,hk=>by
  have:=Oj h.2 (k:=k) (l:=l) (by simpa using hk)
  rwa [show j+1+k=j+(k+1)by omega]at this
structure cg (E:Env) where
 S:List (Nat×Spec E):=[]
 D:List (Nat×l8 E):=[]
 ls:List (J7 E):=[]
 rs:List (Nat×List Qk):=[]
 aM:Bool:=false
 i:sz E (OH (iT E.T×St E.T))
noncomputable def cg.L (x:cg E) (fn:Func):Nat→de E:=GF E fn.ntmps (x.ls.map (J7.info fn.ntmps)) x.rs
noncomputable def cg.B (x:cg E) (fn:Func):List (az E.T)→St E.T→Tree (iT E.T×St E.T):=OB E (jY x.S) (D1 x.D) (x.L fn) 0 x.aM fn
def cg.ins (x:cg E):GZ E (iT E.T×St E.T):=x.i.ins OH.spec
def cg.IA (x:cg E) (fn:Func):Prop:=VZ fn.ntmps (fun k=>stepOf E x.S (x.L fn) 0 k fn) 0 x.ls
def IB (B:List (az E.T)→St E.T→Tree (iT E.T×St E.T)) (i:sz E (OH (iT E.T×St E.T))):Prop:=i.Rel fun ds st p=>(B ds st).get=p.full.S5
variable {P:Program}
theorem vV {f:FuncId} {B:List (az E.T)→St E.T→Tree (iT E.T×St E.T)} {i:sz E (OH (iT E.T×St E.T))} (hB:ub P E f B) (h:IB B i):aJ P f (i.ins OH.spec):=
 ⟨B,hB,sz.Ot (sz.lV (fun ds st p hp out ho=>by rw[hp,Tree.Dh,OH.get_eq];exact ho) h)⟩
theorem uG {x:cg E} {fn:Func} (hL:x.IA fn): ∀k g,(x.L fn k).closed=some g→ ∀fr st out,(g fr st).get=some out→ ∃m fr',(qz E (stepOf E x.S (x.L fn) 0 k fn) (x.L fn k).aM (x.L fn k).iq st.length m fr st).get=some (out.1,fr',out.2.2)∧DH out.2.1 fr':=by
 intro k g hg fr st out ho
 have hlk:x.L fn k=GF E fn.ntmps (x.ls.map (J7.info fn.ntmps)) x.rs k:=rfl
 cases hl:x.ls[k]? with
 |none=>
  have:M4 (x.ls.map (J7.info fn.ntmps)) k=none:=by rw[FQ,hl];rfl
  rw[hlk]at hg
  unfold GF at hg
  rw[this]at hg
  cases hg
 |some l=>
  have e:M4 (x.ls.map (J7.info fn.ntmps)) k=some (l.info fn.ntmps):=by rw[FQ,hl];rfl
  have hF:=Oj hL hl
  rw[Nat.zero_add]at hF
  have hk:(x.L fn k).aM=l.ks∧(x.L fn k).iq=l.iq:=by
   rw[hlk];unfold GF;rw[e];exact⟨rfl,rfl⟩
  rw[hk.1,hk.2]
  rw[hlk]at hg
  unfold GF at hg
  rw[e]at hg
  unfold J7.info at hg
  unfold LpF at hF
  cases hi:l.ins with
  |none=>simp only[hi]at hg;cases hg
  |some is=>
   simp only[hi]at hg hF
   cases hg
   exact ZD (Me hF) fr st out ho
theorem cg.JS (HS:Sound P E) (hmix:P.follows .mixedOrders=true) {x:cg E} {f:FuncId} {fn:Func} {c:Code} (hf:P.funcs[f]? =some fn) (hb:fn.body=some c) (hS:G3 P E x.S) (hD:Mn P E x.D) (hL:x.IA fn):ub P E f (x.B fn):=
 R4 HS hmix hS hD hf hb (uG hL)
theorem cg.ok (HS:Sound P E) (hmix:P.follows .mixedOrders=true) {x:cg E} {f:FuncId} {fn:Func} {c:Code} (hf:P.funcs[f]? =some fn) (hb:fn.body=some c) (hS:G3 P E x.S) (hD:Mn P E x.D) (hL:x.IA fn) (h:IB (x.B fn) x.i):aJ P f x.ins:=
 vV (cg.JS HS hmix hf hb hS hD hL) h
theorem cg.okF (HS:Sound P E) (hmix:P.follows .mixedOrders=true) {x:cg E} {f:FuncId} {fn:Func} {c:Code} (hf:P.funcs[f]? =some fn) (hb:fn.body=some c) (hS:G3 P E x.S) (hD:Mn P E x.D) (hL:x.IA fn) (h:IB (Fh (x.B fn)) x.i):aJ P f x.ins:=
 vV (EI HS.todq (cg.JS HS hmix hf hb hS hD hL)) h
def Tup (E:Env):List Ty→Type
 |[]=>Unit
 |[t]=>I E.T t
 |t::r=>I E.T t×Tup E r
def Qu:(ts:List Ty)→Tup E ts→List (az E.T)
 |[],_=>[]
 |[t],x=>[.val t x]
 |t::t'::r,x=> .val t x.1::Qu (t'::r) x.2
def cu (ps rs:List Ty) (g:Sh.E6 E (ps.map .v) (Tree (Tup E rs))):sz E (OH (iT E.T×St E.T)):=⟨ps.map .v,[],Sh.B2 (ps.map .v) (fun t=>OH.opt t fun x=> .ret (.ret (Qu rs x),[])) g⟩
end
end
open Go
noncomputable section
def ZF (E:Env) (t:TypeId) (ty:Ty):Bool:=
 match E.tk t with
 | .data ty'=>jn ty' ty
 |_=>false
theorem M9 {E:Env} {t:TypeId} {ty:Ty} (h:ZF E t ty=true):E.tk t= .data ty:=by
 unfold ZF at h
 split at h
 ·rename_i ty' e;rw[e,dP h]
 ·cases h
def Ow (E:Env) (i:Nat):Nat→List Ty→List Field→Bool
 |_,[],[]=>true
 |j,ty::ts,f::fs=>ZF E f.type ty&&(decide (f.offset=E.qM i j)&&(!(Nat.beq (E.size ty) 0)&&(decide (f.name≠ "_")&&Ow E i (j+1) ts fs)))
 |_,_,_=>false
theorem Ln {E:Env} {i:Nat}: ∀(ts:List Ty) (fs:List Field) (j:Nat),Ow E i j ts fs=true→fs.length=ts.length∧ ∀(q:Nat) (f:Field),fs[q]? =some f→ ∃ty,aR ts q=some ty∧E.tk f.type= .data ty∧f.offset=E.qM i (j+q)∧E.size ty≠0∧f.name≠ "_"
 |[],[],j,h=>⟨rfl,fun q f hq=>by simp at hq⟩
 |[],_::_,j,h=>by cases h
 |_::_,[],j,h=>by cases h
 |ty::ts,f::fs,j,h=>by
  simp only[Ow,Bool.and_eq_true]at h
  obtain⟨h1,h2,h3,h4,h5⟩:=h
  obtain⟨a,b⟩:=Ln ts fs (j+1) h5
  refine⟨by simp[a],fun q g hq=> ?_⟩
  cases q with
  |zero=>
   cases hq
   refine⟨ty,rfl,M9 h1,of_decide_eq_true h2,fun h0=> ?_,of_decide_eq_true h4⟩
   rw[h0]at h3
   cases h3
  |succ q=>
   obtain⟨ty',c1,c2,c3,c4⟩:=b q g (by simpa using hq)
   exact⟨ty',c1,c2,by rw[c3,show j+1+q=j+(q+1)by omega],c4⟩
def RN (P:Program) (E:Env) (t:TypeId) (ty:Ty):Bool:=
 match ty,P.underlying t with
 | .bool,some .bool=>true
 | .int k,some (.int k')=>decide (k'=k)
 | .str,some .string=>true
 | .slice e,some (.slice te)=>ZF E te e
 | .arr n e,some (.array n' te)=>Nat.beq n' n&&ZF E te e
 | .named i,some (.struct fs)=>Ow E i 0 (E.fields i) fs.toList
 |_,_=>false
theorem RL {P:Program} {E:Env} {t:TypeId} {ty:Ty} (h:RN P E t ty=true):V1 P E t ty:=by
 unfold RN at h
 split at h
 ·rename_i e;exact e
 ·rename_i k k' e
  have:=of_decide_eq_true h
  subst this
  exact e
 ·rename_i e;exact e
 ·rename_i e' te e;exact⟨te,e,M9 h⟩
 ·rename_i n e' n' te e
  rw[Bool.and_eq_true]at h
  have:=Nat.eq_of_beq_eq_true h.1
  subst this
  exact⟨te,e,M9 h.2⟩
 ·rename_i i fs e
  obtain⟨a,b⟩:=Ln _ _ 0 h
  refine⟨fs,e,by rw[←Array.length_toList,a],fun j f hj=> ?_⟩
  obtain⟨ty,c1,c2,c3,c4⟩:=b j f (by rw[Array.getElem?_toList];exact hj)
  exact⟨ty,c1,c2,by rw[c3,Nat.zero_add],c4⟩
 ·cases h
def YQ (P:Program) (E:Env) (t:TypeId) (k:TK):Bool:=
 match k,P.info? t with
 | .other,_=>true
 | .data ty,some i=>Nat.beq i.size (E.size ty)&&(Nat.ble i.bytes 8192&&(Mp E depth ty&&RN P E t ty))
 | .ptr,some i=>Nat.beq i.size 1&&(match P.underlying t with|some (.pointer _)=>true|_=>false)
 | .func,some i=>Nat.beq i.size 1&&(match P.underlying t with|some (.func _ _ _)=>true|_=>false)
 | .iface,some i=>Nat.beq i.size 1&&(match P.underlying t with|some (.interface _)=>true|_=>false)
 |_,none=>false
def tbB (P:Program) (E:Env):Nat→List TK→Bool
 |_,[]=>true
 |t,k::r=>YQ P E t k&&tbB P E (t+1) r
def DL (P:Program):Nat→List TK→List (Option (Option Value))
 |_,[]=>[]
 |t,.other::r=>none::DL P (t+1) r
 |t,_::r=>(P.info? t).map (·.zero) ::DL P (t+1) r
def wZ (E:Env):List TK→List (Option (Option Value))
 |[]=>[]
 | .other::r=>none::wZ E r
 | .data ty::r=>some (some (toV ty (dY E depth ty))) ::wZ E r
 | .ptr::r=>some (some (.pointer none)) ::wZ E r
 | .func::r=>some (some .nilFunc) ::wZ E r
 | .iface::r=>some (some .nilIface) ::wZ E r
theorem ug {P:Program} {E:Env}: ∀(l:List TK) (t:Nat),tbB P E t l=true→DL P t l=wZ E l→OF P E t l
 |[],_,_,_=>trivial
 |k::r,t,h,hz=>by
  simp only[tbB,Bool.and_eq_true]at h
  obtain⟨h1,h2⟩:=h
  cases k with
  |other=>exact⟨trivial,ug r (t+1) h2 (by simp only[DL,wZ,List.cons.injEq]at hz;exact hz.2)⟩
  |data ty=>
   simp only[DL,wZ,List.cons.injEq]at hz
   refine⟨?_,ug r (t+1) h2 hz.2⟩
   unfold YQ at h1
   cases hi:P.info? t with
   |none=>rw[hi]at h1;cases h1
   |some i=>
    rw[hi]at h1 hz
    simp only[Bool.and_eq_true]at h1
    exact UI hi (Nat.eq_of_beq_eq_true h1.1) (Nat.le_of_ble_eq_true h1.2.1) (Option.some.inj hz.1) (RL h1.2.2.2) h1.2.2.1
  |ptr=>
   simp only[DL,wZ,List.cons.injEq]at hz
   refine⟨?_,ug r (t+1) h2 hz.2⟩
   unfold YQ at h1
   cases hi:P.info? t with
   |none=>rw[hi]at h1;cases h1
   |some i=>
    rw[hi]at h1 hz
    simp only[Bool.and_eq_true]at h1
    obtain⟨a,b⟩:=h1
    split at b
    ·rename_i e he;exact⟨⟨_,he⟩,i,hi,Nat.eq_of_beq_eq_true a,Option.some.inj hz.1⟩
    ·cases b
  |func=>
   simp only[DL,wZ,List.cons.injEq]at hz
   refine⟨?_,ug r (t+1) h2 hz.2⟩
   unfold YQ at h1
   cases hi:P.info? t with
   |none=>rw[hi]at h1;cases h1
   |some i=>
    rw[hi]at h1 hz
    simp only[Bool.and_eq_true]at h1
    obtain⟨a,b⟩:=h1
    split at b
    ·rename_i e he;exact⟨⟨_,_,_,he⟩,i,hi,Nat.eq_of_beq_eq_true a,Option.some.inj hz.1⟩
    ·cases b
  |iface=>
   simp only[DL,wZ,List.cons.injEq]at hz
   refine⟨?_,ug r (t+1) h2 hz.2⟩
   unfold YQ at h1
   cases hi:P.info? t with
   |none=>rw[hi]at h1;cases h1
   |some i=>
    rw[hi]at h1 hz
    simp only[Bool.and_eq_true]at h1
    obtain⟨a,b⟩:=h1
    split at b
    ·rename_i e he;exact⟨⟨_,he⟩,i,hi,Nat.eq_of_beq_eq_true a,Option.some.inj hz.1⟩
    ·cases b
end
open Go
noncomputable section
def Ov:Code→List Code→Option (Array Oper×List Code)
 | .region _ ops false,k=>some (ops,k)
 | .seq a b,k=>Ov a (b::k)
 |_,_=>none
section
variable (E:Env)
def JM (S:FuncId→Option (Spec E)) (L:Nat→de E) (N:Nat):Nat→List Code→Fr E.T→St E.T→Tree (bV E)
 |_,[],fr,st=> .ret (.normal,fr,st)
 |i,c::r,fr,st=>(gh E S L N i c fr st).bind fun p=>match p.1 with
  | .normal=>JM S L N (i+dg c) r p.2.1 p.2.2
  |e=> .ret (e,p.2.1,p.2.2)
def ql (S:FuncId→Option (Spec E)) (L:Nat→de E) (N:Nat) (fn:Func) (args:List (az E.T)) (st:St E.T) (sA:Option (az E.T)):Tree (Bool×St E.T):=
 Tree.cV fn.results.toList.isEmpty<|match fn.body with
 |some c0=>match Ov c0 []with
  |some (ops,k)=>match ops.toList with
   |o::r=>
    match o.op,o.guard with
    | .call {callee:= .builtin .recover,..},none=>
     (Nr E S ops.toList r (put E (frame E fn args) o.dst (QZ E sA)) st).bind fun
     | .panic _ _ _=> .fail
     | .done fr1 st1=>(JM E S L N 0 k fr1 st1).bind fun p=>match p.1 with
      | .normal=>S7 E st.length sA p.2.1 p.2.2
      | .ret=>S7 E st.length sA p.2.1 p.2.2
      |_=> .fail
    |_,_=> .fail
   |[]=> .fail
  |none=> .fail
 |none=> .fail
end
section
variable {P:Program} {E:Env}
abbrev QS:=Exit→Act→List Frame→World→Prop
def Bq (P:Program) (Q:QS):List Code→QS
 |[]=>Q
 |c::k=>Exit.thenS (c.wpS P (Bq P Q k)) (Bq P Q k)
theorem sE {Q:QS} {e:Exit} {a:Act} {cs:List Frame} {w:World} (he:e≠ .normal) (h:Q e a cs w): ∀k,Bq P Q k e a cs w
 |[]=>h
 |c::k=>by
  have:=sE he h k
  cases e with
  |normal=>exact absurd rfl he
  |_=>exact this
theorem Lg {Q:QS} {a:Act} {cs:List Frame} {w:World} {ops:Array Oper} {k':List Code}: ∀(c0:Code) (k:List Code),Ov c0 k=some (ops,k')→wpOpsS P ops (Bq P Q k') (List.range ops.size) a cs w→c0.wpS P (Bq P Q k) a cs w
 | .region _ o false,k,h,hw=>by cases h;exact wpS_region hw
 | .region _ o true,k,h,hw=>by cases h
 | .seq x y,k,h,hw=>wpS_seq (Lg x (y::k) h hw)
 | .skip,_,h,_=>by cases h
 | .cond _ _ _,_,h,_=>by cases h
 | .loop _,_,h,_=>by cases h
 | .block _ _,_,h,_=>by cases h
 | .exit _,_,h,_=>by cases h
 | .ret,_,h,_=>by cases h
 | .rangeFunc _ _ _ _,_,h,_=>by cases h
 | .scope _,_,h,_=>by cases h
 | .label _,_,h,_=>by cases h
 | .goto _,_,h,_=>by cases h
 | .refuse _,_,h,_=>by cases h
def yV (S:FuncId→Option (Spec E)) (L:Nat→de E) (N:Nat):Nat→List Code→Prop
 |_,[]=>True
 |i,c::k=>fj S L N i c∧yV S L N (i+dg c) k
theorem D9 {S:FuncId→Option (Spec E)} {L:Nat→de E} {N:Nat} {ops:Array Oper} {k':List Code}: ∀(c0:Code) (k:List Code) (i:Nat),Ov c0 k=some (ops,k')→fj S L N i c0→yV S L N (i+dg c0) k→yV S L N i k'
 | .region _ o false,k,i,h,hc,hk=>by cases h;exact hk
 | .region _ o true,k,i,h,hc,hk=>by cases h
 | .seq x y,k,i,h,hc,hk=>D9 x (y::k) i h hc.1 ⟨hc.2,by simpa [dg,Nat.add_assoc]using hk⟩
 | .skip,_,_,h,_,_=>by cases h
 | .cond _ _ _,_,_,h,_,_=>by cases h
 | .loop _,_,_,h,_,_=>by cases h
 | .block _ _,_,_,h,_,_=>by cases h
 | .exit _,_,_,h,_,_=>by cases h
 | .ret,_,_,h,_,_=>by cases h
 | .rangeFunc _ _ _ _,_,_,h,_,_=>by cases h
 | .scope _,_,_,h,_,_=>by cases h
 | .label _,_,_,h,_,_=>by cases h
 | .goto _,_,_,h,_,_=>by cases h
 | .refuse _,_,_,h,_,_=>by cases h
theorem Ir (HS:Sound P E) (hmix:P.follows .mixedOrders=true) {S:FuncId→Option (Spec E)} (HC:mN P E S) {L:Nat→de E} {N:Nat} {Q:QS} {cs:List Frame}: ∀(k:List Code) (i:Nat) {fr:Fr E.T} {st:St E.T} {a:Act} {w:World} {σ:Sg} {out:bV E},yV S L N i k→
  br E σ st w→cj E σ st w fr a→(JM E S L N i k fr st).get=some out→CD E σ st w (fun e a w=>Q e a cs w) out→Bq P Q k .normal a cs w
 |[],i,fr,st,a,w,σ,out,hL,hst,hfr,h,hp=>by
  cases h
  exact hp σ w a _ (Mf.refl hst) hfr .normal
 |c::k,i,fr,st,a,w,σ,out,hL,hst,hfr,h,hp=>by
  simp only[JM]at h
  obtain⟨⟨e,fr1,st1⟩,h1,h2⟩:=Tree.aA h
  show c.wpS P (Bq P Q k) a cs w
  refine wpS_of_wp (iN HS hmix HC c i hL.1 hst hfr h1 (fun σ' w' a' x m hfr' hx=> ?_))
  cases hx with
  |normal=>exact Ir HS hmix HC k (i+dg c) hL.2 m.rep hfr' h2 (hp.later m)
  |exit id=>cases h2;exact sE (by intro h;cases h) (hp σ' w' a' _ m hfr' (.exit id)) k
  |ret=>cases h2;exact sE (by intro h;cases h) (hp σ' w' a' _ m hfr' .ret) k
  |panic v u hv=>cases h2;exact sE (by intro h;cases h) (hp σ' w' a' _ m hfr' (.panic v u hv)) k
theorem P0 (HS:Sound P E) (hmix:P.follows .mixedOrders=true) {S:FuncId→Option (Spec E)} (HC:mN P E S) {L:Nat→de E} {N:Nat} {f:FuncId} {fn:Func} {c0:Code}
  (hf:P.funcs[f]? =some fn) (hb:fn.body=some c0) (hL:fj S L N 0 c0) (hent:Enters P f):iC P E f (ql E S L N fn):=by
 refine⟨hent,?_⟩
 intro σ st w ds us sA u b st' hst hds hpan h
 unfold ql at h
 obtain⟨hres,h⟩:=Tree.aO h
 have hres':fn.results= #[]:=by
  rw[List.isEmpty_iff]at hres
  exact Array.toList_eq_nil_iff.1 hres
 rw[hb]at h
 simp only at h
 split at h
 ·rename_i ops k hhead
  split at h
  ·rename_i o r hops
   split at h
   ·rename_i args ats hop hg
    obtain⟨out,h1,h2⟩:=Tree.aA h
    cases out with
    |panic v fr st=>cases h2
    |done fr1 st1=>
     obtain⟨⟨e,fr2,st2⟩,h3,h4⟩:=Tree.aA h2
     have hfr0:=yp (fn:=fn) hds
     have hi0:ops[0]? =some o:=by rw[←Array.getElem?_toList,hops];rfl
     refine callsD_of_wpS hf hb (fun c₀ cs hm=> ?_)
     obtain⟨uv,cs',hrec,hcs,hfr1,hor⟩: ∃(uv:Value) (u':FrameMode),(match recoverD (c₀::cs)with|some (v,cs')=>v=uv∧cs'={c₀ with mode:=u'} ::cs|none=>uv= .nilIface∧(c₀::cs)={c₀ with mode:=u'} ::cs)∧True∧
       cj E σ st w (put E (frame E fn ds) o.dst (QZ E sA)) (({tmps:=us.toArray++Array.replicate (fn.ntmps-us.toArray.size) undef,defers:=[]}:Act).put o.dst uv)∧
       ((UR E sA=true∧settle u'= .returning)∨(UR E sA=false∧u'=u)):=by
      cases hpan with
      |none=>
       refine⟨.nilIface,.returning,?_,trivial,fm hfr0 o.dst .ct,.inr ⟨rfl,rfl⟩⟩
       have:recoverD (c₀::cs)=none:=by simp[recoverD,hm]
       rw[this]
       refine⟨rfl,?_⟩
       rw[←hm]
      |some v uv hv=>
       refine⟨uv,.panicking [{v:=uv,recovered:=true}],?_,trivial,fm hfr0 o.dst hv,.inl ⟨rfl,rfl⟩⟩
       have:recoverD (c₀::cs)=some (uv,{c₀ with mode:= .panicking [{v:=uv,recovered:=true}]} ::cs):=by simp[recoverD,hm]
       rw[this]
       exact⟨rfl,rfl⟩
     let QQ:QS:=bodyPostS P fn c₀ cs (fun e u' w'=>(∃v,e= .returned v)∧ ∃σ',Mf σ σ' st st' w w'∧((b=true∧settle u'= .returning)∨(b=false∧u'=u)))
     refine Lg (Q:=QQ) c0 [] hhead ?_
     have hsz:ops.size=r.length+1:=by rw[←Array.length_toList,hops];rfl
     rw[hsz,List.range_eq_range',List.range'_succ]
     simp only[wpOpsS,hi0]
     rw[if_pos (by unfold Region.wanted;rw[hg])]
     have hrunR:(execOp ({tmps:=us.toArray++Array.replicate (fn.ntmps-us.toArray.size) undef,defers:=[]}:Act).eval o).run P w= .ok .recover w:=by
      unfold execOp
      simp only[hop,resolve,Sem.run_bind,Sem.run_pure,Result.andThen_ok,invoke,builtin]
     have hloops:yV S L N 0 k:=D9 c0 [] 0 hhead hL trivial
     have rest:wpOpsS P ops (Bq P QQ k) (List.range' 1 r.length) (({tmps:=us.toArray++Array.replicate (fn.ntmps-us.toArray.size) undef,defers:=[]}:Act).put o.dst uv) ({c₀ with mode:=cs'} ::cs) w:=by
      have hnot: ∀k a w,¬Bq P QQ k .outgrown a ({c₀ with mode:=cs'} ::cs) w:=by
       intro k
       induction k with
       |nil=>intro a w h;obtain⟨u',⟨v,hv⟩,_⟩:=h;cases hv
       |cons c k ih=>exact fun a w h=>ih a w h
      refine ER (fun a w h=>hnot k a w h) _ _ _ ?_
      ·refine EZ HS HC r 1 (by rw[hops];rfl) hst hfr1 h1 ?_
       intro σ1 w1 a1 m1 hfr1'
       refine Ir HS hmix HC k 0 hloops m1.rep hfr1' h3 ?_
       intro σ2 w2 a2 x m2 hfr2 hx
       have fin: ∀(fr:Fr E.T) (st2':St E.T),(S7 E st.length sA fr st2').get=some (b,st')→Mf σ σ2 st st2' w w2→cj E σ2 st2' w2 fr a2→
         a2.defers=[]∧ ∃u',({c₀ with mode:=cs'} ::cs)={c₀ with mode:=u'} ::cs∧ ∃v,(results fn a2.tmps).run P w2= .ok v w2∧(∃v',Ending.returned v= .returned v')∧ ∃σ',Mf σ σ' st st' w w2∧((b=true∧settle u'= .returning)∨(b=false∧u'=u)):=by
        intro fr st2' hfin mm hff
        unfold S7 at hfin
        split at hfin
        ·rename_i hfd
         obtain⟨hlt,hfin⟩:=Tree.aO hfin
         cases hfin
         have hdd:=hff.d
         rw[hfd]at hdd
         obtain⟨mf,_⟩:=fS (List.range' st.length (st2'.length-st.length)) mm.rep
         have mm2:=mm.trans (mf.trans (Mv.yF HS.todq mf.rep st.length)).f
         refine⟨by generalize a2.defers=dd at hdd;cases hdd;rfl,cs',rfl,.tuple #[],by simp[results,hres'],⟨_,rfl⟩,σ2,Mf.take mm2 (xd mm2.rep (JT hlt)),hor⟩
        ·cases hfin
       cases hx with
       |normal=>exact fin fr2 st2 h4 (m1.trans m2) hfr2
       |ret=>exact fin fr2 st2 h4 (m1.trans m2) hfr2
       |exit id=>cases h4
       |panic v u hv=>cases h4
     rw[hrunR]
     simp only
     cases hrd:recoverD (c₀::cs)with
     |none=>
      rw[hrd]at hrec
      obtain⟨rfl,hcs2⟩:=hrec
      simp only
      rw[hcs2]
      exact rest
     |some p=>
      obtain⟨v,cs2⟩:=p
      rw[hrd]at hrec
      obtain⟨rfl,rfl⟩:=hrec
      exact rest
   ·cases h
  ·cases h
 ·cases h
theorem k6 {P:Program} (HS:Sound P E) (hmix:P.follows .mixedOrders=true) {S:List (Nat×Spec E)} (hS:G3 P E S) {L:Nat→de E} (hL: ∀i,(L i).closed=none) {N:Nat} {f:FuncId} {fn:Func} {c:Code}
  (hen:Enters P f) (hf:P.funcs[f]? =some fn) (hb:fn.body=some c):iC P E f (ql E (jY S) L N fn):=
 P0 HS hmix (GG HS (xX hS)) hf hb (gS hL c 0) hen
end
end
open Go
noncomputable section
@[reducible] def Ty.i6:Ty:= .int .i64
@[reducible] def Sh.iv:Sh:= .v (.int .i64)
@[reducible] def az.iv {T:Nat→Type} (x:I T (.int .i64)):az T:= .val (.int .i64) x
@[reducible] def az.sv {T:Nat→Type} (x:I T .str):az T:= .val .str x
@[reducible] def az.bv {T:Nat→Type} (x:I T .bool):az T:= .val .bool x
@[reducible] def az.nv {T:Nat→Type} (i:Nat) (x:I T (.named i)):az T:= .val (.named i) x
@[reducible] def fF.bx (s:Sh):fF:= .box false s
@[reducible] def fF.al (e:Ty):fF:= .arr .live e
@[reducible] def Obj.bx {T:Nat→Type} (c:az T):Obj T:= .box false c
@[reducible] def Obj.al {T:Nat→Type} (e:Ty) (xs:List (I T e)):Obj T:= .arr .live e xs
end
open Go Go.RowKit
noncomputable section
section
variable {P:Program} {E:Env} {w w':World} {σ:Sg} {st:St E.T} {M:Nat→Prop}
theorem yN (hst:br E σ st w) (h:Below w.heap.size w w'):Mf σ σ st st w w':=(Mv.still hst h.os h.tape h.output h.size h.block).f
theorem IQ {s:List UInt8} (h:s.length≤dy):a8 E σ st w M (.val .str s) (.string ⟨s.toArray⟩):=by
 have h1:cF E w M .str (ByteArray.mk s.toArray).data.toList [.string ⟨s.toArray⟩]:=cF.str _ (by simpa [ByteArray.size]using h)
 exact .data .str _ _ (.val .str _ _ h1)
def UP (E:Env):List (az E.T)→Tree (iT E.T)
 |[.val .str s,.val (.int .i64) n]=> .ite (N.Fw (α:=UInt8) s n) (.ret (.ret [.val .str (N.pW (α:=UInt8) s n)])) .fail
 |_=> .fail
theorem Fv (l:List UInt8): ∀c,Lib.repeatL l c=(List.replicate c l).flatten
 |0=>rfl
 |c+1=>by rw[Lib.repeatL,List.replicate_succ,List.flatten_cons,Fv l c]
theorem UO {f:FuncId} (hen:Enters P f)
  (hc: ∀(s:ByteArray) (c:Nat) (w:World),c≤9223372036854775807→s.size*c≤140737488355328→Calls P f #[.string s,.int .i64 c] w fun e w'=>e= .returned (.string ⟨(Lib.repeatL s.data.toList c).toArray⟩)∧Below w.heap.size w w'):
  oc P E f (.pure [.str,.int .i64] (UP E)):=by
 refine⟨hen,fun{σ w ds us r} hst hds hr=> ?_⟩
 unfold UP at hr
 split at hr
 ·rename_i s n
  simp only[Tree.get]at hr
  cases hk:N.Fw (α:=UInt8) s n with
  |false=>rw[hk]at hr;cases hr
  |true=>
   rw[hk]at hr
   cases hr
   cases hds with
   |cons v r u us h1 h2=>
    cases h2 with
    |cons v r u2 us h2 h3=>
     cases h3
     obtain⟨b,rfl,hb,_⟩:=tm h1
     have:=jg h2;subst this
     unfold N.Fw at hk
     simp only[Bool.and_eq_true,decide_eq_true_eq]at hk
     obtain⟨k1,k2,k3⟩:=hk
     obtain⟨c,hn⟩: ∃c:Nat,n=((c:Nat):Int):=⟨Int.toNat n,(Int.toNat_of_nonneg k1).symm⟩
     subst hn
     rw[Int.toNat_natCast]at k3
     have hsz:b.size=s.length:=by rw[←hb];exact Array.length_toList.symm
     have k2':c≤2147483648:=Int.ofNat_le.1 k2
     have k3':s.length*c≤2147483648:=k3
     have hcall:=hc b c w (by omega) (by rw[hsz];omega)
     refine hcall.mono fun e w' ⟨he,hbel⟩=>⟨σ,yN hst hbel,?_⟩
     rw[he,hb,Fv]
     have hl:(List.replicate c s).flatten.length≤dy:=by
      rw[List.length_flatten,List.map_replicate,List.sum_replicate_nat,Nat.mul_comm]
      exact k3'
     exact IQ hl
 ·cases hr
end
end
open Go Go.RowKit
noncomputable section
def kO:Nat→Code→Code
 |0,c=>c
 |n+1,.seq _ b=>kO n b
 |_+1,_=> .skip
def BN:Nat→Code→Code
 |0,_=> .skip
 |n+1,.seq a b=> .seq a (BN n b)
 |_+1,c=>c
def N5:Nat→Code→Bool
 |0,_=>true
 |n+1,.seq _ b=>N5 n b
 |_+1,_=>false
open Go.Proofs.YtlejgahbbfeagaaGreatDoor.N (jk jl)
def Bj (ks:List Nat) (W W':World):Prop:=W.heap.size≤W'.heap.size∧ ∀b∈ks,W'.heap[b]? =W.heap[b]?
theorem Bj.cell {ks:List Nat} {W W':World} (h:Bj ks W W') {p:Addr} (hp:p.block∈ks):W'.cell? p=W.cell? p:=World.cell?_of_block (h.2 _ hp)
theorem Bj.refl (ks:List Nat) (W:World):Bj ks W W:=⟨Nat.le_refl _,fun _ _=>rfl⟩
theorem Bj.trans {ks:List Nat} {A B C:World} (h:Bj ks A B) (k:Bj ks B C):Bj ks A C:=⟨Nat.le_trans h.1 k.1,fun b hb=>(k.2 b hb).trans (h.2 b hb)⟩
theorem Bj.two {W W':World} {a b:Nat} (h:W.heap.size≤W'.heap.size) (h1:W'.heap[a]? =W.heap[a]?) (h2:W'.heap[b]? =W.heap[b]?):Bj [a,b] W W':=
 ⟨h,fun k hk=>by
  rcases List.mem_cons.1 hk with rfl|hk
  ·exact h1
  ·rw[List.mem_singleton.1 hk];exact h2⟩
theorem Bj.putObj {ks:List Nat} {W:World} {l B:Nat} {o o':Go.Obj} (hl:B≤l) (h:W.heap[l]? =some o) (hks: ∀k∈ks,k<B):Bj ks W (W.putObj l o'):=
 ⟨by simp,fun b hb=>World.putObj_heap_other (by have:=hks b hb;omega)⟩
theorem MR {F:Fence} {n:Nat} {P:Program} {c:Code} {Q:Exit→Act→World→Prop} {a:Act} {w:World} (a':Act) (w':World) (hk:Q .normal a' w') (h: ∀Q':Exit→Act→World→Prop,Q' .normal a' w'→c.wpIn F n P Q' a w):c.wpIn F n P Q a w:=h Q hk
def DC (b len k:Nat):Value:= .slice (some ⟨b,32*k,none⟩) (min 32 (len-32*k)) (min 32 (len-32*k))
def tZ (fn:Func):Code:=
 match fn.body with
 |some c=>c
 |none=> .skip
theorem Jn (l:List Value) {n:Nat} (h:l.length=n):l=(List.range n).map fun i=>l.getD i undef:=by
 subst h
 apply List.ext_getElem
 ·simp
 ·intro i h1 h2
  simp[List.getD_eq_getElem?_getD,List.getElem?_eq_getElem h1]
section
variable {P:Program} {E:Env} {w w':World} {σ σ':Sg} {st st':St E.T} {M:Nat→Prop}
variable {a:Act} {fr:Fr E.T}
def Exit.orElse (K:Act→World→Prop) (Q:Exit→Act→World→Prop):Exit→Act→World→Prop
 | .normal,a,w=>K a w
 |e,a,w=>Q e a w
theorem Gn (HS:Sound P E) (hmix:P.follows .mixedOrders=true) {S:FuncId→Option (Spec E)} (HC:mN P E S) {L:Nat→de E} {N:Nat}: ∀(m:Nat) (c:Code) (i:Nat) {fr:Fr E.T} {st:St E.T} {a:Act} {w:World} {σ:Sg} {out:bV E} {Q:Exit→Act→World→Prop},N5 m c=true→fj S L N i c→
  br E σ st w→cj E σ st w fr a→(gh E S L N i (BN m c) fr st).get=some out→CD E σ st w (Exit.orElse (fun a w=>(kO m c).wp P Q a w) Q) out→c.wp P Q a w
 |0,c,i,fr,st,a,w,σ,out,Q,hs,hL,hst,hfr,h,hp=>by
  cases h
  exact hp σ w a _ (Mf.refl hst) hfr .normal
 |m+1,.seq c1 c2,i,fr,st,a,w,σ,out,Q,hs,hL,hst,hfr,h,hp=>by
  simp only[BN,gh]at h
  obtain⟨⟨e,fr1,st1⟩,h1,h2⟩:=Tree.aA h
  refine wp_seq (iN HS hmix HC c1 i hL.1 hst hfr h1 (fun σ' w' a' x m' hfr' hx=> ?_))
  cases hx with
  |normal=>exact Gn HS hmix HC m c2 (i+dg c1) hs hL.2 m'.rep hfr' h2 (hp.later m')
  |exit id=>cases h2;exact hp σ' w' a' _ m' hfr' (.exit id)
  |ret=>cases h2;exact hp σ' w' a' _ m' hfr' .ret
  |panic v u hv=>cases h2;exact hp σ' w' a' _ m' hfr' (.panic v u hv)
 |m+1,.skip,i,fr,st,a,w,σ,out,Q,hs,hL,hst,hfr,h,hp=>by cases hs
 |m+1,.region ..,i,fr,st,a,w,σ,out,Q,hs,hL,hst,hfr,h,hp=>by cases hs
 |m+1,.cond ..,i,fr,st,a,w,σ,out,Q,hs,hL,hst,hfr,h,hp=>by cases hs
 |m+1,.block ..,i,fr,st,a,w,σ,out,Q,hs,hL,hst,hfr,h,hp=>by cases hs
 |m+1,.loop ..,i,fr,st,a,w,σ,out,Q,hs,hL,hst,hfr,h,hp=>by cases hs
 |m+1,.exit ..,i,fr,st,a,w,σ,out,Q,hs,hL,hst,hfr,h,hp=>by cases hs
 |m+1,.ret,i,fr,st,a,w,σ,out,Q,hs,hL,hst,hfr,h,hp=>by cases hs
 |m+1,.scope ..,i,fr,st,a,w,σ,out,Q,hs,hL,hst,hfr,h,hp=>by cases hs
 |m+1,.label ..,i,fr,st,a,w,σ,out,Q,hs,hL,hst,hfr,h,hp=>by cases hs
 |m+1,.goto ..,i,fr,st,a,w,σ,out,Q,hs,hL,hst,hfr,h,hp=>by cases hs
 |m+1,.rangeFunc ..,i,fr,st,a,w,σ,out,Q,hs,hL,hst,hfr,h,hp=>by cases hs
 |m+1,.refuse ..,i,fr,st,a,w,σ,out,Q,hs,hL,hst,hfr,h,hp=>by cases hs
def OG (P:Program) (fn:Func) (c:Code) (q:Nat) (ts:TypeId):Prop:=
 ∀(a:Act) (w:World) (o:Option Addr) (b len cap:Nat) (bs:List UInt8),a.defers=[]→a.tmps.size=fn.ntmps→a.tmps[q]? =some (.slice o len cap)→bs.length=len→len≤2147483648→len≤cap→(0<len→o=some ⟨b,0,none⟩)→(0<len→b<w.heap.size)→
  (∀(j:Nat) x,bs[j]? =some x→w.cell? ⟨b,j,none⟩=some (.int .u8 (x.toNat:Int)))→
  ∀R:Ending→World→Prop,(∀v W',W'.ownsRow w.heap.size ts 1 v ((len+31)/32) ((List.range ((len+31)/32)).map fun k=>Value.string ⟨(jk bs k).toArray⟩)→Below w.heap.size w W'→R (.returned v) W')→c.wpIn .wide 3 P (bodyPostM .wide 3 P fn R) a w
def Q4 (q:Nat) (fr:Fr E.T) (st:St E.T):Tree (List UInt8):=
 match nth fr.s q .undef with
 | .own k=>match aR st k with
  |some (.arr _ e xs)=>match wS e (.int .u8)with
   |some h=> .ret (zY (T:=E.T) (congrArg Ty.slice h.down) xs)
   |none=> .fail
  |_=> .fail
 |_=> .fail
theorem Pn {q:Nat} {bs:List UInt8} (h:(Q4 (E:=E) q fr st).get=some bs): ∃k l,nth fr.s q .undef= .own k∧aR st k=some (.arr l (.int .u8) bs):=by
 unfold Q4 at h
 split at h
 ·rename_i k hk
  split at h
  ·rename_i l e xs hx
   split at h
   ·rename_i he _
    cases he.down
    cases h
    exact⟨k,l,hk,hx⟩
   ·cases h
  ·cases h
 ·cases h
def NB (E:Env) (S:FuncId→Option (Spec E)) (L:Nat→de E) (N m q:Nat) (fn:Func) (args:List (az E.T)) (st:St E.T):Tree (iT E.T×St E.T):=
 match st,fn.body with
 |[],some c=>(gh E S L N 0 (BN m c) (frame E fn args) []).bind fun p=>match p.1,p.2.1.d with
  | .normal,[]=>Tree.cV (Nat.beq p.2.1.s.length fn.ntmps) ((Q4 q p.2.1 p.2.2).bind fun bs=> .ret (.ret [.val (.slice .str) (jl bs)],[]))
  | .ret,[]=>ending E false 0 fn p.2.1 p.2.2 none
  |_,_=> .fail
 |_,_=> .fail
theorem LY {xs:List UInt8} {cs:List Value} (h:bE E w M (.int .u8) xs cs): ∀(j:Nat) x,xs[j]? =some x→cs[j]? =some (.int .u8 (x.toNat:Int)):=by
 induction xs generalizing cs with
 |nil=>intro j x hx;cases hx
 |cons y r ih=>
  cases h with
  |cons e x r c1 c2 h h'=>
   cases h
   intro j x hx
   cases j with
   |zero=>cases hx;rfl
   |succ j=>exact ih h' j x hx
theorem Fj: ∀(l:List (List UInt8)),(∀s∈l,s.length≤dy)→bE E w M .str l (l.map fun s=>Value.string ⟨s.toArray⟩)
 |[],_=> .nil _
 |s::r,h=>by
  have h1:cF E w M .str (ByteArray.mk s.toArray).data.toList [.string ⟨s.toArray⟩]:=cF.str _ (by simpa [ByteArray.size]using h s (by simp))
  have:=bE.cons (E:=E) .str s r [Value.string ⟨s.toArray⟩] _ (by simpa using h1) (Fj r fun s hs=>h s (by simp[hs]))
  simpa using this
theorem PZ (HS:Sound P E) (hmix:P.follows .mixedOrders=true) {S:List (Nat×Spec E)} (hS:G3 P E S) {L:Nat→de E} {N m q:Nat} {f:FuncId} {fn:Func} {c:Code} {ts:TypeId} (hf:P.funcs[f]? =some fn) (hb:fn.body=some c) (hs:N5 m c=true)
  (h: ∀k g,(L k).closed=some g→ ∀fr st out,(g fr st).get=some out→ ∃m fr',(qz E (stepOf E S L N k fn) (L k).aM (L k).iq st.length m fr st).get=some (out.1,fr',out.2.2)∧DH out.2.1 fr')
  (ht:OG P fn (kO m c) q ts):ub P E f (NB E (jY S) L N m q fn):=by
 have hL:fj (jY S) L N 0 c:=jf c 0 fun k cb hk f' hf'=>by
  rw[Nat.zero_add]at hf'⊢
  have:=h k f' hf'
  unfold stepOf at this
  rw[hb]at this
  simp only[hk]at this
  exact this
 intro σ st w ds us r st' hst hds hr
 unfold NB at hr
 rw[hb]at hr
 cases st with
 |cons _ _=>cases hr
 |nil=>
 simp only at hr
 obtain⟨⟨e,fr,st1⟩,h1,h2⟩:=Tree.aA hr
 refine callsIn_wide.1 (callsIn_of_wp_marks (n:=3) hf hb trivial (wpIn_wide.2 ?_) rfl)
 refine Gn HS hmix (GG HS (xX hS)) m c 0 hs hL hst (yp hds) h1 (fun σ' w' a' x m' hfr hx=> ?_)
 simp only at h2 hfr m'
 split at h2
 ·rename_i hd
  cases hx
  obtain⟨hn,h2⟩:=Tree.aO h2
  obtain⟨bs,hbs,h2⟩:=Tree.aA h2
  cases h2
  obtain⟨k,l,hk,hkx⟩:=Pn hbs
  have hdd:=hfr.d
  rw[hd]at hdd
  have hdef:a'.defers=[]:=by generalize a'.defers=dd at hdd;cases hdd;rfl
  have hsz:a'.tmps.size=fn.ntmps:=by
   have:=aW.length hfr.s
   rw[Array.length_toList]at this
   rw[←this];exact Nat.eq_of_beq_eq_true hn
  have hv:=bY hfr (.tmp q)
  simp only[cd]at hv
  rw[hk]at hv
  have hq:a'.eval (.tmp q)=σ' k:=by
   generalize a'.eval (.tmp q)=uu at hv⊢
   cases hv with
   |data t d cs hvt=>cases hvt;rfl
  have hob:=m'.rep.obj k _ hkx
  generalize hsk:σ' k=sk at hob hq
  cases hob with
  |arr l e xs v how=>
  obtain⟨hll,hcase⟩:=how
  have hbl: ∀b,MB σ' st1 b→b<w'.heap.size:=fun b hb=>Eu m'.rep hb
  have hrep0:br E σ' (st1.take 0) w':=xd m'.rep (fun k hk=>by simp[iZ]at hk)
  have m0:Mf σ σ' [] (st1.take ([]:St E.T).length) w w':=Mf.take m' hrep0
  have hst0:(st1.take ([]:St E.T).length)=[]:=rfl
  rw[hst0]at m0
  have hbs2:bs.length≤2147483648:=hll
  have hch: ∀s∈jl bs,s.length≤dy:=by
   intro s hs
   obtain⟨k,_,rfl⟩:=List.mem_map.1 hs
   unfold jk dy
   rw[List.length_take]
   omega
  have hfin: ∀(v:Value) (W':World),W'.ownsRow w'.heap.size ts 1 v ((bs.length+31)/32) ((List.range ((bs.length+31)/32)).map fun k=>Value.string ⟨(jk bs k).toArray⟩)→Below w'.heap.size w' W'→Hs E σ [] [] w (.ret [.val (.slice .str) (jl bs)]) (.returned v) W':=by
   intro v W' hrow hbel
   refine⟨σ',m0.trans (yN m0.rep hbel),?_⟩
   show a8 E σ' [] W' (MB σ' ([]:St E.T)) (.val (.slice .str) (jl bs)) v
   have hlr:bE E W' (MB σ' ([]:St E.T)) .str (jl bs) ((List.range ((bs.length+31)/32)).map fun k=>Value.string ⟨(jk bs k).toArray⟩):=by
    have:=Fj (E:=E) (w:=W') (M:=MB σ' ([]:St E.T)) (jl bs) hch
    unfold jl at this⊢
    rw[List.map_map]at this
    exact this
   have hlen:(jl bs).length=(bs.length+31)/32:=by simp[jl]
   obtain⟨hl1,hor⟩:=hrow
   rcases hor with⟨rfl,h0⟩|⟨g,cap,cur,rfl,hg,hh,hc1,hc2,hc3,hc4⟩
   ·have hnil:jl bs=[]:=List.eq_nil_of_length_eq_zero (by rw[hlen];exact h0)
    have:=cF.slice (E:=E) (w:=W') (M:=MB σ' ([]:St E.T)) .str [] none 0 [] (.nil _) (.inl rfl) (Nat.zero_le _) (Nat.le_refl _)
    rw[hnil]
    exact .data _ _ _ (.val _ _ _ this)
   ·have:=cF.slice (E:=E) (w:=W') (M:=MB σ' ([]:St E.T)) .str (jl bs) (some ⟨g,0,none⟩) cap _ hlr (.inr ⟨g,0,rfl,?_,(Array.getElem?_eq_some_iff.1 hh).1,?_⟩) (by rw[hlen];unfold dy;omega) (by rw[hlen];exact hc1)
    ·rw[hlen]at this
     exact .data _ _ _ (.val _ _ _ this)
    ·intro hb
     have:g<w'.heap.size:=by
      rcases hb with hb|⟨o,ob,ho,_⟩
      ·exact m0.rep.qC g hb
      ·cases ho
     omega
    ·intro j u hj
     rw[Nat.zero_add]
     have hj2:(cur.toList.take ((bs.length+31)/32*1))[j]? =some u:=by rw[hc4];exact hj
     unfold World.cell?
     rw[hh]
     have hlt:=(List.getElem?_eq_some_iff.1 hj2).1
     rw[List.getElem?_take_of_lt (by rw[List.length_take]at hlt;omega)]at hj2
     simpa using hj2
  have hget: ∀u,a'.eval (.tmp q)=u→u≠undef→a'.tmps[q]? =some u:=by
   intro u hu hne
   simp only[Act.eval,Array.getD_eq_getD_getElem?]at hu
   cases hc:a'.tmps[q]? with
   |none=>rw[hc]at hu;exact absurd hu.symm hne
   |some x=>rw[hc]at hu;rw[←hu];rfl
  show(kO m c).wp P (bodyPostM .wide 3 P fn (Hs E σ [] [] w (.ret [.val (.slice .str) (jl bs)]))) a' w'
  refine(wpIn_wide (n:=3)).1 ?_
  rcases hcase with⟨⟨ad,rfl⟩,rfl⟩|⟨g,cap,cur,el,fz,cs,rfl,hc1,hh,hz,hfz,hl,hcs,_⟩
  ·exact ht a' w' ad 0 0 0 [] hdef hsz (hget _ hq (by intro h;cases h)) rfl (by omega) (Nat.le_refl _) (fun h=>by omega) (fun h=>by omega) (fun j x hx=>by cases hx) _ hfin
  ·refine ht a' w' (some ⟨g,0,none⟩) g bs.length (cap+1) bs hdef hsz (hget _ hq (by intro h;cases h)) rfl hbs2 hc1 (fun _=>rfl) (fun _=>(Array.getElem?_eq_some_iff.1 hh).1) (fun j x hx=> ?_) _ hfin
   have:=hcs j _ (LY hl j x hx)
   unfold World.cell?
   rw[hh]
   simpa using this
 ·rename_i hd
  cases hx
  have hdd:=hfr.d
  rw[hd]at hdd
  have hdef:a'.defers=[]:=by generalize a'.defers=dd at hdd;cases hdd;rfl
  have hend:=zi HS (aM:=false) (fn:=fn) m' hfr .none (r:=r) (st':=st') h2
  show LeavesInM .wide 3 P fn a'.tmps _ a'.defers .returning w'
  rw[hdef]
  exact hend
 ·cases h2
end
end
open Go Go.RowKit
noncomputable section
section
variable {P:Program} {E:Env} {w w':World} {σ:Sg} {st:St E.T} {M:Nat→Prop}
def Rr (E:Env):List (az E.T)→Tree (iT E.T)
 |[.val (.slice .str) l,.val .str e]=> .ite (N.Jw l e) (.ret (.ret [.val .str (N.F5 l e)])) .fail
 |_=> .fail
theorem Ae {l:List (List UInt8)} {cs:List Value} (h:bE E w M .str l cs): ∃xs:List ByteArray,xs.map (fun b=>b.data.toList)=l∧cs=xs.map Value.string∧ ∀b∈xs,b.size≤dy:=by
 induction l generalizing cs with
 |nil=>cases h;exact⟨[],rfl,rfl,fun b hb=>by cases hb⟩
 |cons y r ih=>
  cases h with
  |cons e x r c1 c2 h h'=>
   cases h with
   |str s hs=>
    obtain⟨xs,h1,h2,h3⟩:=ih h'
    exact⟨s::xs,by simp[h1],by simp[h2],fun b hb=>(List.mem_cons.1 hb).elim (fun e=>by rw[e];exact hs) (h3 b)⟩
theorem S1 {f:FuncId} (hen:Enters P f)
  (h0: ∀(a:Option Addr) (c:Nat) (sep:ByteArray) (w:World),Calls P f #[.slice a 0 c,.string sep] w fun e w'=>e= .returned (.string ⟨#[]⟩)∧w'=w)
  (h1: ∀(bk o c:Nat) (x sep:ByteArray) (w:World),w.cell? ⟨bk,o,none⟩=some (.string x)→Calls P f #[.slice (some ⟨bk,o,none⟩) 1 c,.string sep] w fun e w'=>e= .returned (.string x)∧w'=w)
  (h2: ∀(bk o c:Nat) (xs:List ByteArray) (sep:ByteArray) (w:World),(∀(j:Nat) x,xs[j]? =some x→w.cell? ⟨bk,o+j,none⟩=some (.string x))→bk<w.heap.size→2≤xs.length→xs.length≤140737488355328→xs.length≤c→
   (Lib.join (xs.map (·.data.toList)) sep.data.toList).length≤140737488355328→
   Calls P f #[.slice (some ⟨bk,o,none⟩) xs.length c,.string sep] w fun e w'=>e= .returned (.string ⟨(Lib.join (xs.map (·.data.toList)) sep.data.toList).toArray⟩)∧Below w.heap.size w w'):
  oc P E f (.pure [.slice .str,.str] (Rr E)):=by
 refine⟨hen,fun{σ w ds us r} hst hds hr=> ?_⟩
 unfold Rr at hr
 split at hr
 ·rename_i l e
  simp only[Tree.get]at hr
  cases hk:N.Jw l e with
  |false=>rw[hk]at hr;cases hr
  |true=>
   rw[hk]at hr
   cases hr
   unfold N.Jw at hk
   have hk:=of_decide_eq_true hk
   cases hds with
   |cons v r u us hv h2'=>
    cases h2' with
    |cons v r u2 us he h3=>
     cases h3
     obtain⟨b,rfl,hb,_⟩:=tm he
     cases hv with
     |data t d cs hvt=>
     cases hvt with
     |val t x cs hc=>
     cases hc with
     |slice e' xs a cap cs hl hm hn hcap=>
     obtain⟨bs,hbs,hcs,_⟩:=Ae hl
     have hlen:l.length=bs.length:=by rw[←hbs,List.length_map]
     show Calls P f #[.slice a l.length cap,.string b] w _
     have hst2: ∀s:List UInt8,s=N.F5 l e→ ∀(en:Ending) (w':World),en= .returned (.string ⟨s.toArray⟩)→Below w.heap.size w w'→Hs E σ [] [] w (.ret [.val .str (N.F5 l e)]) en w':=by
      intro s hs en w' he hbel
      subst hs
      exact⟨σ,yN hst hbel,by rw[he];exact IQ hk⟩
     match bs,hbs,hcs,hlen with
     |[],hbs,_,hlen=>
      have hnil:l=[]:=by rw[←hbs];rfl
      rw[hlen]
      refine(h0 a cap b w).mono fun en w' ⟨he,hw⟩=>hst2 [] (by rw[hnil];rfl) en w' (by rw[he]) (by rw[hw];exact Below.refl _ _)
     |[y],hbs,hcs,hlen=>
      have hl1:l=[y.data.toList]:=by rw[←hbs];rfl
      rcases hm with h|⟨bk,off,rfl,_,_,hcell⟩
      ·rw[h]at hlen;cases hlen
      ·rw[hlen]
       have hy:w.cell? ⟨bk,off,none⟩=some (.string y):=by
        have:=hcell 0 (.string y) (by rw[hcs];rfl)
        simpa using this
       refine(h1 bk off cap y b w hy).mono fun en w' ⟨he,hw⟩=>hst2 y.data.toList (by rw[hl1];simp[N.F5,List.intercalate]) en w' (by rw[he]) (by rw[hw];exact Below.refl _ _)
     |y::z::r,hbs,hcs,hlen=>
      rcases hm with h|⟨bk,off,rfl,_,hlt,hcell⟩
      ·rw[h]at hlen;simp at hlen
      ·rw[hlen]
       have hj:N.F5 l e=Lib.join ((y::z::r).map (·.data.toList)) b.data.toList:=by rw[hbs,hb];rfl
       have hln:l.length≤2147483648:=hn
       refine(h2 bk off cap (y::z::r) b w (fun j x hx=>hcell j _ (by rw[hcs,List.getElem?_map,hx];rfl)) hlt (by simp) (by omega) (by omega) (by rw[←hj];unfold N.dy at hk;omega)).mono fun en w' ⟨he,hbel⟩=>hst2 _ hj.symm en w' he hbel
 ·cases hr
end
end
open Go
section
variable {P:Program} {E:Env} {w w':World} {σ σ':Sg} {st st':St E.T} {M:Nat→Prop}
theorem y8 (w:World) (dT sT ty e:TypeId) (i:TypeInfo) (ht:P.underlying dT=some (.slice e)) (hi:P.info? e=some i) {b o dLen dCap sLen sCap m:Nat} {a:Addr} {c:Array Value} {el:TypeId} {fr:Nat×Nat} (hh:w.heap[b]? =some (.cells c el fr)) (cs:List Value)
  (hm:m=Nat.min sLen dLen) (hl:cs.length=m*i.size) (hsrc: ∀j v,cs[j]? =some v→w.cell? (a.add j)=some v) (hfit:o+cs.length≤c.size) (hf: ∀q,w.frozen? ⟨b,q,none⟩=false) (h1: ∀v∈cs,kU v=true):
  (Builtin.copy_ #[dT,sT] ty #[.slice (some ⟨b,o,none⟩) dLen dCap,.slice (some a) sLen sCap]).run P w= .ok (goInt m) (iL w b (.cells (qq c o cs) el fr)):=by
 have hld:=run_loadCells_list (P:=P) w a cs hsrc
 have hst:=nt P b o el fr cs 0 w c hh (by simpa using hfit) h1 (fun q _ _=>hf q)
 simp only[Nat.add_zero]at hst
 simp[Builtin.copy_,run_underlying ht,Builtin.lenOf,Builtin.firstCells,sizeOf,typeInfo,hi,←hm,←hl,hld,hst]
theorem MM (w:World) (t ty e:TypeId) (i:TypeInfo) (z:Value) (ht:P.underlying t=some (.slice e)) (hi:P.info? e=some i) (hz:i.zero=some z) {b o n cap:Nat} {c:Array Value} {el:TypeId} {fr:Nat×Nat} (hh:w.heap[b]? =some (.cells c el fr))
  (zs:List Value) (hzs:Builtin.zeroCells z.cells n=zs.toArray) (hfit:o+zs.length≤c.size) (hf: ∀q,o≤q→q<o+zs.length→w.frozen? ⟨b,q,none⟩=false) (h1: ∀v∈zs,kU v=true) (h0:n=0→zs=[]):
  (Builtin.clear_ #[t] ty #[.slice (some ⟨b,o,none⟩) n cap]).run P w= .ok (.tuple #[]) (iL w b (.cells (qq c o zs) el fr)):=by
 cases n with
 |zero=>
  rw[h0 rfl,qq,HQ hh]
  simp[Builtin.clear_,run_underlying ht]
 |succ n=>
  have hst:=nt P b o el fr zs 0 w c hh (by simpa using hfit) h1 (by simpa using hf)
  simp only[Nat.add_zero]at hst
  simp[Builtin.clear_,run_underlying ht,zeroValue,typeInfo,hi,hz,hzs,hst]
theorem IY (w:World) (tS tR e:TypeId) (i:TypeInfo) (ht:P.underlying tS=some (.slice e)) (hi:P.info? e=some i) (a b:Addr) (la ca lb cb:Nat) (hne:a.block≠b.block) {cA cB:Array Value} {tA tB:TypeId} {fA fB:Nat×Nat}
  (ha:w.heap[a.block]? =some (.cells cA tA fA)) (hb:w.heap[b.block]? =some (.cells cB tB fB)) (hA:cA.size≠0) (hsa:a.spot=none) (hsb:b.spot=none) (hf: ∀q,w.frozen? ⟨b.block,q,none⟩=false):
  (Extern.SlicesOverlaps.overlaps #[tS,tS] #[tR] #[.slice (some a) la ca,.slice (some b) lb cb]).run P w= .ok (.bool false) w:=by
 have hnb:(a.block != b.block)=true:=by simpa using hne
 have hnb':(a.block==b.block)=false:=by simpa using hne
 have hsA:w.shape? a.block=some (tA,cA.size):=by unfold World.shape?;rw[ha]
 have hsB:w.shape? b.block=some (tB,cB.size):=by unfold World.shape?;rw[hb]
 have hfb:w.frozen? b=false:=by
  obtain⟨bb,bo,bs⟩:=b
  simp only at hsb
  subst hsb
  exact hf bo
 have hfe:=hf cB.size
 change Sem.run P (α:=Value) (do
  let some t:=(#[tS,tS]:Array TypeId)[0]? |stuck "slices.overlaps: no parameter types"
  let .slice elem←underlying t|stuck "slices.overlaps: slice type expected"
  let size←sizeOf elem
  match(some a:Option Addr),(some b:Option Addr)with
  |some a,some b=>
   if la=0∨lb=0∨size=0 then pure (Value.bool false)
   else if a.block != b.block&&(←Go.frozen a)&&(←Go.frozen b)then unsupported .addressObserved
   else do
    if a.block != b.block then do
     noView a;noView b
     if←mayBeOne a b then return Value.bool ((←choose (.extern "sameAddr.stringBytes" 2))==1)
    pure (Value.bool (a.block==b.block&&a.off<b.off+lb*size&&b.off<a.off+la*size))
  |_,_=>pure (Value.bool false)) w=_
 by_cases h0:la=0∨lb=0∨i.size=0
 ·simp[run_underlying ht,sizeOf,typeInfo,hi,h0]
 ·obtain⟨kA,hkA⟩: ∃kA,cA.size=kA+1:=⟨cA.size-1,by omega⟩
  rw[hkA]at hsA
  cases hfA:w.frozen? a<;>cases hfE:w.frozen? {block:=a.block,off:=kA+1}<;>
   simp[run_underlying ht,sizeOf,typeInfo,hi,h0,hnb,hnb',Go.frozen,noView,viewAt,mayBeOne,stringish,shape,Sem.run,hsA,hsB,hfb,hfe,hfA,hfE]
theorem m6 {w:World} {b:Nat} {c c':Array Value} {el:TypeId} {fr:Nat×Nat} (hh:w.heap[b]? =some (.cells c el fr)) (q:Nat):(iL w b (.cells c' el fr)).frozen? ⟨b,q,none⟩=w.frozen? ⟨b,q,none⟩:=by
 unfold World.frozen?
 rw[kT (Array.getElem?_eq_some_iff.1 hh).1,hh]
theorem Cx {w:World} {b b' q:Nat} {o:Go.Obj} (h:b≠b'):(iL w b o).cell? ⟨b',q,none⟩=w.cell? ⟨b',q,none⟩:=wE (nF h)
end
open Go
noncomputable section
section
variable {P:Program} {E:Env} {w w':World} {σ σ':Sg} {st st':St E.T} {M:Nat→Prop}
structure V0 (P:Program) (f:FuncId) (TL TE TI SZ:Nat):Prop where
 ends: ∀(base:Option Addr) (n c vb voff vc:Nat),n≤c→ ∀(w:World) (y:Value) (w':World),(∀ty,(Builtin.append_ #[TL,TL] ty #[.slice base n c,.slice (some ⟨vb,voff,none⟩) 1 vc]).run P w= .ok y w')→
  Calls P f #[.slice base n c,.int .i64 n,.slice (some ⟨vb,voff,none⟩) 1 vc] w fun e w''=>e= .returned y∧w''=w'
 room: ∀(g n c i vb voff vc:Nat),i<n→n+1≤c→n+1≤2147483648→vb≠g→ ∀(w W1 W2:World) (k1 k2:Nat) (cA cB:Array Value) (tA tB:TypeId) (fA fB:Nat×Nat),
  w.heap[vb]? =some (.cells cA tA fA)→w.heap[g]? =some (.cells cB tB fB)→cA.size≠0→(∀q,w.frozen? ⟨g,q,none⟩=false)→
  (∀ty dc sc,(Builtin.copy_ #[TL,TL] ty #[.slice (some ⟨g,(i+1)*SZ,none⟩) (n-i) dc,.slice (some ⟨g,i*SZ,none⟩) (n+1-i) sc]).run P w.drew= .ok (goInt k1) W1)→
  (∀ty dc,(Builtin.copy_ #[TL,TL] ty #[.slice (some ⟨g,i*SZ,none⟩) (n+1-i) dc,.slice (some ⟨vb,voff,none⟩) 1 vc]).run P W1= .ok (goInt k2) W2)→
  Calls P f #[.slice (some ⟨g,0,none⟩) n c,.int .i64 i,.slice (some ⟨vb,voff,none⟩) 1 vc] w fun e w'=>e= .returned (.slice (some ⟨g,0,none⟩) (n+1) c)∧w'=W2
 grow: ∀(g G n c cp i vb voff vc:Nat),i<n→n≤c→c<n+1→n+1≤2147483648→n+1≤cp→ ∀(w W0 W1 W2:World) (k1 k2:Nat),
  (∀ty,(Builtin.append_ #[TL,TI] ty #[.slice (some ⟨g,0,none⟩) i c,.int .i64 ((n:Int)+1-(i:Int))]).run P w= .ok (.slice (some ⟨G,0,none⟩) (n+1) cp) W0)→
  (∀ty dc,(Builtin.copy_ #[TL,TL] ty #[.slice (some ⟨G,i*SZ,none⟩) (n+1-i) dc,.slice (some ⟨vb,voff,none⟩) 1 vc]).run P W0= .ok (goInt k1) W1)→
  (∀ty dc sc,(Builtin.copy_ #[TL,TL] ty #[.slice (some ⟨G,(i+1)*SZ,none⟩) (n-i) dc,.slice (some ⟨g,i*SZ,none⟩) (n-i) sc]).run P W1.drew= .ok (goInt k2) W2)→
  Calls P f #[.slice (some ⟨g,0,none⟩) n c,.int .i64 i,.slice (some ⟨vb,voff,none⟩) 1 vc] w fun e w'=>e= .returned (.slice (some ⟨G,0,none⟩) (n+1) cp)∧w'=W2
def Nb (E:Env) (e:Ty) (ds:List (az E.T)) (st:St E.T):Tree (iT E.T×St E.T):=
 match ds,st with
 |[.own 0,.val (.int .i64) i,.val (.slice e1) vs],[.arr .live e2 xs]=>
  match wS e1 e,wS e2 e with
  |some h1,some h2=> .ite (N.Cb xs i vs) (.ret (.ret [.own 0],[.arr .live e (N.zw (zY (T:=E.T) (congrArg Ty.slice h2.down) xs) i (zY (T:=E.T) (congrArg Ty.slice h1.down) vs))])) .fail
  |_,_=> .fail
 |_,_=> .fail
theorem PF {α β:Type} {xs:List α} {i:Int} {vs:List β} (h:N.Cb xs i vs=true):0≤i∧i≤xs.length∧vs.length=1∧xs.length+1≤dy:=by
 unfold N.Cb at h
 simp only[Bool.and_eq_true,decide_eq_true_eq]at h
 exact⟨h.1,h.2.1,h.2.2.1,h.2.2.2⟩
theorem Li {l:List Value} {a b c:List Value} (h:l=a++(b++c)): ∀(q:Nat) (u:Value),l[q]? =some u→(if q<a.length then a[q]? else if q<a.length+b.length then b[q-a.length]? else c[q-a.length-b.length]?)=some u:=by
 intro q u hq
 rw[h]at hq
 by_cases h1:q<a.length
 ·rw[if_pos h1];rwa [List.getElem?_append_left h1]at hq
 ·rw[if_neg h1]
  rw[List.getElem?_append_right (by omega)]at hq
  by_cases h2:q<a.length+b.length
  ·rw[if_pos h2];rwa [List.getElem?_append_left (by omega)]at hq
  ·rw[if_neg h2];rwa [List.getElem?_append_right (by omega)]at hq
theorem U9 (HS:Sound P E) {f:FuncId} {TL TE TI:Nat} {e:Ty} (hTL:P.underlying TL=some (.slice TE)) (hTE:E.tk TE= .data e) (hTI:E.tk TI= .data (.int .i64)) (h8:e≠ .int .u8) {z0:I E.T e} (hz0:fo E depth e=some z0) (hpos:0<E.size e) (R:V0 P f TL TE TI (E.size e)):ub P E f (Nb E e):=by
 intro σ st w ds us r st' hst hds hr
 unfold Nb at hr
 split at hr
 ·rename_i i e1 vs e2 xs
  split at hr
  ·rename_i p1 p2 _ _
   cases p1 with|up p1=>
   cases p2 with|up p2=>
   have p1':=p1.symm
   have p2':=p2.symm
   subst p1'
   subst p2'
   obtain⟨hok,hr⟩:N.Cb xs i vs=true∧(Tree.ret (iT.ret [az.own 0],[Obj.arr RM.live e (N.zw xs i vs)]):Tree (iT E.T×St E.T)).get=some (r,st'):=by
    have hr':(bif N.Cb xs i vs then(Tree.ret (iT.ret [az.own 0],[Obj.arr RM.live e (N.zw xs i vs)]):Tree (iT E.T×St E.T)).get else none)=some (r,st'):=hr
    cases hb:N.Cb xs i vs with
    |true=>rw[hb]at hr';exact⟨rfl,hr'⟩
    |false=>rw[hb]at hr';cases hr'
   cases hr
   obtain⟨hi0,hi1,hv1,hlim⟩:=PF hok
   obtain⟨ti,hti,hsz,hby,hz⟩:=(HS.data _ _ hTE).info
   cases hds with
   |cons _ _ u0 _ hd0 hds=>
   cases hds with
   |cons _ _ u1 _ hd1 hds=>
   cases hds with
   |cons _ _ u2 _ hd2 hds=>
   cases hds
   have hu0:=vt hd0
   have hu1:=jg hd1
   obtain⟨va,vc,news,hu2,hln,hmn,hvl,hvc⟩:=BK hd2
   subst hu0 hu1 hu2
   rw[hv1]at hvc⊢
   rcases hmn with h|⟨vb,voff,rfl,hvM,hvlt,hvcell⟩
   ·rw[h]at hv1;cases hv1
   obtain⟨k,rfl⟩: ∃k:Nat,i=(k:Int):=⟨Int.toNat i,(Int.toNat_of_nonneg hi0).symm⟩
   have hk:k≤xs.length:=Int.ofNat_le.1 hi1
   have hob:=hst.obj 0 _ rfl
   have hno: ∀p ob,aR [Obj.arr RM.live e xs] p=some ob→0∉cf E ob:=by
    intro p ob hp
    cases p with
    |zero=>cases hp;simp[cf]
    |succ p=>cases hp
   have hnl:=bE.len HS.todq hln
   rw[hv1,Nat.one_mul]at hnl
   have hone: ∀u∈news,kU u=true:=bE.one hln
   have hil:(N.zw xs (k:Int) vs).length=xs.length+1:=by
    unfold N.zw
    simp only[List.length_append,List.length_take,List.length_drop,Int.toNat_natCast]
    rw[hv1];omega
   have fin: ∀(y:Value) (w':World),w'.os=w.os→w'.tape=w.tape→w'.output=w.output→w.heap.size≤w'.heap.size→(∀b,b<w.heap.size→k9 (σ 0)≠some b→w'.heap[b]? =w.heap[b]?)→
     (∀b,k9 y=some b→w.heap.size≤b∨k9 (σ 0)=some b)→(∀M',Kept (MB σ [Obj.arr RM.live e xs]) M' w w'→gz E w' M' e (N.zw xs (k:Int) vs) y)→
     Hs E σ [Obj.arr RM.live e xs] [Obj.arr RM.live e (N.zw xs (k:Int) vs)] w (.ret [.own 0]) (.returned y) w':=by
    intro y w' q1 q2 q3 q4 q5 q6 q7
    have m:=GY.swap hst (o:=0) rfl hno y q1 q2 q3 q4 q5 q6 (q7 _)
    refine⟨_,m.f,?_⟩
    have hv:=a8.data _ _ _ (VT.own (E:=E) (σ:=dN σ 0 y) (st:=[Obj.arr RM.live e (N.zw xs (k:Int) vs)]) (w:=w') (M:=MB (dN σ 0 y) [Obj.arr RM.live e (N.zw xs (k:Int) vs)]) 0 .live e (N.zw xs (k:Int) vs) rfl)
    rw[dH]at hv
    exact hv
   have hsrc:EG P ti (toV e (dY E depth e)) TL (.slice (some ⟨vb,voff,none⟩) 1 vc) 1 news w:= .src (Src.ofSlice w hTL ⟨vb,voff,none⟩ 1 vc news (by rw[hsz,hnl,Nat.one_mul]) (fun j v hv=>by rw[dS];exact hvcell j v hv) (fun u hu=>by rw[←Jc];exact hone u hu))
   have hinsE:k=xs.length→N.zw xs (k:Int) vs=xs++vs:=by
    intro h
    unfold N.zw
    rw[Int.toNat_natCast,h,List.take_length,List.drop_length,List.append_nil]
   generalize hσ:σ 0=s at*
   cases hob with
   |arr _ _ _ _ hown=>
   rcases hown.2 with⟨⟨a,rfl⟩,rfl⟩|⟨g,cap,c,el,fr,olds,rfl,hcap,hh,hcz,hfz,hlo,hq,hord⟩
   ·
    obtain rfl:k=0:=by simpa using hk
    have hold:(Builtin.firstCells ti.size 0 (.slice a 0 0)).run P w.drew= .ok ([]:List Value).toArray w.drew:=by
     cases a<;>simp[Builtin.firstCells,loadCells,loadCellsFrom]
    have hrun:=fun ty=>yR (P:=P) TL ty TE hTL hti hz hby a hold hsrc (by omega) (by omega)
    have hge:=uF w (0+1) 0 TE
    generalize grownCap w (0+1) 0 TE=cp at*
    refine Calls.mono (R.ends a 0 0 vb voff vc (Nat.le_refl _) w _ _ hrun) (fun e w' hb=> ?_)
    obtain⟨rfl,rfl⟩:=hb
    refine fin _ _ rfl rfl rfl (by simp) (fun b hb _=> ?_) (fun b hb=> .inl (by rw[j5 hb];exact Nat.le_refl _)) (fun M' hk=> ?_)
    ·show(w.heap.push _)[b]? =w.heap[b]?
     simp[Array.getElem?_push,Nat.ne_of_lt hb]
    ·rw[hinsE rfl]
     exact zf HS hTE hst (bE.append (.nil _) (bE.aM hk hln)) (by simp;omega) (by simp[hv1];omega) (by simpa [hv1]using heap_alloc_new w.drew _) (fun q=>mD (w:=w.drew) q) (by simp[hv1])
   ·have hfr: ∀q,w.frozen? ⟨g,q,none⟩=false:=fun q=>hfz q (fun h=>absurd h h8)
    have hll:=bE.len HS.todq hlo
    have hgM:MB σ [Obj.arr RM.live e xs] g:= .inr ⟨0,_,rfl,rfl,by rw[hσ];rfl⟩
    have hvg:vb≠g:=fun h=>hvM (h▸hgM)
    have hglt:=(Array.getElem?_eq_some_iff.1 hh).1
    have holds: ∀j v,olds[j]? =some v→w.cell? ⟨g,j,none⟩=some v:=fun j v hv=>by simp[World.cell?,hh,hq j v hv]
    obtain⟨o1,o2,hoe,hl1,hl2⟩:=bE.cutAt HS.todq hlo k hk
    have hlo1:o1.length=k*E.size e:=by rw[bE.len HS.todq hl1,List.length_take,Nat.min_eq_left hk]
    have hlo2:o2.length=(xs.length-k)*E.size e:=by rw[bE.len HS.todq hl2,List.length_drop]
    have hone2: ∀u∈o2,kU u=true:=bE.one hl2
    have ho1: ∀j v,o1[j]? =some v→w.cell? ⟨g,j,none⟩=some v:=fun j v hv=>holds j v (by rw[hoe,List.getElem?_append_left (List.getElem?_eq_some_iff.1 hv).1];exact hv)
    have ho2: ∀j v,o2[j]? =some v→w.cell? ⟨g,k*E.size e+j,none⟩=some v:=fun j v hv=>holds _ v (by rw[hoe,List.getElem?_append_right (by omega),hlo1,Nat.add_sub_cancel_left];exact hv)
    have hLR: ∀(M':Nat→Prop) (w':World),Kept (MB σ [Obj.arr RM.live e xs]) M' w w'→bE E w' M' e (N.zw xs (k:Int) vs) (o1++(news++o2)):=by
     intro M' w' hk'
     unfold N.zw
     rw[Int.toNat_natCast,←List.append_assoc,List.append_assoc,List.append_assoc]
     exact bE.append (bE.aM hk' hl1) (bE.append (bE.aM hk' hln) (bE.aM hk' hl2))
    have hsum:k*E.size e+E.size e+(xs.length-k)*E.size e=(xs.length+1)*E.size e:=by
     rw[←Nat.succ_mul,←Nat.add_mul];congr 1;omega
    by_cases hend:k=xs.length
    ·
     subst hend
     have hold:(Builtin.firstCells ti.size xs.length (.slice (some ⟨g,0,none⟩) xs.length (cap+1))).run P w.drew= .ok olds.toArray w.drew:=
      run_firstCells_some (P:=P) w.drew ti.size xs.length _ xs.length (cap+1) olds (by rw[hll,hsz]) (fun j v hv=>by
       rw[dS,Nat.zero_add]
       exact holds j v hv)
     by_cases hroom:xs.length+1≤cap+1
     ·have hcz2:(xs.length+1)*E.size e≤c.size:=Nat.le_trans (Nat.mul_le_mul_right _ hroom) hcz
      rw[Nat.add_mul,Nat.one_mul]at hcz2
      have hrun:=fun ty=>Mb (P:=P) TL ty TE hTL hti hsrc hroom hh (off:=0) (by rw[hsz,hnl];omega) (fun q _ _=>hfr q)
      refine Calls.mono (R.ends (some ⟨g,0,none⟩) xs.length (cap+1) vb voff vc hcap w _ _ hrun) (fun e' w' hb=> ?_)
      obtain⟨rfl,rfl⟩:=hb
      refine fin _ _ rfl rfl rfl (by rw[iK];exact Nat.le_refl _) (fun b _ hne=>nF (fun h=>hne (by rw[h];rfl))) (fun b hb=> .inr (by rw[j5 hb];rfl)) (fun M' hk'=> ?_)
      rw[hinsE rfl]
      refine gz.mk' E _ _ (by rw[List.length_append,hv1];exact hlim) (by rw[List.length_append,hv1];exact hroom) (kT hglt) (by rw[gH];exact hcz) (fun q _=>by rw[m6 hh];exact hfr q) (bE.append (bE.aM hk' hlo) (bE.aM hk' hln)) (fun q v hv=> ?_) (by rw[List.length_append,hv1])
      rw[hsz,Nat.zero_add,qF _ _ _ _ (by rw[hnl];omega)]
      by_cases hql:q<olds.length
      ·rw[if_neg (by omega)]
       rw[List.getElem?_append_left hql]at hv
       exact hq q v hv
      ·rw[List.getElem?_append_right (by omega)]at hv
       have:=(List.getElem?_eq_some_iff.1 hv).1
       rw[if_pos (by omega),←hll];exact hv
     ·have hrun:=fun ty=>yR (P:=P) TL ty TE hTL hti hz hby _ hold hsrc (by omega) hlim
      have hge:=uF w (xs.length+1) (cap+1) TE
      generalize grownCap w (xs.length+1) (cap+1) TE=cp at*
      refine Calls.mono (R.ends (some ⟨g,0,none⟩) xs.length (cap+1) vb voff vc hcap w _ _ hrun) (fun e' w' hb=> ?_)
      obtain⟨rfl,rfl⟩:=hb
      refine fin _ _ rfl rfl rfl (by simp) (fun b hb _=> ?_) (fun b hb=> .inl (by rw[j5 hb];exact Nat.le_refl _)) (fun M' hk'=> ?_)
      ·show(w.heap.push _)[b]? =w.heap[b]?
       simp[Array.getElem?_push,Nat.ne_of_lt hb]
      ·rw[hinsE rfl]
       have hlen:(xs++vs).length=xs.length+1:=by rw[List.length_append,hv1]
       exact zf HS hTE hst (bE.append (bE.aM hk' hlo) (bE.aM hk' hln)) (by rw[hlen];exact hlim) (by rw[hlen];exact hge) (by rw[hlen];exact heap_alloc_new w.drew _) (fun q=>mD (w:=w.drew) q) hlen.symm
    ·have hkn:k<xs.length:=by omega
     have hone: ∀u∈news,kU u=true:=bE.one hln
     have hcA: ∃cA tA fA,w.heap[vb]? =some (.cells cA tA fA)∧cA.size≠0:=by
      have h0:0<news.length:=by rw[hnl];exact hpos
      have:=hvcell 0 news[0] (List.getElem?_eq_getElem h0)
      unfold World.cell? at this
      split at this
      ·rename_i cA tA fA hhA
       have:=(Array.getElem?_eq_some_iff.1 this).1
       exact⟨cA,tA,fA,hhA,by omega⟩
      ·cases this
     obtain⟨cA,tA,fA,hhA,hA0⟩:=hcA
     by_cases hroom:xs.length+1≤cap+1
     ·
      ·have hcz2:(xs.length+1)*E.size e≤c.size:=Nat.le_trans (Nat.mul_le_mul_right _ hroom) hcz
       have hk1:(k+1)*E.size e=k*E.size e+E.size e:=Nat.succ_mul _ _
       have hcp1: ∀ty dc sc,(Builtin.copy_ #[TL,TL] ty #[.slice (some ⟨g,(k+1)*E.size e,none⟩) (xs.length-k) dc,.slice (some ⟨g,k*E.size e,none⟩) (xs.length+1-k) sc]).run P w.drew= .ok (goInt ((xs.length-k:Nat):Int)) (iL w.drew g (.cells (qq c ((k+1)*E.size e) o2) el fr)):=fun ty dc sc=>
        y8 w.drew TL TL ty TE ti hTL hti hh o2 (m:=xs.length-k) (by simp only[Nat.min_def];split<;>omega) (by rw[hlo2,hsz]) (fun j v hv=>by rw[dS];exact ho2 j v hv) (by rw[hlo2,hk1];omega) hfr hone2
       have hh1:(iL w.drew g (.cells (qq c ((k+1)*E.size e) o2) el fr)).heap[g]? =some (.cells (qq c ((k+1)*E.size e) o2) el fr):=kT hglt
       have hcp2: ∀ty dc,(Builtin.copy_ #[TL,TL] ty #[.slice (some ⟨g,k*E.size e,none⟩) (xs.length+1-k) dc,.slice (some ⟨vb,voff,none⟩) 1 vc]).run P (iL w.drew g (.cells (qq c ((k+1)*E.size e) o2) el fr))= .ok (goInt ((1:Nat):Int)) (iL (iL w.drew g (.cells (qq c ((k+1)*E.size e) o2) el fr)) g (.cells (qq (qq c ((k+1)*E.size e) o2) (k*E.size e) news) el fr)):=fun ty dc=>
        y8 _ TL TL ty TE ti hTL hti hh1 news (m:=1) (by simp only[Nat.min_def];split<;>omega) (by rw[hnl,hsz,Nat.one_mul]) (fun j v hv=>by rw[dS,Cx (fun h=>hvg h.symm)];exact hvcell j v hv) (by rw[gH,hnl];omega) (fun q=>by rw[m6 (w:=w.drew) hh];exact hfr q) hone
       refine Calls.mono (R.room g xs.length (cap+1) k vb voff vc hkn hroom hlim hvg w _ _ _ _ cA c tA el fA fr hhA hh hA0 hfr hcp1 hcp2) (fun e' w' hb=> ?_)
       obtain⟨rfl,rfl⟩:=hb
       refine fin _ _ rfl rfl rfl (by rw[iK,iK];exact Nat.le_refl _) (fun b _ hne=>by
        have hbg:g≠b:=fun h=>hne (by rw[h];rfl)
        rw[nF hbg,nF hbg];rfl) (fun b hb=> .inr (by rw[j5 hb];rfl)) (fun M' hk'=> ?_)
       refine gz.mk' E _ _ (by rw[hil];exact hlim) (by rw[hil];exact hroom) (kT (by rw[iK];exact hglt)) (by rw[gH,gH];exact hcz) (fun q _=>by rw[m6 hh1,m6 (w:=w.drew) hh];exact hfr q) (hLR M' _ hk') (fun q v hv=> ?_) hil.symm
       have hp:=Li rfl q v hv
       rw[hlo1,hnl]at hp
       have hql:q<(xs.length+1)*E.size e:=by
        have:=(List.getElem?_eq_some_iff.1 hv).1
        rw[List.length_append,List.length_append,hlo1,hlo2,hnl]at this
        omega
       rw[qF _ _ _ _ (by rw[gH,hnl];omega),qF _ _ _ _ (by rw[hlo2,hk1];omega),hnl,hlo2,hk1]
       by_cases c1:q<k*E.size e
       ·rw[if_pos c1]at hp
        rw[if_neg (by omega),if_neg (by omega)]
        exact hq q v (by rw[hoe,List.getElem?_append_left (by omega)];exact hp)
       ·rw[if_neg c1]at hp
        by_cases c2:q<k*E.size e+E.size e
        ·rw[if_pos c2]at hp
         rw[if_pos (by omega)]
         exact hp
        ·rw[if_neg c2]at hp
         rw[if_neg (by omega),if_pos (by omega),show q-(k*E.size e+E.size e)=q-k*E.size e-E.size e by omega]
         exact hp
     ·
      have hnx: ¬(xs.length+1≤cap+1):=hroom
      obtain⟨ys,cz,hyz,hlz,hsz0⟩:=yQ HS hst (tx:=TI) hTE hti (x:= .val (.int .i64) ((xs.length+1-k:Nat):Int)) (u:= .int .i64 ((xs.length+1-k:Nat):Int)) (k:=fun ys=> .ret (.val (.slice e) ys,[])) (r:=(.val (.slice e) (List.replicate (xs.length+1-k) z0),[])) (by
       unfold appended
       rw[show isNum E TI=true by unfold isNum;rw[hTI]]
       simp only[Tree.cV]
       rw[hz0]
       show(bif decide (0≤((xs.length+1-k:Nat):Int))&&decide (((xs.length+1-k:Nat):Int)≤dy)then some _ else none)=some _
       rw[decide_eq_true (by omega),decide_eq_true (by have:xs.length+1≤dy:=hlim;omega)]
       rfl) (.data _ _ _ (.val _ _ _ (.int .i64 _)))
      have hys:ys.length=xs.length+1-k:=by
       have h2:(az.val (T:=E.T) (.slice e) ys,([]:St E.T))=(.val (.slice e) (List.replicate (xs.length+1-k) z0),[]):=Option.some.inj hyz
       have h3:=congrArg Prod.fst h2
       injection h3 with _ h4
       rw[show ys=List.replicate (xs.length+1-k) z0 from h4,List.length_replicate]
      rw[hys]at hsz0
      have hczl:cz.length=(xs.length+1-k)*E.size e:=by rw[bE.len HS.todq hlz,hys]
      have hold1:(Builtin.firstCells ti.size k (.slice (some ⟨g,0,none⟩) k (cap+1))).run P w.drew= .ok o1.toArray w.drew:=
       run_firstCells_some (P:=P) w.drew ti.size k _ k (cap+1) o1 (by rw[hlo1,hsz]) (fun j v hv=>by
        rw[dS,Nat.zero_add]
        exact ho1 j v hv)
      have hkk:k+(xs.length+1-k)=xs.length+1:=by omega
      have hap:=fun ty=>yR (P:=P) TL ty TE hTL hti hz hby (some ⟨g,0,none⟩) hold1 hsz0 (by omega) (by rw[hkk];exact hlim)
      rw[hkk,show((xs.length+1-k:Nat):Int)=(xs.length:Int)+1-(k:Int)by omega]at hap
      have hge:=uF w (xs.length+1) (cap+1) TE
      generalize grownCap w (xs.length+1) (cap+1) TE=cp at*
      have hzc:=iU HS hTE hst
      have hzsz:(dY E depth e).length=E.size e:=VT.len HS.todq (nb (σ:=σ) (st:=[Obj.arr RM.live e xs]) (w:=w) (M:=MB σ [Obj.arr RM.live e xs]) HS.todq depth e (HS.data _ _ hTE).deep)
      obtain⟨C0,hC0⟩: ∃C0,(o1++cz).toArray++Builtin.zeroCells (toV e (dY E depth e)).cells (cp-(xs.length+1))=C0:=⟨_,rfl⟩
      have hC0s:C0.size=cp*E.size e:=by
       rw[←hC0,Array.size_append,size_zeroCells,hzc,List.size_toArray,List.size_toArray,List.length_append,hlo1,hczl,hzsz,←Nat.add_mul,hkk,←Nat.add_mul]
       congr 1;omega
      have hC0o: ∀(q:Nat) (v:Value),o1[q]? =some v→C0[q]? =some v:=by
       intro q v hv
       have hql:=(List.getElem?_eq_some_iff.1 hv).1
       rw[←hC0,Array.getElem?_append_left (by simp;omega)]
       simp only[List.getElem?_toArray]
       rw[List.getElem?_append_left hql];exact hv
      rw[hC0]at hap
      have hN:(w.drew.alloc (.cells C0 TE)).heap[w.heap.size]? =some (.cells C0 TE (0,0)):=heap_alloc_new w.drew _
      have hNf: ∀q,(w.drew.alloc (.cells C0 TE)).frozen? ⟨w.heap.size,q,none⟩=false:=fun q=>mD (w:=w.drew) q
      have hNlt:w.heap.size<(w.drew.alloc (.cells C0 TE)).heap.size:=(Array.getElem?_eq_some_iff.1 hN).1
      have hold2: ∀b q,b<w.heap.size→(w.drew.alloc (.cells C0 TE)).cell? ⟨b,q,none⟩=w.cell? ⟨b,q,none⟩:=fun b q hb=>wE (by
       show(w.heap.push _)[b]? =w.heap[b]?
       simp[Array.getElem?_push,Nat.ne_of_lt hb])
      have hcz3:(xs.length+1)*E.size e≤cp*E.size e:=Nat.mul_le_mul_right _ hge
      have hk1:(k+1)*E.size e=k*E.size e+E.size e:=Nat.succ_mul _ _
      have hcpA: ∀ty dc,(Builtin.copy_ #[TL,TL] ty #[.slice (some ⟨w.heap.size,k*E.size e,none⟩) (xs.length+1-k) dc,.slice (some ⟨vb,voff,none⟩) 1 vc]).run P (w.drew.alloc (.cells C0 TE))= .ok (goInt ((1:Nat):Int)) (iL (w.drew.alloc (.cells C0 TE)) w.heap.size (.cells (qq C0 (k*E.size e) news) TE (0,0))):=fun ty dc=>
       y8 _ TL TL ty TE ti hTL hti hN news (m:=1) (by simp only[Nat.min_def];split<;>omega) (by rw[hnl,hsz,Nat.one_mul]) (fun j v hv=>by rw[dS,hold2 _ _ hvlt];exact hvcell j v hv) (by rw[hC0s,hnl];omega) hNf hone
      have hN1:(iL (w.drew.alloc (.cells C0 TE)) w.heap.size (.cells (qq C0 (k*E.size e) news) TE (0,0))).drew.heap[w.heap.size]? =some (.cells (qq C0 (k*E.size e) news) TE (0,0)):=kT hNlt
      have hcpB: ∀ty dc sc,(Builtin.copy_ #[TL,TL] ty #[.slice (some ⟨w.heap.size,(k+1)*E.size e,none⟩) (xs.length-k) dc,.slice (some ⟨g,k*E.size e,none⟩) (xs.length-k) sc]).run P (iL (w.drew.alloc (.cells C0 TE)) w.heap.size (.cells (qq C0 (k*E.size e) news) TE (0,0))).drew= .ok (goInt ((xs.length-k:Nat):Int)) (iL (iL (w.drew.alloc (.cells C0 TE)) w.heap.size (.cells (qq C0 (k*E.size e) news) TE (0,0))).drew w.heap.size (.cells (qq (qq C0 (k*E.size e) news) ((k+1)*E.size e) o2) TE (0,0))):=fun ty dc sc=>
       y8 _ TL TL ty TE ti hTL hti hN1 o2 (m:=xs.length-k) (by simp only[Nat.min_def];split<;>omega) (by rw[hlo2,hsz]) (fun j v hv=>by
        rw[dS]
        have:(iL (w.drew.alloc (.cells C0 TE)) w.heap.size (.cells (qq C0 (k*E.size e) news) TE (0,0))).drew.cell? ⟨g,k*E.size e+j,none⟩=(w.drew.alloc (.cells C0 TE)).cell? ⟨g,k*E.size e+j,none⟩:=Cx (Nat.ne_of_gt hglt)
        rw[this,hold2 _ _ hglt]
        exact ho2 j v hv) (by rw[gH,hC0s,hlo2,hk1];omega) (fun q=>by
        have:(iL (w.drew.alloc (.cells C0 TE)) w.heap.size (.cells (qq C0 (k*E.size e) news) TE (0,0))).drew.frozen? ⟨w.heap.size,q,none⟩=(w.drew.alloc (.cells C0 TE)).frozen? ⟨w.heap.size,q,none⟩:=m6 hN q
        rw[this];exact hNf q) hone2
      refine Calls.mono (R.grow g w.heap.size xs.length (cap+1) cp k vb voff vc hkn hcap (by omega) hlim hge w _ _ _ _ _ hap hcpA hcpB) (fun e' w' hb=> ?_)
      obtain⟨rfl,rfl⟩:=hb
      refine fin _ _ rfl rfl rfl (by rw[iK];show _≤(iL _ _ _).heap.size;rw[iK];simp) (fun b hb _=> ?_) (fun b hb=> .inl (by rw[j5 hb];exact Nat.le_refl _)) (fun M' hk'=> ?_)
      ·have hbn:w.heap.size≠b:=Nat.ne_of_gt hb
       rw[nF hbn]
       show(iL _ _ _).heap[b]? =_
       rw[nF hbn]
       show(w.heap.push _)[b]? =w.heap[b]?
       simp[Array.getElem?_push,Nat.ne_of_lt hb]
      ·have hh3:(iL (iL (w.drew.alloc (.cells C0 TE)) w.heap.size (.cells (qq C0 (k*E.size e) news) TE (0,0))).drew w.heap.size (.cells (qq (qq C0 (k*E.size e) news) ((k+1)*E.size e) o2) TE (0,0))).heap[w.heap.size]? =some (.cells (qq (qq C0 (k*E.size e) news) ((k+1)*E.size e) o2) TE (0,0)):=kT (Array.getElem?_eq_some_iff.1 hN1).1
       refine gz.mk' E _ _ (by rw[hil];exact hlim) (by rw[hil];exact hge) hh3 (by rw[gH,gH,hC0s];exact Nat.le_refl _) (fun q _=> ?_) (hLR M' _ hk') (fun q v hv=> ?_) hil.symm
       ·unfold World.frozen?
        rw[hh3]
        simp
       ·have hp:=Li rfl q v hv
        rw[hlo1,hnl]at hp
        have hql:q<(xs.length+1)*E.size e:=by
         have:=(List.getElem?_eq_some_iff.1 hv).1
         rw[List.length_append,List.length_append,hlo1,hlo2,hnl]at this
         omega
        rw[qF _ _ _ _ (by rw[gH,hC0s,hlo2,hk1];omega),qF _ _ _ _ (by rw[hC0s,hnl];omega),hnl,hlo2,hk1]
        by_cases c1:q<k*E.size e
        ·rw[if_pos c1]at hp
         rw[if_neg (by omega),if_neg (by omega)]
         exact hC0o q v hp
        ·rw[if_neg c1]at hp
         by_cases c2:q<k*E.size e+E.size e
         ·rw[if_pos c2]at hp
          rw[if_neg (by omega),if_pos (by omega)]
          exact hp
         ·rw[if_neg c2]at hp
          rw[if_pos (by omega),show q-(k*E.size e+E.size e)=q-k*E.size e-E.size e by omega]
          exact hp
  ·cases hr
 ·cases hr
end
end
open Go
noncomputable section
def NS (P:Program) (fn:Func) (m TL SZ:Nat):Prop:=
 ∀(a:Act) (w w':World) (g nn cap i:Nat) (R:Ending→World→Prop),a.defers=[]→a.tmps.size=fn.ntmps→a.tmps[0]? =some (.slice (some ⟨g,0,none⟩) nn cap)→a.tmps[5]? =some (.int .i64 (i:Int))→i<nn→nn≤cap→
  (∀ty cc,(Builtin.clear_ #[TL] ty #[.slice (some ⟨g,i*SZ,none⟩) (nn-i) cc]).run P w= .ok (.tuple #[]) w')→R (.returned (.slice (some ⟨g,0,none⟩) i cap)) w'→(kO m (tZ fn)).wp P (bodyPostD P fn R) a w
section
variable {P:Program} {E:Env} {w w':World} {σ σ':Sg} {st st':St E.T} {M:Nat→Prop}
def RT (E:Env) (e:Ty) (fr:Fr E.T) (st:St E.T):Tree (iT E.T×St E.T):=
 match nth fr.s 0 .undef,nth fr.s 5 .undef with
 | .own k,.val (.int .i64) i=>match aR st k with
  |some (.arr .live e' xs)=>match wS e' e with
   |some h=> .ite (N.cL i xs.length) (.ret (.ret [.own k],dk (st.map (bW E st [k])) k (.arr .live e (N.eD (zY (T:=E.T) (congrArg Ty.slice h.down) xs) 0 i)))) .fail
   |none=> .fail
  |_=> .fail
 |_,_=> .fail
def Gy (E:Env) (S:FuncId→Option (Spec E)) (L:Nat→de E) (m:Nat) (e:Ty) (fn:Func) (args:List (az E.T)) (st:St E.T):Tree (iT E.T×St E.T):=
 match fn.body with
 |some c=>(gh E S L 0 0 (BN m c) (frame E fn args) st).bind fun p=>match p.1,p.2.1.d with
  | .normal,[]=>Tree.cV (Nat.beq p.2.1.s.length fn.ntmps) (RT E e p.2.1 p.2.2)
  | .ret,_=>leave E (fun _=>none) true st.length fn p.2.1 p.2.2 none
  |_,_=> .fail
 |none=> .fail
theorem Dx (HS:Sound P E) (hmix:P.follows .mixedOrders=true) {S:List (Nat×Spec E)} (hS:G3 P E S) {L:Nat→de E} {m TL TE:Nat} {e:Ty} {f:FuncId} {fn:Func} {c:Code} (hf:P.funcs[f]? =some fn) (hb:fn.body=some c) (hs:N5 m c=true)
  (h: ∀k g,(L k).closed=some g→ ∀fr st out,(g fr st).get=some out→ ∃m fr',(qz E (stepOf E S L 0 k fn) (L k).aM (L k).iq st.length m fr st).get=some (out.1,fr',out.2.2)∧DH out.2.1 fr')
  (hTL:P.underlying TL=some (.slice TE)) (hTE:E.tk TE= .data e) (h8:e≠ .int .u8) (ht:NS P fn m TL (E.size e)):ub P E f (Gy E (jY S) L m e fn):=by
 have hL:fj (jY S) L 0 0 c:=jf c 0 fun k cb hk f' hf'=>by
  rw[Nat.zero_add]at hf'⊢
  have:=h k f' hf'
  unfold stepOf at this
  rw[hb]at this
  simp only[hk]at this
  exact this
 intro σ st w ds us r st' hst hds hr
 unfold Gy at hr
 rw[hb]at hr
 simp only at hr
 obtain⟨⟨x,fr,st1⟩,h1,h2⟩:=Tree.aA hr
 refine calls_of_wp_defers hf hb ?_
 refine Gn HS hmix (GG HS (xX hS)) m c 0 hs hL hst (yp hds) h1 (fun σ' w' a' x m' hfr hx=> ?_)
 simp only at h2 hfr m'
 split at h2
 ·rename_i hd
  cases hx
  obtain⟨hn,h2⟩:=Tree.aO h2
  have hdd:=hfr.d
  rw[hd]at hdd
  have hdef:a'.defers=[]:=by generalize a'.defers=dd at hdd;cases hdd;rfl
  have hsz:a'.tmps.size=fn.ntmps:=by
   have:=aW.length hfr.s
   rw[Array.length_toList]at this
   rw[←this];exact Nat.eq_of_beq_eq_true hn
  unfold RT at h2
  split at h2
  ·rename_i k i hk hi5
   split at h2
   ·rename_i e' xs hkx
    split at h2
    ·rename_i p _
     cases p with|up p=>
     have p':=p.symm
     subst p'
     obtain⟨hin,h2⟩:N.cL i xs.length=true∧(Tree.ret (iT.ret [az.own k],dk (st1.map (bW E st1 [k])) k (.arr .live e (N.eD xs 0 i))):Tree (iT E.T×St E.T)).get=some (r,st'):=by
      have h2':(bif N.cL i xs.length then(Tree.ret (iT.ret [az.own k],dk (st1.map (bW E st1 [k])) k (.arr .live e (N.eD xs 0 i))):Tree (iT E.T×St E.T)).get else none)=some (r,st'):=h2
      cases hc:N.cL i xs.length with
      |true=>rw[hc]at h2';exact⟨rfl,h2'⟩
      |false=>rw[hc]at h2';cases h2'
     cases h2
     unfold N.cL at hin
     simp only[Bool.and_eq_true,decide_eq_true_eq]at hin
     obtain⟨hi0,hi1⟩:=hin
     obtain⟨q,rfl⟩: ∃q:Nat,i=(q:Int):=⟨Int.toNat i,(Int.toNat_of_nonneg hi0).symm⟩
     have hqn:q<xs.length:=Int.ofNat_lt.1 hi1
     obtain⟨u0,hu0,hr0⟩:=aW.get hfr.s (t:=0) (v:= .own k) (by
      rw[cX,←hk,kt,List.getD_eq_getElem?_getD]
      cases hg:fr.s[0]? with
      |none=>rw[kt,List.getD_eq_getElem?_getD,hg]at hk;cases hk
      |some v=>rfl)
     obtain⟨u5,hu5,hr5⟩:=aW.get hfr.s (t:=5) (v:= .val (.int .i64) ((q:Nat):Int)) (by
      rw[cX,←hi5,kt,List.getD_eq_getElem?_getD]
      cases hg:fr.s[5]? with
      |none=>rw[kt,List.getD_eq_getElem?_getD,hg]at hi5;cases hi5
      |some v=>rfl)
     have hu0':=vt hr0
     have hu5':=jg hr5
     subst hu0' hu5'
     have m0:=Mv.kill m'.rep [k]
     have ho1:aR (st1.map (bW E st1 [k])) k=some (.arr .live e xs):=by rw[dA,hkx];rfl
     have hno: ∀p ob,aR (st1.map (bW E st1 [k])) p=some ob→k∉cf E ob:=by
      intro p ob hp
      rw[dA]at hp
      obtain⟨q0,_,rfl⟩:=Option.map_eq_some_iff.1 hp
      cases q0 with
      |box ro c=>intro hk;exact(qT [k] c k hk).2 (by simp)
      |arr l e zs=>simp[bW,cf]
      |dead=>simp[bW,cf]
     have hob:=m0.rep.obj k _ ho1
     generalize hst1:st1.map (bW E st1 [k])=s1 at*
     have ho1':=ho1
     generalize hσ:σ' k=s at*
     cases hob with
     |arr _ _ _ _ hown=>
     rcases hown.2 with⟨_,h0⟩|⟨g,cap,cc,el,ZH,olds,rfl,hcap,hh,hcz,hfz,hlo,hq,hord⟩
     ·rw[h0]at hqn;cases hqn
     ·obtain⟨ti,hti,hszE,hby,hz⟩:=(HS.data _ _ hTE).info
      have hfr': ∀q,w'.frozen? ⟨g,q,none⟩=false:=fun q=>hfz q (fun h=>absurd h h8)
      have hll:=bE.len HS.todq hlo
      have hglt:=(Array.getElem?_eq_some_iff.1 hh).1
      obtain⟨o1,o2,hoe,hl1,hl2⟩:=bE.cutAt HS.todq hlo q (Nat.le_of_lt hqn)
      have hlo1:o1.length=q*E.size e:=by rw[bE.len HS.todq hl1,List.length_take,Nat.min_eq_left (Nat.le_of_lt hqn)]
      have hzc:=iU HS hTE hst
      have hdeep:=(HS.data _ _ hTE).deep
      have hzv:=nb (σ:=σ') (st:=s1) (w:=w') (M:=MB σ' s1) HS.todq depth e hdeep
      have hzsz:(dY E depth e).length=E.size e:=VT.len HS.todq hzv
      obtain⟨zs,hzs⟩: ∃zs:List Value,Builtin.zeroCells (toV e (dY E depth e)).cells (xs.length-q)=zs.toArray:=⟨_,(Array.toArray_toList).symm⟩
      have hzl:zs.length=(xs.length-q)*E.size e:=by
       have:=congrArg Array.size hzs
       rw[size_zeroCells,hzc,List.size_toArray,List.size_toArray,hzsz]at this
       exact this.symm
      have hzone: ∀v∈zs,kU v=true:=by
       intro v hv
       have hmem:v∈Builtin.zeroCells (toV e (dY E depth e)).cells (xs.length-q):=by rw[hzs];simpa using hv
       rw[hzc]at hmem
       unfold Builtin.zeroCells at hmem
       have h1: ∀v∈dY E depth e,kU v=true:=fun v hv=>VT.one m0.rep hzv v hv
       simp only[Array.mem_map]at hmem
       obtain⟨j,hj,rfl⟩:=hmem
       simp only[Array.mem_range,List.size_toArray]at hj
       have hpos:0<(dY E depth e).length:=Nat.pos_of_ne_zero (fun h0=>by rw[h0]at hj;simp at hj)
       apply h1
       have hlt:j%(dY E depth e).length<(dY E depth e).length:=Nat.mod_lt _ hpos
       simp[hlt]
      have hfit:q*E.size e+zs.length≤cc.size:=by
       rw[hzl,←Nat.add_mul]
       exact Nat.le_trans (Nat.mul_le_mul_right _ (by omega)) hcz
      have hrun:=fun ty ccap=>MM (P:=P) w' TL ty TE ti _ hTL hti hz (o:=q*E.size e) (n:=xs.length-q) (cap:=ccap) hh zs hzs hfit (fun j _ _=>hfr' j) hzone (fun h0=>by omega)
      have hcut:N.eD xs 0 ((q:Nat):Int)=xs.take q:=by unfold N.eD;simp
      have hgo:c=tZ fn:=by unfold tZ;rw[hb]
      show Code.wp P (kO m c) (bodyPostD P fn _) a' w'
      rw[hgo]
      refine ht a' w' _ g xs.length (cap+1) q _ hdef hsz (by rw[←Array.getElem?_toList];exact hu0) (by rw[←Array.getElem?_toList];exact hu5) hqn hcap hrun ?_
      have mx:=GY.swap m0.rep (o:=k) (xs':=N.eD xs 0 ((q:Nat):Int)) ho1 hno (.slice (some ⟨g,0,none⟩) q (cap+1)) (w':=iL w' g (.cells (qq cc (q*E.size e) zs) el ZH)) rfl rfl rfl (by rw[iK];exact Nat.le_refl _) (fun b _ hne=>nF (fun h=>hne (by rw[hσ,←h];rfl))) (fun b hb=> .inr (by rw[hσ,j5 hb];rfl)) (fun hk'=>by
       rw[hcut]
       refine gz.mk' E _ _ (by rw[List.length_take];have:=hown.1;omega) (by rw[List.length_take];omega) (kT hglt) (by rw[gH];exact hcz) (fun j _=>by rw[m6 hh];exact hfr' j) (bE.aM hk' hl1) (fun j v hv=> ?_) (by rw[List.length_take,Nat.min_eq_left (Nat.le_of_lt hqn)])
       have hj:=(List.getElem?_eq_some_iff.1 hv).1
       rw[qF _ _ _ _ hfit,if_neg (by omega)]
       exact hq j v (by rw[hoe,List.getElem?_append_left hj];exact hv))
      refine⟨_,m'.trans (m0.f.trans mx.f),?_⟩
      have hv:=a8.data _ _ _ (VT.own (E:=E) (σ:=dN σ' k (.slice (some ⟨g,0,none⟩) q (cap+1))) (st:=dk s1 k (.arr .live e (N.eD xs 0 ((q:Nat):Int)))) (w:=iL w' g (.cells (qq cc (q*E.size e) zs) el ZH)) (M:=MB (dN σ' k (.slice (some ⟨g,0,none⟩) q (cap+1))) (dk s1 k (.arr .live e (N.eD xs 0 ((q:Nat):Int))))) k .live e (N.eD xs 0 ((q:Nat):Int)) (by rw[bF,if_pos ⟨rfl,bT ho1⟩]))
      rw[dH]at hv
      exact hv
    ·cases h2
   ·cases h2
  ·cases h2
 ·cases hx with
  |ret=>exact pF HS (fun _ _ h=>by cases h) m' hfr .none (fun v h=>by cases h) h2
 ·cases h2
end
end
open Go
noncomputable section
section
variable {P:Program} {E:Env} {w w':World} {σ σ':Sg} {st st':St E.T} {M:Nat→Prop}
structure ai1 (P:Program) (f:FuncId) (TL SZ:Nat):Prop where
 same: ∀(base:Option Addr) (n c i:Nat),i≤n→n≤c→ ∀w:World,Calls P f #[.slice base n c,.int .i64 i,.int .i64 i] w fun e w'=>e= .returned (.slice base n c)∧w'=w
 cut: ∀(g n c i j:Nat),i<j→j≤n→n≤c→n≤2147483648→ ∀(w W1 W2:World),
  (∀ty,(Builtin.append_ #[TL,TL] ty #[.slice (some ⟨g,0,none⟩) i c,.slice (some (if c=j then⟨g,0,none⟩else⟨g,j*SZ,none⟩)) (n-j) (c-j)]).run P w.drew= .ok (.slice (some ⟨g,0,none⟩) (i+(n-j)) c) W1)→
  (∀ty cc,(Builtin.clear_ #[TL] ty #[.slice (some ⟨g,(i+(n-j))*SZ,none⟩) (n-(i+(n-j))) cc]).run P W1= .ok (.tuple #[]) W2)→
  Calls P f #[.slice (some ⟨g,0,none⟩) n c,.int .i64 i,.int .i64 j] w fun e w'=>e= .returned (.slice (some ⟨g,0,none⟩) (i+(n-j)) c)∧w'=W2
end
end
end Go.Proofs.YtlejgahbbfeagaaGreatDoor.D

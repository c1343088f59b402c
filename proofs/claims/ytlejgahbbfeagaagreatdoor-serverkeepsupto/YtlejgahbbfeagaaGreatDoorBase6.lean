/- Instances: what a function comes to where its arguments, and the objects that they lead to, are of some shape. Loops by their rounds. A function's instance out of its nice function: all that ties the two but the one fact that the kernel checks. A seat's table of types, told right by two closed facts. Deferred functions, of which the first part stands further in. Short names for what links say most often. Functions of the library by contracts that are given: strings.Repeat. A body whose last part ranges over the chunks of a row of bytes. strings.Join, by its contract. Rows of one's own whose elements have so many cells: copied, cleared, written over. slices.Insert of one element into a row of one's own. A body whose last part cuts a row of one's own short, and clears what is behind (slices.DeleteFunc). slices.Delete from a row of one's own. -/
import Derived.Test.YtlejgahbbfeagaaGreatDoorBase5
import Derived.Below
import Derived.Lib.Repeat
import Derived.RangeFuncLeaves
import Derived.RangeFuncBox
import Derived.Lib.Join
import Derived.Test.YtlejgahbbfeagaaGreatDoorBase3
import Derived.Test.YtlejgahbbfeagaaGreatDoorBase2
import Derived.Lib.Overlaps
import Derived.Laws.Externs
import Derived.Lib.SliceRun
set_option linter.unusedVariables false
set_option linter.unusedSimpArgs false
namespace Go.Proofs.YtlejgahbbfeagaaGreatDoor.D
open Go
noncomputable section
inductive PS where
 |td (i j:Nat)
 |idx (e:Ty) (n:Nat)
 |at_ (e:Ty)
inductive Sh where
 |v (t:Ty)
 |str (s:List UInt8)
 |bj
 |own (k:Nat)
 |ptr (o:Nat) (p:List PS)
 |cM
 |dZ (t:Ty)
 |agg (i:Nat) (l:List Sh)
 |fn (f:FuncId) (l:List Sh)
 |ea
 |fG (t:TypeId) (s:Sh)
 |cr
 |undef
inductive fH where
 |box (ro:Bool) (s:Sh)
 |arr (l:RM) (e:Ty)
 |dead
section
variable (E:Env)
@[reducible] def PS.Fn:List PS→Type 1→Type 1
 |[],A=>A
 | .at_ _::p,A=>Nat→PS.Fn p A
 |_::p,A=>PS.Fn p A
mutual
@[reducible] def Sh.Fn:Sh→Type 1→Type 1
 | .v t,A=>I E.T t→A
 | .ptr _ p,A=>PS.Fn p A
 | .dZ t,A=>I E.T t→A
 | .agg _ l,A=>Sh.EB l A
 | .fn _ l,A=>Sh.EB l A
 | .fG _ s,A=>Sh.Fn s A
 |_,A=>A
termination_by structural x=>x
@[reducible] def Sh.EB:List Sh→Type 1→Type 1
 |[],A=>A
 |s::r,A=>Sh.Fn s (Sh.EB r A)
termination_by structural x=>x
end
@[reducible] def fH.Fn:fH→Type 1→Type 1
 | .box _ s,A=>Sh.Fn E s A
 | .arr _ e,A=>List (I E.T e)→A
 | .dead,A=>A
@[reducible] def fH.EB:List fH→Type 1→Type 1
 |[],A=>A
 |s::r,A=>fH.Fn E s (fH.EB r A)
def PS.dec {A:Type 1}:(q:List PS)→List Step→PS.Fn q A→Option A
 |[],[],k=>some k
 | .td i j::q,.td i' j'::p,k=>bif Nat.beq i i'&&Nat.beq j j' then PS.dec q p k else none
 | .idx e n::q,.idx e' n'::p,k=>bif jj e e'&&Nat.beq n n' then PS.dec q p k else none
 | .at_ e::q,.idx e' n'::p,k=>bif jj e e' then PS.dec q p (k n')else none
 |_,_,_=>none
mutual
def Sh.dec:(s:Sh)→{A:Type 1}→az E.T→Sh.Fn E s A→Option A
 | .v t,_,d,k=>match valOf E t d with
  |some x=>some (k x)
  |none=>none
 | .str s,_,.val .str x,k=>bif x==s then some k else none
 | .bj,_,.bj,k=>some k
 | .own n,_,.own m,k=>bif Nat.beq n m then some k else none
 | .ptr o p,_,.ptr o' p',k=>bif Nat.beq o o' then PS.dec p p' k else none
 | .cM,_,.cM,k=>some k
 | .dZ t,_,.dZ t' x,k=>match wx t' t with
  |some h=>some (k (zu h.down x))
  |none=>none
 | .agg i l,_,.agg i' ds,k=>bif Nat.beq i i' then Sh.x8 l ds k else none
 | .fn f l,_,.fn f' ds,k=>bif Nat.beq f f' then Sh.x8 l ds k else none
 | .ea,_,.ea,k=>some k
 | .fG t s,_,.fG t' d,k=>bif Nat.beq t t' then Sh.dec s d k else none
 | .cr,_,.cr,k=>some k
 |_,_,_,_=>none
termination_by structural x=>x
def Sh.x8:(l:List Sh)→{A:Type 1}→List (az E.T)→Sh.EB E l A→Option A
 |[],_,[],k=>some k
 |s::r,_,d::ds,k=>match Sh.dec s d k with
  |some k'=>Sh.x8 r ds k'
  |none=>none
 |_,_,_,_=>none
termination_by structural x=>x
end
def RM.er:RM→RM→Bool
 | .ba,.ba=>true
 | .fix,.fix=>true
 | .live,.live=>true
 |_,_=>false
def fH.dec:(s:fH)→{A:Type 1}→Obj E.T→fH.Fn E s A→Option A
 | .box ro s,_,.box ro' d,k=>bif ro==ro' then Sh.dec E s d k else none
 | .arr l e,_,.arr l' e' xs,k=>match wx (.slice e') (.slice e)with
  |some h=>bif RM.er l l' then some (k (zu (T:=E.T) h.down xs))else none
  |none=>none
 | .dead,_,.dead,k=>some k
 |_,_,_,_=>none
def fH.x8:(l:List fH)→{A:Type 1}→St E.T→fH.EB E l A→Option A
 |[],_,[],k=>some k
 |s::r,_,d::ds,k=>match fH.dec E s d k with
  |some k'=>fH.x8 r ds k'
  |none=>none
 |_,_,_,_=>none
def PS.Rel {A:Type 1}:(q:List PS)→PS.Fn q A→(List Step→A→Prop)→Prop
 |[],k,P=>P [] k
 | .td i j::q,k,P=>PS.Rel q k fun p a=>P (.td i j::p) a
 | .idx e n::q,k,P=>PS.Rel q k fun p a=>P (.idx e n::p) a
 | .at_ e::q,k,P=> ∀n,PS.Rel q (k n) fun p a=>P (.idx e n::p) a
mutual
def Sh.Rel:(s:Sh)→{A:Type 1}→Sh.Fn E s A→(az E.T→A→Prop)→Prop
 | .v t,_,k,P=> ∀x,P (.val t x) (k x)
 | .str s,_,k,P=>P (.val .str s) k
 | .bj,_,k,P=>P .bj k
 | .own n,_,k,P=>P (.own n) k
 | .ptr o p,_,k,P=>PS.Rel p k fun p a=>P (.ptr o p) a
 | .cM,_,k,P=>P .cM k
 | .dZ t,_,k,P=> ∀x,P (.dZ t x) (k x)
 | .agg i l,_,k,P=>Sh.oO l k fun ds a=>P (.agg i ds) a
 | .fn f l,_,k,P=>Sh.oO l k fun ds a=>P (.fn f ds) a
 | .ea,_,k,P=>P .ea k
 | .fG t s,_,k,P=>Sh.Rel s k fun d a=>P (.fG t d) a
 | .cr,_,k,P=>P .cr k
 | .undef,_,_,_=>True
termination_by structural x=>x
def Sh.oO:(l:List Sh)→{A:Type 1}→Sh.EB E l A→(List (az E.T)→A→Prop)→Prop
 |[],_,k,P=>P [] k
 |s::r,_,k,P=>Sh.Rel s k fun d k'=>Sh.oO r k' fun ds a=>P (d::ds) a
termination_by structural x=>x
end
def fH.Rel:(s:fH)→{A:Type 1}→fH.Fn E s A→(Obj E.T→A→Prop)→Prop
 | .box ro s,_,k,P=>Sh.Rel E s k fun d a=>P (.box ro d) a
 | .arr l e,_,k,P=> ∀xs,P (.arr l e xs) (k xs)
 | .dead,_,k,P=>P .dead k
def fH.oO:(l:List fH)→{A:Type 1}→fH.EB E l A→(St E.T→A→Prop)→Prop
 |[],_,k,P=>P [] k
 |s::r,_,k,P=>fH.Rel E s k fun d k'=>fH.oO r k' fun ds a=>P (d::ds) a
end
section
variable {E:Env}
theorem PS.k8 {A:Type 1}: ∀(q:List PS) (p:List Step) (k:PS.Fn q A) {a:A} {P:List Step→A→Prop},PS.dec q p k=some a→PS.Rel q k P→P p a
 |[],[],k,a,P,h,hr=>by cases h;exact hr
 | .td i j::q,.td i' j'::p,k,a,P,h,hr=>by
  simp only[PS.dec]at h
  cases hb:Nat.beq i i'&&Nat.beq j j' with
  |false=>rw[hb]at h;cases h
  |true=>
   rw[hb]at h
   rw[Bool.and_eq_true]at hb
   have h1:=Nat.eq_of_beq_eq_true hb.1
   have h2:=Nat.eq_of_beq_eq_true hb.2
   subst h1;subst h2
   exact PS.k8 q p k h hr
 | .idx e n::q,.idx e' n'::p,k,a,P,h,hr=>by
  simp only[PS.dec]at h
  cases hb:jj e e'&&Nat.beq n n' with
  |false=>rw[hb]at h;cases h
  |true=>
   rw[hb]at h
   rw[Bool.and_eq_true]at hb
   have h1:=dN hb.1
   have h2:=Nat.eq_of_beq_eq_true hb.2
   subst h1;subst h2
   exact PS.k8 q p k h hr
 | .at_ e::q,.idx e' n'::p,k,a,P,h,hr=>by
  simp only[PS.dec]at h
  cases hb:jj e e' with
  |false=>rw[hb]at h;cases h
  |true=>
   rw[hb]at h
   have h1:=dN hb
   subst h1
   exact PS.k8 q p (k n') h (hr n')
 |[],_::_,k,a,P,h,hr=>by cases h
 | .td i j::q,[],k,a,P,h,hr=>by cases h
 | .td i j::q,.idx _ _::p,k,a,P,h,hr=>by cases h
 | .idx e n::q,[],k,a,P,h,hr=>by cases h
 | .idx e n::q,.td _ _::p,k,a,P,h,hr=>by cases h
 | .at_ e::q,[],k,a,P,h,hr=>by cases h
 | .at_ e::q,.td _ _::p,k,a,P,h,hr=>by cases h
theorem PJ {t:Ty} {d:az E.T} {x:I E.T t} (h:valOf E t d=some x):d= .val t x:=by
 cases d with
 |val t' y=>
  simp only[valOf]at h
  split at h
  ·rename_i p _
   cases p with|up p=>
   cases p
   cases h
   rfl
  ·cases h
 |_=>cases h
mutual
theorem Sh.k8: ∀(s:Sh) {A:Type 1} (d:az E.T) (k:Sh.Fn E s A) {a:A} {P:az E.T→A→Prop},Sh.dec E s d k=some a→Sh.Rel E s k P→P d a
 | .v t,A,d,k,a,P,h,hr=>by
  simp only[Sh.dec]at h
  split at h
  ·rename_i x hx
   cases h
   rw[PJ hx]
   exact hr x
  ·cases h
 | .str s,A,d,k,a,P,h,hr=>by
  cases d<;>try (simp only[Sh.dec]at h;cases h)
  rename_i t x
  cases t<;>try (simp only[Sh.dec]at h;cases h)
  simp only[Sh.dec]at h
  cases hb:(x==s)with
  |false=>rw[hb]at h;cases h
  |true=>rw[hb]at h;cases h;have:=eq_of_beq hb;subst this;exact hr
 | .bj,A,d,k,a,P,h,hr=>by cases d<;>first|(cases h;exact hr)|(simp only[Sh.dec]at h;cases h)
 | .own n,A,d,k,a,P,h,hr=>by
  cases d<;>try (simp only[Sh.dec]at h;cases h)
  rename_i m
  simp only[Sh.dec]at h
  cases hb:Nat.beq n m with
  |false=>rw[hb]at h;cases h
  |true=>rw[hb]at h;cases h;have:=Nat.eq_of_beq_eq_true hb;subst this;exact hr
 | .ptr o p,A,d,k,a,P,h,hr=>by
  cases d<;>try (simp only[Sh.dec]at h;cases h)
  rename_i o' p'
  simp only[Sh.dec]at h
  cases hb:Nat.beq o o' with
  |false=>rw[hb]at h;cases h
  |true=>rw[hb]at h;have:=Nat.eq_of_beq_eq_true hb;subst this;exact PS.k8 p p' k h hr
 | .cM,A,d,k,a,P,h,hr=>by cases d<;>first|(cases h;exact hr)|(simp only[Sh.dec]at h;cases h)
 | .dZ t,A,d,k,a,P,h,hr=>by
  cases d<;>try (simp only[Sh.dec]at h;cases h)
  rename_i t' x
  simp only[Sh.dec]at h
  split at h
  ·rename_i p _
   cases p with|up p=>
   cases p
   cases h
   exact hr x
  ·cases h
 | .agg i l,A,d,k,a,P,h,hr=>by
  cases d<;>try (simp only[Sh.dec]at h;cases h)
  rename_i i' ds
  simp only[Sh.dec]at h
  cases hb:Nat.beq i i' with
  |false=>rw[hb]at h;cases h
  |true=>rw[hb]at h;have:=Nat.eq_of_beq_eq_true hb;subst this;exact Sh.rH l ds k h hr
 | .fn f l,A,d,k,a,P,h,hr=>by
  cases d<;>try (simp only[Sh.dec]at h;cases h)
  rename_i f' ds
  simp only[Sh.dec]at h
  cases hb:Nat.beq f f' with
  |false=>rw[hb]at h;cases h
  |true=>rw[hb]at h;have:=Nat.eq_of_beq_eq_true hb;subst this;exact Sh.rH l ds k h hr
 | .ea,A,d,k,a,P,h,hr=>by cases d<;>first|(cases h;exact hr)|(simp only[Sh.dec]at h;cases h)
 | .fG t s,A,d,k,a,P,h,hr=>by
  cases d<;>try (simp only[Sh.dec]at h;cases h)
  rename_i t' d
  simp only[Sh.dec]at h
  cases hb:Nat.beq t t' with
  |false=>rw[hb]at h;cases h
  |true=>rw[hb]at h;have:=Nat.eq_of_beq_eq_true hb;subst this;exact Sh.k8 s d k h hr
 | .cr,A,d,k,a,P,h,hr=>by cases d<;>first|(cases h;exact hr)|(simp only[Sh.dec]at h;cases h)
 | .undef,A,d,k,a,P,h,hr=>by cases d<;>(simp only[Sh.dec]at h;cases h)
theorem Sh.rH: ∀(l:List Sh) {A:Type 1} (ds:List (az E.T)) (k:Sh.EB E l A) {a:A} {P:List (az E.T)→A→Prop},Sh.x8 E l ds k=some a→Sh.oO E l k P→P ds a
 |[],A,[],k,a,P,h,hr=>by simp only[Sh.x8,Option.some.injEq]at h;subst h;exact hr
 |[],A,_::_,k,a,P,h,hr=>by simp only[Sh.x8]at h;cases h
 |s::r,A,[],k,a,P,h,hr=>by simp only[Sh.x8]at h;cases h
 |s::r,A,d::ds,k,a,P,h,hr=>by
  simp only[Sh.x8]at h
  split at h
  ·rename_i k' hk
   exact Sh.rH r ds k' (P:=fun ds a=>P (d::ds) a) h (Sh.k8 s d k (P:=fun d k'=>Sh.oO E r k' fun ds a=>P (d::ds) a) hk hr)
  ·cases h
end
theorem fH.k8 (s:fH) {A:Type 1} (d:Obj E.T) (k:fH.Fn E s A) {a:A} {P:Obj E.T→A→Prop} (h:fH.dec E s d k=some a) (hr:fH.Rel E s k P):P d a:=by
 cases s with
 |box ro s=>
  cases d<;>try (simp only[fH.dec]at h;cases h)
  rename_i ro' d
  simp only[fH.dec]at h
  cases hb:(ro==ro')with
  |false=>rw[hb]at h;cases h
  |true=>rw[hb]at h;have:=eq_of_beq hb;subst this;exact Sh.k8 s d k h hr
 |arr l e=>
  cases d<;>try (simp only[fH.dec]at h;cases h)
  rename_i l' e' xs
  simp only[fH.dec]at h
  split at h
  ·rename_i p _
   cases p with|up p=>
   cases p
   cases hb:RM.er l l' with
   |false=>rw[hb]at h;cases h
   |true=>
    rw[hb]at h
    cases h
    have:l=l':=by cases l<;>cases l'<;>first|rfl|cases hb
    subst this
    exact hr xs
  ·cases h
 |dead=>cases d<;>first|(cases h;exact hr)|(simp only[fH.dec]at h;cases h)
theorem fH.rH: ∀(l:List fH) {A:Type 1} (ds:St E.T) (k:fH.EB E l A) {a:A} {P:St E.T→A→Prop},fH.x8 E l ds k=some a→fH.oO E l k P→P ds a
 |[],A,[],k,a,P,h,hr=>by simp only[fH.x8,Option.some.injEq]at h;subst h;exact hr
 |[],A,_::_,k,a,P,h,hr=>by simp only[fH.x8]at h;cases h
 |s::r,A,[],k,a,P,h,hr=>by simp only[fH.x8]at h;cases h
 |s::r,A,d::ds,k,a,P,h,hr=>by
  simp only[fH.x8]at h
  split at h
  ·rename_i k' hk
   exact fH.rH r ds k' (P:=fun ds a=>P (d::ds) a) h (fH.k8 s d k (P:=fun d k'=>fH.oO E r k' fun ds a=>P (d::ds) a) hk hr)
  ·cases h
structure Gt (E:Env) (X:Type) where
 args:List Sh
 Br:List fH
 k:Sh.EB E args (fH.EB E Br (Tree X))
def Gt.dec {X:Type} (i:Gt E X) (ds:List (az E.T)) (st:St E.T):Option (Tree X):=
 match Sh.x8 E i.args ds i.k with
 |some k'=>fH.x8 E i.Br st k'
 |none=>none
def Gt.Rel {X:Type} (i:Gt E X) (P:List (az E.T)→St E.T→Tree X→Prop):Prop:=Sh.oO E i.args i.k fun ds k'=>fH.oO E i.Br k' fun st t=>P ds st t
theorem Gt.k8 {X:Type} {i:Gt E X} {ds:List (az E.T)} {st:St E.T} {t:Tree X} {P:List (az E.T)→St E.T→Tree X→Prop} (h:i.dec ds st=some t) (hr:i.Rel P):P ds st t:=by
 unfold Gt.dec at h
 split at h
 ·rename_i k' hk
  exact fH.rH i.Br st k' (P:=fun st t=>P ds st t) h (Sh.rH i.args ds i.k (P:=fun ds k'=>fH.oO E i.Br k' fun st t=>P ds st t) hk hr)
 ·cases h
def IW {X:Type}:List (Gt E X)→List (az E.T)→St E.T→Tree X
 |[],_,_=> .fail
 |i::r,ds,st=>match i.dec ds st with
  |some t=>t
  |none=>IW r ds st
variable {P:Program}
def aM (P:Program) (f:FuncId) (i:Gt E (iR E.T×St E.T)):Prop:=
 ∃B,tu P E f B∧i.Rel fun ds st t=> ∀out,t.get=some out→(B ds st).get=some out
def Ti (P:Program) (f:FuncId):List (Gt E (iR E.T×St E.T))→Prop
 |[]=>True
 |i::r=>aM P f i∧Ti P f r
theorem IV {f:FuncId}: ∀{l:List (Gt E (iR E.T×St E.T))},Ti P f l→tu P E f (IW l)
 |[],_=>fun _ _ h=>by cases h
 |i::r,hl=>fun hst hds h=>by
  simp only[IW]at h
  split at h
  ·rename_i t ht
   obtain⟨B,hB,hr⟩:=hl.1
   exact hB hst hds (Gt.k8 ht hr _ h)
  ·exact IV hl.2 hst hds h
theorem UQ (ok:dk E) {f:FuncId} {B:List (az E.T)→St E.T→Tree (iR E.T×St E.T)} (h:tu P E f B):tu P E f fun ds st=>B (rI E st st.length ds) (mV E st st.length):=by
 intro σ st w ds us q st' hst hds hg
 have m:=Mv.ye ok hst st.length
 have hd:=aW.ye ok hst st.length hds
 refine Calls.mono (h m.rep (m.Jy hd) hg) (fun e w' hb=> ?_)
 obtain⟨σ',m',hr⟩:=hb
 exact⟨σ',m.f.trans m',hr⟩
def cC (l:List (Gt E (iR E.T×St E.T))) (ds:List (az E.T)) (st:St E.T):Tree (iR E.T×St E.T):=IW l (rI E st st.length ds) (mV E st st.length)
theorem br (ok:dk E) {f:FuncId} {ps:List TK} {flat:Bool} {l:List (Gt E (iR E.T×St E.T))} (hen:Enters P f) (h:Ti P f l):nQ P E f (.full ps flat (cC l)):=
 ⟨hen,UQ ok (IV h)⟩
def bz (l:List (Gt E (iR E.T×St E.T))) (ds:List (az E.T)):Tree (iR E.T):=(IW l ds []).bind fun p=>match p.2 with
 |[]=> .ret p.1
 |_=> .fail
theorem aJ {f:FuncId} {ps:List Ty} {l:List (Gt E (iR E.T×St E.T))} (hen:Enters P f) (h:Ti P f l):nQ P E f (.pure ps (bz l)):=by
 refine⟨hen,RZ (IV h) fun ds r hg=> ?_⟩
 unfold bz at hg
 obtain⟨p,h1,h2⟩:=Tree.aB hg
 obtain⟨r',s⟩:=p
 cases s with
 |nil=>cases h2;exact h1
 |cons _ _=>cases h2
theorem Hs {V X:Type} {step:V→Option (V ⊕ X)} {stp:Fr E.T→St E.T→Tree (bR E)} {ks rs:List Nat} {ik:List (Nat×Nat)} {n:Nat} {hd:V→Fr E.T} {sv:V→St E.T} {ex:X→Tree (bR E)}
  (h: ∀v,((stp (hd v) (sv v)).bind (nx E ks ik rs n)).get=(step v).bind fun s=>N.alt s (fun v'=>some (.inl (hd v',sv v'))) fun x=>(ex x).get.map Sum.inr):
  ∀(m:Nat) (v:V) {x:X} {out:bR E},N.iter step m v=some x→(ex x).get=some out→rQ stp ks ik n (hd v) (sv v) out
 |0,v,x,out,hi,ho=>by cases hi
 |m+1,v,x,out,hi,ho=>by
  rw[N.bw]at hi
  have hv:=h v
  cases hst:step v with
  |none=>rw[hst]at hi;cases hi
  |some s=>
   rw[hst]at hi hv
   cases s with
   |inl v'=>exact rQ.next hv (Hs h m v' hi ho)
   |inr y=>
    have:y=x:=Option.some.inj hi
    subst this
    refine rQ.stop (rs:=rs) ?_
    rw[hv]
    show(ex y).get.map Sum.inr=_
    rw[ho]
    rfl
def Ua (n:Nat) (ks:List Nat) (ik:List (Nat×Nat)) (d:List (FuncId×List (az E.T))) (stp:Fr E.T→St E.T→Tree (bR E)) (i:Gt E (bR E)):Prop:=
 i.Rel fun vals st t=> ∀out,t.get=some out→rQ stp ks ik st.length (qp E n d ks vals) st out
def NR (n:Nat) (ks:List Nat) (ik:List (Nat×Nat)) (d:List (FuncId×List (az E.T))) (stp:Fr E.T→St E.T→Tree (bR E)):List (Gt E (bR E))→Prop
 |[]=>True
 |i::r=>Ua n ks ik d stp i∧NR n ks ik d stp r
theorem Kp {n:Nat} {ks:List Nat} {ik:List (Nat×Nat)} {d:List (FuncId×List (az E.T))} {stp:Fr E.T→St E.T→Tree (bR E)}: ∀{l:List (Gt E (bR E))},NR n ks ik d stp l→ ∀vals st out,(IW l vals st).get=some out→rQ stp ks ik st.length (qp E n d ks vals) st out
 |[],_,vals,st,out,h=>by cases h
 |i::r,hl,vals,st,out,h=>by
  simp only[IW]at h
  split at h
  ·rename_i t ht
   exact Gt.k8 ht hl.1 out h
  ·exact Kp hl.2 vals st out h
theorem Y5 {n:Nat} {ks:List Nat} {ik:List (Nat×Nat)} {d:List (FuncId×List (az E.T))} {stp:Fr E.T→St E.T→Tree (bR E)} {l:List (Gt E (bR E))} (h:NR n ks ik d stp l) (fr:Fr E.T) (st:St E.T) (out:bR E)
  (hc:(B1 E n ks ik d (IW l) fr st).get=some out): ∃m fr',(qf E stp ks ik st.length m fr st).get=some (out.1,fr',out.2.2)∧De out.2.1 fr':=
 Pe (Kp h) fr st out hc
def MN (st:St E.T):iR E.T→iR E.T
 | .ret vs=> .ret (rI E st st.length vs)
 | .panic v=> .panic v
def Ei:iR E.T→List Nat
 | .ret vs=>bg vs
 | .panic v=>refs v
def ry (R:List Nat):Nat→St E.T→St E.T
 |_,[]=>[]
 |i,o::r=>(bif cX R i then o else .dead) ::ry R (i+1) r
def EL (B:List (az E.T)→St E.T→Tree (iR E.T×St E.T)) (ds:List (az E.T)) (st:St E.T):Tree (iR E.T×St E.T):=
 (B ds st).bind fun p=>
  let s1:=mV E p.2 p.2.length
  let r1:=MN p.2 p.1
  let R:=reach E s1 1000 (List.range st.length++Ei r1) []
  Tree.cR (R.all (fun k=>(jq E s1 k).all (cX R))&&((List.range st.length).all (cX R)&&(Ei r1).all (cX R))) (.ret (r1,ry R 0 s1))
theorem Hr (R:List Nat): ∀(i:Nat) (l:St E.T),(ry R i l).length=l.length
 |_,[]=>rfl
 |i,o::r=>by simp[ry,Hr R (i+1) r]
theorem xL (R:List Nat): ∀(i:Nat) (l:St E.T) (j:Nat),aR (ry R i l) j=if i+j∈R then aR l j else(aR l j).map fun _=> .dead
 |i,[],j=>by simp[ry,dF,cP,cQ]
 |i,o::r,0=>by
  simp only[ry,dF,cP,cQ,Nat.add_zero]
  by_cases h:i∈R
  ·rw[if_pos h,(ek R i).2 h];rfl
  ·have:cX R i=false:=by
    cases hb:cX R i with
    |false=>rfl
    |true=>exact absurd ((ek R i).1 hb) h
   rw[if_neg h,this];rfl
 |i,o::r,j+1=>by
  simp only[ry,dF,cP,cQ]
  rw[xL R (i+1) r j,show i+1+j=i+(j+1)by omega]
section
variable {σ σ':Sg} {st st':St E.T} {w w':World} {R:List Nat}
theorem Ft {b:Nat} (h:MB σ (ry R 0 st) b):MB σ st b:=by
 rcases h with h|⟨o,ob,ho,hm,hb⟩
 ·exact .inl h
 ·rw[xL,Nat.zero_add]at ho
  split at ho
  ·exact .inr ⟨o,ob,ho,hm,hb⟩
  ·obtain⟨q,_,rfl⟩:=Option.map_eq_some_iff.1 ho
   cases hm
theorem Ai {k:Nat} (hk:k∈R):ib σ σ st (ry R 0 st) k:=
 ⟨rfl,fun l e xs h=>⟨l,xs,by rw[xL,Nat.zero_add,if_pos hk];exact h⟩,fun h=>by rw[Hr];exact h⟩
theorem OO (hst:bm E σ st w) (hc: ∀k∈R,∀ob,aR st k=some ob→ ∀j∈cd E ob,j∈R):bm E σ (ry R 0 st) w:=by
 have hat: ∀{o ob},aR (ry R 0 st) o=some ob→dz ob=false→o∈R∧aR st o=some ob:=by
  intro o ob ho hd
  rw[xL,Nat.zero_add]at ho
  split at ho
  ·rename_i h;exact⟨h,ho⟩
  ·obtain⟨q,_,rfl⟩:=Option.map_eq_some_iff.1 ho
   cases hd
 refine⟨fun o ob ho=> ?_,fun o o' ob ob' b hne ho ho' hm hd hb1 hb2=> ?_,hst.qh,fun o ob b ho hd hb=>hst.out o ob b (hat ho hd).2 hd hb⟩
 ·cases hd:dz ob with
  |true=>cases ob<;>first|exact .dead _|cases hd
  |false=>
   obtain⟨h1,h2⟩:=hat ho hd
   exact cW.aH (Kept.weaken fun b hb=>Ft hb) (fun _ _=>rfl) (fun k hk=>Ai (hc o h1 ob h2 k hk)) (hst.obj o ob h2)
 ·exact hst.apart o o' ob ob' b hne (hat ho (by cases ob<;>first|rfl|cases hm)).2 (hat ho' hd).2 hm hd hb1 hb2
theorem Ee (ok:dk E) {f:FuncId} {B:List (az E.T)→St E.T→Tree (iR E.T×St E.T)} (h:tu P E f B):tu P E f (EL B):=by
 intro σ st w ds us q st' hst hds hg
 unfold EL at hg
 obtain⟨p,hp,hg⟩:=Tree.aB hg
 obtain⟨r,s⟩:=p
 simp only at hg
 generalize hR:reach E (mV E s s.length) 1000 (List.range st.length++Ei (MN s r)) []=R at hg
 obtain⟨hb,hg⟩:=Tree.aO hg
 cases hg
 simp only[Bool.and_eq_true,List.all_eq_true]at hb
 obtain⟨h1,h2,h3⟩:=hb
 refine Calls.mono (h hst hds hp) (fun e w' hb=> ?_)
 obtain⟨σ',m,hr⟩:=hb
 have md:=Mv.ye ok m.rep s.length
 have m1:=m.trans md.f
 have hcl: ∀k∈R,∀ob,aR (mV E s s.length) k=some ob→ ∀j∈cd E ob,j∈R:=by
  intro k hk ob ho j hj
  have:=h1 k hk
  simp only[jq,ho]at this
  exact(ek R j).1 (this j hj)
 have hrep:=OO m1.rep hcl
 have hkp:Kept (MB σ' (mV E s s.length)) (MB σ' (ry R 0 (mV E s s.length))) w' w':=Kept.weaken fun b hb=>Ft hb
 refine⟨σ',⟨hrep,⟨m1.aH.os,m1.aH.tape,m1.aH.output,m1.aH.size,m1.aH.block,fun b hb h=>m1.aH.may b hb (Ft h)⟩,⟨m1.stay.same,fun o ob ho=> ?_⟩,m1.qh⟩,?_⟩
 ·obtain⟨ob',h4,h5,h6⟩:=m1.stay.kind o ob ho
  have:o∈R:=(ek R o).1 (h2 o (List.mem_range.2 (bM ho)))
  exact⟨ob',by rw[xL,Nat.zero_add,if_pos this];exact h4,h5,h6⟩
 ·have h3': ∀k∈Ei (MN s r),k∈R:=fun k hk=>(ek R k).1 (h3 k hk)
  cases r with
  |panic v=>
   cases e with
   |returned _=>exact hr.elim
   |outgrown=>exact hr.elim
   |panicked ch=>
    obtain⟨u,hu,hv⟩:=hr
    exact⟨u,hu,aZ.aH hkp (md.Yi hv) (fun k hk=>Ai (h3' k hk))⟩
  |ret vs=>
   cases e with
   |panicked ch=>exact hr.elim
   |outgrown=>exact hr.elim
   |returned v=>
    have key: ∀us:List Value,aW E σ' s w' (MB σ' s) vs us→aW E σ' (ry R 0 (mV E s s.length)) w' (MB σ' (ry R 0 (mV E s s.length))) (rI E s s.length vs) us:=
     fun us hv=>aW.aH hkp (md.Jy (aW.ye ok m.rep s.length hv)) (fun k hk=>Ai (h3' k hk))
    show aZ E σ' _ w' _ (Cr E (rI E s s.length vs)) v
    have hr':aZ E σ' s w' (MB σ' s) (Cr E vs) v:=hr
    match vs,hr',key with
    |[],hr',key=>
     cases hr' with
     |data t d cs hv=>cases hv
     |jk vs us h=>exact .jk _ us (key us h)
    |[x],hr',key=>
     have:=key [v] (.cons x [] v [] hr' .nil)
     cases this with
     |cons _ _ _ _ h _=>exact h
    |x::y::r,hr',key=>
     cases hr' with
     |data t d cs hv=>cases hv
     |jk vs us h=>exact .jk _ us (key us h)
end
end
end
open Go
noncomputable section
inductive NK (R:Type):Type 1 where
 |opt {X:Type} (t:Tree X) (k:X→Tree R)
 |wH {X:Type} (t:TT X) (k:X→Tree R)
 |bad
def NK.spec {R:Type}:NK R→Tree R
 | .opt t k=> .opt t.get k
 | .wH t k=>k t.val
 | .bad=> .fail
def Tree.nf {R:Type}:Tree R→Tree R
 | .ite c t e=>bif c then t.nf else e.nf
 | .opt o g=>match o with
  |some x=>(g x).nf
  |none=> .fail
 | .ret a=> .ret a
 | .fail=> .fail
theorem Tree.Cy {R:Type}: ∀t:Tree R,t.nf.get=t.get
 | .ite c t e=>by
  show(bif c then t.nf else e.nf).get=bif c then t.get else e.get
  cases c
  ·exact Tree.Cy e
  ·exact Tree.Cy t
 | .opt none g=>rfl
 | .opt (some x) g=>Tree.Cy (g x)
 | .ret a=>rfl
 | .fail=>rfl
def Tree.So {R:Type}:Tree R→Option R
 | .ite c t e=>bif c then t.So else e.So
 | .opt o g=>o.bind fun x=>(g x).So
 | .ret a=>some a
 | .fail=>none
theorem Tree.CM {R:Type}: ∀t:Tree R,t.So=t.get
 | .ite c t e=>by
  show(bif c then t.So else e.So)=bif c then t.get else e.get
  rw[Tree.CM t,Tree.CM e]
 | .opt o g=>by
  show(o.bind fun x=>(g x).So)=o.bind fun x=>(g x).get
  congr 1
  funext x
  exact Tree.CM (g x)
 | .ret a=>rfl
 | .fail=>rfl
def NK.full {R:Type}:NK R→Tree R
 | .opt t k=>t.bind fun x=>(k x).nf
 | .wH t k=>t.tree.bind fun x=>(k x).nf
 | .bad=> .fail
theorem NK.get_eq {R:Type} (p:NK R):p.full.get=p.spec.get:=by
 cases p with
 |opt t k=>exact(Tree.get_bind t fun x=>(k x).nf).trans (congrArg (Option.bind t.get) (funext fun x=>Tree.Cy (k x)))
 |wH t k=>exact(TT.get_bind (fun x=>(k x).nf) t).trans (Tree.Cy _)
 |bad=>rfl
section
variable {E:Env}
def PS.map {A B:Type 1} (f:A→B):(q:List PS)→PS.Fn q A→PS.Fn q B
 |[],k=>f k
 | .td _ _::q,k=>PS.map f q k
 | .idx _ _::q,k=>PS.map f q k
 | .at_ _::q,k=>fun n=>PS.map f q (k n)
mutual
def Sh.map:(s:Sh)→{A B:Type 1}→(A→B)→Sh.Fn E s A→Sh.Fn E s B
 | .v _,_,_,f,k=>fun x=>f (k x)
 | .str _,_,_,f,k=>f k
 | .bj,_,_,f,k=>f k
 | .own _,_,_,f,k=>f k
 | .ptr _ p,_,_,f,k=>PS.map f p k
 | .cM,_,_,f,k=>f k
 | .dZ _,_,_,f,k=>fun x=>f (k x)
 | .agg _ l,_,_,f,k=>Sh.Bw l f k
 | .fn _ l,_,_,f,k=>Sh.Bw l f k
 | .ea,_,_,f,k=>f k
 | .fG _ s,_,_,f,k=>Sh.map s f k
 | .cr,_,_,f,k=>f k
 | .undef,_,_,f,k=>f k
termination_by structural x=>x
def Sh.Bw:(l:List Sh)→{A B:Type 1}→(A→B)→Sh.EB E l A→Sh.EB E l B
 |[],_,_,f,k=>f k
 |s::r,_,_,f,k=>Sh.map s (Sh.Bw r f) k
termination_by structural x=>x
end
def fH.map:(s:fH)→{A B:Type 1}→(A→B)→fH.Fn E s A→fH.Fn E s B
 | .box _ s,_,_,f,k=>Sh.map s f k
 | .arr _ _,_,_,f,k=>fun xs=>f (k xs)
 | .dead,_,_,f,k=>f k
def fH.Bw:(l:List fH)→{A B:Type 1}→(A→B)→fH.EB E l A→fH.EB E l B
 |[],_,_,f,k=>f k
 |s::r,_,_,f,k=>fH.map s (fH.Bw r f) k
theorem PS.oS {A B:Type 1} (f:A→B): ∀(q:List PS) (k:PS.Fn q A) {P:List Step→B→Prop},PS.Rel q k (fun p a=>P p (f a))→PS.Rel q (PS.map f q k) P
 |[],k,P,h=>h
 | .td i j::q,k,P,h=>PS.oS f q k (P:=fun p a=>P (.td i j::p) a) h
 | .idx e n::q,k,P,h=>PS.oS f q k (P:=fun p a=>P (.idx e n::p) a) h
 | .at_ e::q,k,P,h=>fun n=>PS.oS f q (k n) (P:=fun p a=>P (.idx e n::p) a) (h n)
mutual
theorem Sh.oS: ∀(s:Sh) {A B:Type 1} (f:A→B) (k:Sh.Fn E s A) {P:az E.T→B→Prop},Sh.Rel E s k (fun d a=>P d (f a))→Sh.Rel E s (Sh.map s f k) P
 | .v t,_,_,f,k,P,h=>h
 | .str s,_,_,f,k,P,h=>h
 | .bj,_,_,f,k,P,h=>h
 | .own n,_,_,f,k,P,h=>h
 | .ptr o p,_,_,f,k,P,h=>PS.oS f p k (P:=fun p a=>P (.ptr o p) a) h
 | .cM,_,_,f,k,P,h=>h
 | .dZ t,_,_,f,k,P,h=>h
 | .agg i l,_,_,f,k,P,h=>Sh.q9 l f k (P:=fun ds a=>P (.agg i ds) a) h
 | .fn g l,_,_,f,k,P,h=>Sh.q9 l f k (P:=fun ds a=>P (.fn g ds) a) h
 | .ea,_,_,f,k,P,h=>h
 | .fG t s,_,_,f,k,P,h=>Sh.oS s f k (P:=fun d a=>P (.fG t d) a) h
 | .cr,_,_,f,k,P,h=>h
 | .undef,_,_,f,k,P,h=>trivial
theorem Sh.q9: ∀(l:List Sh) {A B:Type 1} (f:A→B) (k:Sh.EB E l A) {P:List (az E.T)→B→Prop},Sh.oO E l k (fun ds a=>P ds (f a))→Sh.oO E l (Sh.Bw l f k) P
 |[],_,_,f,k,P,h=>h
 |s::r,_,_,f,k,P,h=>by
  unfold Sh.oO at h⊢
  unfold Sh.Bw
  refine Sh.oS s (Sh.Bw r f) k (P:=fun d k'=>Sh.oO E r k' fun ds a=>P (d::ds) a) ?_
  exact Sh.lW s k (fun d k' h=>Sh.q9 r f k' (P:=fun ds a=>P (d::ds) a) h) h
theorem Sh.lW: ∀(s:Sh) {A:Type 1} (k:Sh.Fn E s A) {P Q:az E.T→A→Prop},(∀d a,P d a→Q d a)→Sh.Rel E s k P→Sh.Rel E s k Q
 | .v t,_,k,P,Q,g,h=>fun x=>g _ _ (h x)
 | .str s,_,k,P,Q,g,h=>g _ _ h
 | .bj,_,k,P,Q,g,h=>g _ _ h
 | .own n,_,k,P,Q,g,h=>g _ _ h
 | .ptr o p,_,k,P,Q,g,h=>Ej p k (fun p a=>g (.ptr o p) a) h
 | .cM,_,k,P,Q,g,h=>g _ _ h
 | .dZ t,_,k,P,Q,g,h=>fun x=>g _ _ (h x)
 | .agg i l,_,k,P,Q,g,h=>Sh.mR l k (fun ds a=>g (.agg i ds) a) h
 | .fn f l,_,k,P,Q,g,h=>Sh.mR l k (fun ds a=>g (.fn f ds) a) h
 | .ea,_,k,P,Q,g,h=>g _ _ h
 | .fG t s,_,k,P,Q,g,h=>Sh.lW s k (fun d a=>g (.fG t d) a) h
 | .cr,_,k,P,Q,g,h=>g _ _ h
 | .undef,_,k,P,Q,g,h=>trivial
theorem Sh.mR: ∀(l:List Sh) {A:Type 1} (k:Sh.EB E l A) {P Q:List (az E.T)→A→Prop},(∀ds a,P ds a→Q ds a)→Sh.oO E l k P→Sh.oO E l k Q
 |[],_,k,P,Q,g,h=>g _ _ h
 |s::r,_,k,P,Q,g,h=>by
  unfold Sh.oO at h⊢
  exact Sh.lW s k (fun d k' h=>Sh.mR r k' (fun ds a=>g (d::ds) a) h) h
theorem Ej {A:Type 1}: ∀(q:List PS) (k:PS.Fn q A) {P Q:List Step→A→Prop},(∀p a,P p a→Q p a)→PS.Rel q k P→PS.Rel q k Q
 |[],k,P,Q,g,h=>g _ _ h
 | .td i j::q,k,P,Q,g,h=>Ej q k (fun p a=>g (.td i j::p) a) h
 | .idx e n::q,k,P,Q,g,h=>Ej q k (fun p a=>g (.idx e n::p) a) h
 | .at_ e::q,k,P,Q,g,h=>fun n=>Ej q (k n) (fun p a=>g (.idx e n::p) a) (h n)
end
theorem fH.lW (s:fH) {A:Type 1} (k:fH.Fn E s A) {P Q:Obj E.T→A→Prop} (g: ∀d a,P d a→Q d a) (h:fH.Rel E s k P):fH.Rel E s k Q:=by
 cases s with
 |box ro s=>exact Sh.lW s k (fun d a=>g (.box ro d) a) h
 |arr l e=>exact fun xs=>g _ _ (h xs)
 |dead=>exact g _ _ h
theorem fH.oS (s:fH) {A B:Type 1} (f:A→B) (k:fH.Fn E s A) {P:Obj E.T→B→Prop} (h:fH.Rel E s k (fun d a=>P d (f a))):fH.Rel E s (fH.map s f k) P:=by
 cases s with
 |box ro s=>exact Sh.oS s f k (P:=fun d a=>P (.box ro d) a) h
 |arr l e=>exact h
 |dead=>exact h
theorem fH.mR: ∀(l:List fH) {A:Type 1} (k:fH.EB E l A) {P Q:St E.T→A→Prop},(∀d a,P d a→Q d a)→fH.oO E l k P→fH.oO E l k Q
 |[],_,k,P,Q,g,h=>g _ _ h
 |s::r,_,k,P,Q,g,h=>fH.lW s k (fun d k' h=>fH.mR r k' (fun ds a=>g (d::ds) a) h) h
theorem fH.q9: ∀(l:List fH) {A B:Type 1} (f:A→B) (k:fH.EB E l A) {P:St E.T→B→Prop},fH.oO E l k (fun d a=>P d (f a))→fH.oO E l (fH.Bw l f k) P
 |[],_,_,f,k,P,h=>h
 |s::r,_,_,f,k,P,h=>fH.oS s (fH.Bw r f) k (P:=fun d k'=>fH.oO E r k' fun ds a=>P (d::ds) a) (fH.lW s k (fun d k' h=>fH.q9 r f k' (P:=fun ds a=>P (d::ds) a) h) h)
structure rR (E:Env) (A:Type 1) where
 args:List Sh
 Br:List fH
 k:Sh.EB E args (fH.EB E Br A)
def rR.Rel {A:Type 1} (i:rR E A) (P:List (az E.T)→St E.T→A→Prop):Prop:=Sh.oO E i.args i.k fun ds k'=>fH.oO E i.Br k' fun st a=>P ds st a
def rR.ins {A:Type 1} {X:Type} (f:A→Tree X) (i:rR E A):Gt E X:=⟨i.args,i.Br,Sh.Bw i.args (fH.Bw i.Br f) i.k⟩
theorem rR.lW {A:Type 1} {i:rR E A} {P Q:List (az E.T)→St E.T→A→Prop} (g: ∀ds st a,P ds st a→Q ds st a) (h:i.Rel P):i.Rel Q:=
 Sh.mR i.args i.k (fun ds k' h=>fH.mR i.Br k' (fun st a=>g ds st a) h) h
theorem rR.Nu {A:Type 1} {X:Type} {f:A→Tree X} {i:rR E A} {P:List (az E.T)→St E.T→Tree X→Prop} (h:i.Rel fun ds st a=>P ds st (f a)):(i.ins f).Rel P:=
 Sh.q9 i.args (fH.Bw i.Br f) i.k (P:=fun ds k'=>fH.oO E i.Br k' fun st t=>P ds st t) (Sh.mR i.args i.k (fun ds k' h=>fH.q9 i.Br f k' (P:=fun st t=>P ds st t) h) h)
structure Ed (E:Env) where
 {V:Type}
 {X:Type}
 v:V
 step:V→Tree (V ⊕ X)
 hd:V→List (az E.T)×St E.T
 ex:X→Tree (NP E.T×List (az E.T)×St E.T)
variable (E) in
def HI (n:Nat) (d:List (FuncId×List (az E.T))) (rs:List Nat) (o:NP E.T×List (az E.T)×St E.T):Tree (bR E):= .ret (o.1,qp E n d rs o.2.1,o.2.2)
noncomputable def Ed.tree (n:Nat) (d:List (FuncId×List (az E.T))) (rs:List Nat) (p:Ed E):Tree (bR E):= .opt (N.iter (fun v=>(p.step v).get) N.fuel p.v) fun x=>(p.ex x).bind (HI E n d rs)
def Ed.out (n:Nat) (d:List (FuncId×List (az E.T))) (ks rs:List Nat) (p:Ed E):p.V ⊕ p.X→Tree (Sum (Fr E.T×St E.T) (bR E))
 | .inl v=> .ret (.inl (qp E n d ks (p.hd v).1,(p.hd v).2))
 | .inr x=>(p.ex x).nf.bind fun o=>(HI E n d rs o).bind fun q=> .ret (.inr q)
structure Jr (E:Env) where
 ks:List Nat
 rs:List Nat:=[]
 ik:List (Nat×Nat):=[]
 zR:List Pw:=[]
 d:List (FuncId×List (az E.T)):=[]
 ins:Option (List (rR E (Ed E))):=none
noncomputable def Jr.info (n:Nat) (l:Jr E):LpI E:={ks:=l.ks,ik:=l.ik,zR:=l.zR,d:=l.d,g:=(match l.ins with|some is=>some (IW (is.map (rR.ins (Ed.tree n l.d l.rs))))|none=>none)}
def T9 (n:Nat) (stp:Fr E.T→St E.T→Tree (bR E)) (l:Jr E) (i:rR E (Ed E)):Prop:=
 i.Rel fun ds st p=>p.hd p.v=(ds,st)∧ ∀v,((stp (qp E n l.d l.ks (p.hd v).1) (p.hd v).2).bind (nx E l.ks l.ik l.rs st.length)).get=((p.step v).bind (p.out n l.d l.ks l.rs)).So
theorem Qy {n:Nat} {stp:Fr E.T→St E.T→Tree (bR E)} {l:Jr E} {i:rR E (Ed E)} (h:T9 n stp l i):Ua n l.ks l.ik l.d stp (i.ins (Ed.tree n l.d l.rs)):=by
 refine rR.Nu (rR.lW (fun ds st p hp=> ?_) h)
 obtain⟨h1,h2⟩:=hp
 intro out ho
 have e1:(p.hd p.v).1=ds:=by rw[h1]
 have e2:(p.hd p.v).2=st:=by rw[h1]
 obtain⟨x,hx,ho'⟩:=Option.bind_eq_some_iff.1 (show(N.iter (fun v=>(p.step v).get) N.fuel p.v).bind (fun x=>((p.ex x).bind (HI E n l.d l.rs)).get)=some out from ho)
 have:=Hs (stp:=stp) (ks:=l.ks) (rs:=l.rs) (ik:=l.ik) (n:=st.length) (step:=fun v=>(p.step v).get) (hd:=fun v=>qp E n l.d l.ks (p.hd v).1) (sv:=fun v=>(p.hd v).2) (ex:=fun x=>(p.ex x).bind (HI E n l.d l.rs)) (fun v=>by
  rw[h2 v,Tree.CM,Tree.get_bind]
  congr 1
  funext s
  cases s with
  |inl v'=>rfl
  |inr y=>
   refine Eq.trans (b:=((p.ex y).bind (HI E n l.d l.rs)).get.map Sum.inr) ?_ rfl
   show((p.ex y).nf.bind fun o=>(HI E n l.d l.rs o).bind fun q=>(Tree.ret (Sum.inr q):Tree (Sum (Fr E.T×St E.T) (bR E)))).get=_
   rw[Tree.get_bind,Tree.get_bind,Tree.Cy]
   cases (p.ex y).get with
   |none=>rfl
   |some o=>rfl) N.fuel p.v hx ho'
 rw[e1,e2]at this
 exact this
def RC (n:Nat) (stp:Fr E.T→St E.T→Tree (bR E)) (l:Jr E):List (rR E (Ed E))→Prop
 |[]=>True
 |i::r=>T9 n stp l i∧RC n stp l r
theorem Lm {n:Nat} {stp:Fr E.T→St E.T→Tree (bR E)} {l:Jr E}: ∀{is:List (rR E (Ed E))},RC n stp l is→NR n l.ks l.ik l.d stp (is.map (rR.ins (Ed.tree n l.d l.rs)))
 |[],_=>trivial
 |i::r,h=>⟨Qy h.1,Lm h.2⟩
def LpF (n:Nat) (stp:Fr E.T→St E.T→Tree (bR E)) (l:Jr E):Prop:=
 match l.ins with
 |some is=>RC n stp l is
 |none=>True
def Vw (n:Nat) (stp:Nat→Fr E.T→St E.T→Tree (bR E)):Nat→List (Jr E)→Prop
 |_,[]=>True
 |k,l::r=>LpF n (stp k) l∧Vw n stp (k+1) r
theorem Fi {n:Nat}: ∀(ls:List (Jr E)) (k:Nat),Md (ls.map (Jr.info n)) k=(ls[k]?).map (Jr.info n)
 |[],_=>by simp[Md]
 |l::r,0=>rfl
 |l::r,k+1=>by
  have:=Fi (n:=n) r k
  simpa [Md]using this
theorem Nl {n:Nat} {stp:Nat→Fr E.T→St E.T→Tree (bR E)}: ∀{ls:List (Jr E)} {j:Nat},Vw n stp j ls→ ∀{k:Nat} {l:Jr E},ls[k]? =some l→LpF n (stp (j+k)) l
 |[],j,h,k,l,hk=>by simp at hk
 |a::r,j,h,0,l,hk=>by cases hk;exact h.1
 |a::r,j,h,k+1,l,hk=>by
  have:=Nl h.2 (k:=k) (l:=l) (by simpa using hk)
  rwa [show j+1+k=j+(k+1)by omega]at this
structure cg (E:Env) where
 S:List (Nat×Spec E):=[]
 D:List (Nat×l8 E):=[]
 ls:List (Jr E):=[]
 rs:List (Nat×List Pw):=[]
 aH:Bool:=false
 i:rR E (NK (iR E.T×St E.T))
noncomputable def cg.L (x:cg E) (fn:Func):Nat→cY E:=Ga E fn.ntmps (x.ls.map (Jr.info fn.ntmps)) x.rs
noncomputable def cg.B (x:cg E) (fn:Func):List (az E.T)→St E.T→Tree (iR E.T×St E.T):=NC E (jX x.S) (DB x.D) (x.L fn) 0 x.aH fn
def cg.ins (x:cg E):Gt E (iR E.T×St E.T):=x.i.ins NK.spec
def cg.HV (x:cg E) (fn:Func):Prop:=Vw fn.ntmps (fun k=>stepOf E x.S (x.L fn) 0 k fn) 0 x.ls
def HW (B:List (az E.T)→St E.T→Tree (iR E.T×St E.T)) (i:rR E (NK (iR E.T×St E.T))):Prop:=i.Rel fun ds st p=>(B ds st).get=p.full.So
variable {P:Program}
theorem vw {f:FuncId} {B:List (az E.T)→St E.T→Tree (iR E.T×St E.T)} {i:rR E (NK (iR E.T×St E.T))} (hB:tu P E f B) (h:HW B i):aM P f (i.ins NK.spec):=
 ⟨B,hB,rR.Nu (rR.lW (fun ds st p hp out ho=>by rw[hp,Tree.CM,NK.get_eq];exact ho) h)⟩
theorem tT {x:cg E} {fn:Func} (hL:x.HV fn): ∀k g,(x.L fn k).closed=some g→ ∀fr st out,(g fr st).get=some out→ ∃m fr',(qf E (stepOf E x.S (x.L fn) 0 k fn) (x.L fn k).aH (x.L fn k).ik st.length m fr st).get=some (out.1,fr',out.2.2)∧De out.2.1 fr':=by
 intro k g hg fr st out ho
 have hlk:x.L fn k=Ga E fn.ntmps (x.ls.map (Jr.info fn.ntmps)) x.rs k:=rfl
 cases hl:x.ls[k]? with
 |none=>
  have:Md (x.ls.map (Jr.info fn.ntmps)) k=none:=by rw[Fi,hl];rfl
  rw[hlk]at hg
  unfold Ga at hg
  rw[this]at hg
  cases hg
 |some l=>
  have e:Md (x.ls.map (Jr.info fn.ntmps)) k=some (l.info fn.ntmps):=by rw[Fi,hl];rfl
  have hF:=Nl hL hl
  rw[Nat.zero_add]at hF
  have hk:(x.L fn k).aH=l.ks∧(x.L fn k).ik=l.ik:=by
   rw[hlk];unfold Ga;rw[e];exact⟨rfl,rfl⟩
  rw[hk.1,hk.2]
  rw[hlk]at hg
  unfold Ga at hg
  rw[e]at hg
  unfold Jr.info at hg
  unfold LpF at hF
  cases hi:l.ins with
  |none=>simp only[hi]at hg;cases hg
  |some is=>
   simp only[hi]at hg hF
   cases hg
   exact Y5 (Lm hF) fr st out ho
theorem cg.Jd (HS:Sound P E) (hmix:P.follows .mixedOrders=true) {x:cg E} {f:FuncId} {fn:Func} {c:Code} (hf:P.funcs[f]? =some fn) (hb:fn.body=some c) (hS:Gx P E x.S) (hD:Lt P E x.D) (hL:x.HV fn):tu P E f (x.B fn):=
 Rj HS hmix hS hD hf hb (tT hL)
theorem cg.ok (HS:Sound P E) (hmix:P.follows .mixedOrders=true) {x:cg E} {f:FuncId} {fn:Func} {c:Code} (hf:P.funcs[f]? =some fn) (hb:fn.body=some c) (hS:Gx P E x.S) (hD:Lt P E x.D) (hL:x.HV fn) (h:HW (x.B fn) x.i):aM P f x.ins:=
 vw (cg.Jd HS hmix hf hb hS hD hL) h
theorem cg.okF (HS:Sound P E) (hmix:P.follows .mixedOrders=true) {x:cg E} {f:FuncId} {fn:Func} {c:Code} (hf:P.funcs[f]? =some fn) (hb:fn.body=some c) (hS:Gx P E x.S) (hD:Lt P E x.D) (hL:x.HV fn) (h:HW (EL (x.B fn)) x.i):aM P f x.ins:=
 vw (Ee HS.todk (cg.Jd HS hmix hf hb hS hD hL)) h
def Tup (E:Env):List Ty→Type
 |[]=>Unit
 |[t]=>I E.T t
 |t::r=>I E.T t×Tup E r
def PE:(ts:List Ty)→Tup E ts→List (az E.T)
 |[],_=>[]
 |[t],x=>[.val t x]
 |t::t'::r,x=> .val t x.1::PE (t'::r) x.2
def cE (ps rs:List Ty) (g:Sh.EB E (ps.map .v) (Tree (Tup E rs))):rR E (NK (iR E.T×St E.T)):=⟨ps.map .v,[],Sh.Bw (ps.map .v) (fun t=>NK.opt t fun x=> .ret (.ret (PE rs x),[])) g⟩
end
end
open Go
noncomputable section
def Y7 (E:Env) (t:TypeId) (ty:Ty):Bool:=
 match E.tk t with
 | .data ty'=>jj ty' ty
 |_=>false
theorem Mk {E:Env} {t:TypeId} {ty:Ty} (h:Y7 E t ty=true):E.tk t= .data ty:=by
 unfold Y7 at h
 split at h
 ·rename_i ty' e;rw[e,dN h]
 ·cases h
def Nx (E:Env) (i:Nat):Nat→List Ty→List Field→Bool
 |_,[],[]=>true
 |j,ty::ts,f::fs=>Y7 E f.type ty&&(decide (f.offset=E.qu i j)&&(!(Nat.beq (E.size ty) 0)&&(decide (f.name≠ "_")&&Nx E i (j+1) ts fs)))
 |_,_,_=>false
theorem KC {E:Env} {i:Nat}: ∀(ts:List Ty) (fs:List Field) (j:Nat),Nx E i j ts fs=true→fs.length=ts.length∧ ∀(q:Nat) (f:Field),fs[q]? =some f→ ∃ty,aR ts q=some ty∧E.tk f.type= .data ty∧f.offset=E.qu i (j+q)∧E.size ty≠0∧f.name≠ "_"
 |[],[],j,h=>⟨rfl,fun q f hq=>by simp at hq⟩
 |[],_::_,j,h=>by cases h
 |_::_,[],j,h=>by cases h
 |ty::ts,f::fs,j,h=>by
  simp only[Nx,Bool.and_eq_true]at h
  obtain⟨h1,h2,h3,h4,h5⟩:=h
  obtain⟨a,b⟩:=KC ts fs (j+1) h5
  refine⟨by simp[a],fun q g hq=> ?_⟩
  cases q with
  |zero=>
   cases hq
   refine⟨ty,rfl,Mk h1,of_decide_eq_true h2,fun h0=> ?_,of_decide_eq_true h4⟩
   rw[h0]at h3
   cases h3
  |succ q=>
   obtain⟨ty',c1,c2,c3,c4⟩:=b q g (by simpa using hq)
   exact⟨ty',c1,c2,by rw[c3,show j+1+q=j+(q+1)by omega],c4⟩
def Q2 (P:Program) (E:Env) (t:TypeId) (ty:Ty):Bool:=
 match ty,P.underlying t with
 | .bool,some .bool=>true
 | .int k,some (.int k')=>decide (k'=k)
 | .str,some .string=>true
 | .slice e,some (.slice te)=>Y7 E te e
 | .arr n e,some (.array n' te)=>Nat.beq n' n&&Y7 E te e
 | .named i,some (.struct fs)=>Nx E i 0 (E.fields i) fs.toList
 |_,_=>false
theorem Q1 {P:Program} {E:Env} {t:TypeId} {ty:Ty} (h:Q2 P E t ty=true):Vy P E t ty:=by
 unfold Q2 at h
 split at h
 ·rename_i e;exact e
 ·rename_i k k' e
  have:=of_decide_eq_true h
  subst this
  exact e
 ·rename_i e;exact e
 ·rename_i e' te e;exact⟨te,e,Mk h⟩
 ·rename_i n e' n' te e
  rw[Bool.and_eq_true]at h
  have:=Nat.eq_of_beq_eq_true h.1
  subst this
  exact⟨te,e,Mk h.2⟩
 ·rename_i i fs e
  obtain⟨a,b⟩:=KC _ _ 0 h
  refine⟨fs,e,by rw[←Array.length_toList,a],fun j f hj=> ?_⟩
  obtain⟨ty,c1,c2,c3,c4⟩:=b j f (by rw[Array.getElem?_toList];exact hj)
  exact⟨ty,c1,c2,by rw[c3,Nat.zero_add],c4⟩
 ·cases h
def Ym (P:Program) (E:Env) (t:TypeId) (k:TK):Bool:=
 match k,P.info? t with
 | .other,_=>true
 | .data ty,some i=>Nat.beq i.size (E.size ty)&&(Nat.ble i.bytes 8192&&(Lv E depth ty&&Q2 P E t ty))
 | .ptr,some i=>Nat.beq i.size 1&&(match P.underlying t with|some (.pointer _)=>true|_=>false)
 | .func,some i=>Nat.beq i.size 1&&(match P.underlying t with|some (.func _ _ _)=>true|_=>false)
 | .iface,some i=>Nat.beq i.size 1&&(match P.underlying t with|some (.interface _)=>true|_=>false)
 |_,none=>false
def tbB (P:Program) (E:Env):Nat→List TK→Bool
 |_,[]=>true
 |t,k::r=>Ym P E t k&&tbB P E (t+1) r
def Dj (P:Program):Nat→List TK→List (Option (Option Value))
 |_,[]=>[]
 |t,.other::r=>none::Dj P (t+1) r
 |t,_::r=>(P.info? t).map (·.zero) ::Dj P (t+1) r
def wD (E:Env):List TK→List (Option (Option Value))
 |[]=>[]
 | .other::r=>none::wD E r
 | .data ty::r=>some (some (toV ty (dV E depth ty))) ::wD E r
 | .ptr::r=>some (some (.pointer none)) ::wD E r
 | .func::r=>some (some .nilFunc) ::wD E r
 | .iface::r=>some (some .nilIface) ::wD E r
theorem tF {P:Program} {E:Env}: ∀(l:List TK) (t:Nat),tbB P E t l=true→Dj P t l=wD E l→NI P E t l
 |[],_,_,_=>trivial
 |k::r,t,h,hz=>by
  simp only[tbB,Bool.and_eq_true]at h
  obtain⟨h1,h2⟩:=h
  cases k with
  |other=>exact⟨trivial,tF r (t+1) h2 (by simp only[Dj,wD,List.cons.injEq]at hz;exact hz.2)⟩
  |data ty=>
   simp only[Dj,wD,List.cons.injEq]at hz
   refine⟨?_,tF r (t+1) h2 hz.2⟩
   unfold Ym at h1
   cases hi:P.info? t with
   |none=>rw[hi]at h1;cases h1
   |some i=>
    rw[hi]at h1 hz
    simp only[Bool.and_eq_true]at h1
    exact Ug hi (Nat.eq_of_beq_eq_true h1.1) (Nat.le_of_ble_eq_true h1.2.1) (Option.some.inj hz.1) (Q1 h1.2.2.2) h1.2.2.1
  |ptr=>
   simp only[Dj,wD,List.cons.injEq]at hz
   refine⟨?_,tF r (t+1) h2 hz.2⟩
   unfold Ym at h1
   cases hi:P.info? t with
   |none=>rw[hi]at h1;cases h1
   |some i=>
    rw[hi]at h1 hz
    simp only[Bool.and_eq_true]at h1
    obtain⟨a,b⟩:=h1
    split at b
    ·rename_i e he;exact⟨⟨_,he⟩,i,hi,Nat.eq_of_beq_eq_true a,Option.some.inj hz.1⟩
    ·cases b
  |func=>
   simp only[Dj,wD,List.cons.injEq]at hz
   refine⟨?_,tF r (t+1) h2 hz.2⟩
   unfold Ym at h1
   cases hi:P.info? t with
   |none=>rw[hi]at h1;cases h1
   |some i=>
    rw[hi]at h1 hz
    simp only[Bool.and_eq_true]at h1
    obtain⟨a,b⟩:=h1
    split at b
    ·rename_i e he;exact⟨⟨_,_,_,he⟩,i,hi,Nat.eq_of_beq_eq_true a,Option.some.inj hz.1⟩
    ·cases b
  |iface=>
   simp only[Dj,wD,List.cons.injEq]at hz
   refine⟨?_,tF r (t+1) h2 hz.2⟩
   unfold Ym at h1
   cases hi:P.info? t with
   |none=>rw[hi]at h1;cases h1
   |some i=>
    rw[hi]at h1 hz
    simp only[Bool.and_eq_true]at h1
    obtain⟨a,b⟩:=h1
    split at b
    ·rename_i e he;exact⟨⟨_,he⟩,i,hi,Nat.eq_of_beq_eq_true a,Option.some.inj hz.1⟩
    ·cases b
end
open Go
noncomputable section
def Nw:Code→List Code→Option (Array Oper×List Code)
 | .region _ ops false,k=>some (ops,k)
 | .seq a b,k=>Nw a (b::k)
 |_,_=>none
section
variable (E:Env)
def I7 (S:FuncId→Option (Spec E)) (L:Nat→cY E) (N:Nat):Nat→List Code→Fr E.T→St E.T→Tree (bR E)
 |_,[],fr,st=> .ret (.normal,fr,st)
 |i,c::r,fr,st=>(gi E S L N i c fr st).bind fun p=>match p.1 with
  | .normal=>I7 S L N (i+da c) r p.2.1 p.2.2
  |e=> .ret (e,p.2.1,p.2.2)
def pV (S:FuncId→Option (Spec E)) (L:Nat→cY E) (N:Nat) (fn:Func) (args:List (az E.T)) (st:St E.T) (rS:Option (az E.T)):Tree (Bool×St E.T):=
 Tree.cR fn.results.toList.isEmpty<|match fn.body with
 |some c0=>match Nw c0 []with
  |some (ops,k)=>match ops.toList with
   |o::r=>
    match o.op,o.guard with
    | .call {callee:= .builtin .recover,..},none=>
     (MA E S ops.toList r (put E (frame E fn args) o.dst (Qc E rS)) st).bind fun
     | .panic _ _ _=> .fail
     | .done fr1 st1=>(I7 E S L N 0 k fr1 st1).bind fun p=>match p.1 with
      | .normal=>Sr E st.length rS p.2.1 p.2.2
      | .ret=>Sr E st.length rS p.2.1 p.2.2
      |_=> .fail
    |_,_=> .fail
   |[]=> .fail
  |none=> .fail
 |none=> .fail
end
section
variable {P:Program} {E:Env}
abbrev QS:=Exit→Act→List Frame→World→Prop
def AW (P:Program) (Q:QS):List Code→QS
 |[]=>Q
 |c::k=>Exit.thenS (c.wpS P (AW P Q k)) (AW P Q k)
theorem rY {Q:QS} {e:Exit} {a:Act} {cs:List Frame} {w:World} (he:e≠ .normal) (h:Q e a cs w): ∀k,AW P Q k e a cs w
 |[]=>h
 |c::k=>by
  have:=rY he h k
  cases e with
  |normal=>exact absurd rfl he
  |_=>exact this
theorem Kv {Q:QS} {a:Act} {cs:List Frame} {w:World} {ops:Array Oper} {k':List Code}: ∀(c0:Code) (k:List Code),Nw c0 k=some (ops,k')→wpOpsS P ops (AW P Q k') (List.range ops.size) a cs w→c0.wpS P (AW P Q k) a cs w
 | .region _ o false,k,h,hw=>by cases h;exact wpS_region hw
 | .region _ o true,k,h,hw=>by cases h
 | .seq x y,k,h,hw=>wpS_seq (Kv x (y::k) h hw)
 | .skip,_,h,_=>by cases h
 | .cond _ _ _,_,h,_=>by cases h
 | .loop _,_,h,_=>by cases h
 | .block _ _,_,h,_=>by cases h
 | .exit _,_,h,_=>by cases h
 | .ret,_,h,_=>by cases h
 | .rangeFunc _ _ _ _,_,h,_=>by cases h
 | .scope _,_,h,_=>by cases h
 | .label _,_,h,_=>by cases h
 | .goto _,_,h,_=>by cases h
 | .refuse _,_,h,_=>by cases h
def yw (S:FuncId→Option (Spec E)) (L:Nat→cY E) (N:Nat):Nat→List Code→Prop
 |_,[]=>True
 |i,c::k=>fj S L N i c∧yw S L N (i+da c) k
theorem DF {S:FuncId→Option (Spec E)} {L:Nat→cY E} {N:Nat} {ops:Array Oper} {k':List Code}: ∀(c0:Code) (k:List Code) (i:Nat),Nw c0 k=some (ops,k')→fj S L N i c0→yw S L N (i+da c0) k→yw S L N i k'
 | .region _ o false,k,i,h,hc,hk=>by cases h;exact hk
 | .region _ o true,k,i,h,hc,hk=>by cases h
 | .seq x y,k,i,h,hc,hk=>DF x (y::k) i h hc.1 ⟨hc.2,by simpa [da,Nat.add_assoc]using hk⟩
 | .skip,_,_,h,_,_=>by cases h
 | .cond _ _ _,_,_,h,_,_=>by cases h
 | .loop _,_,_,h,_,_=>by cases h
 | .block _ _,_,_,h,_,_=>by cases h
 | .exit _,_,_,h,_,_=>by cases h
 | .ret,_,_,h,_,_=>by cases h
 | .rangeFunc _ _ _ _,_,_,h,_,_=>by cases h
 | .scope _,_,_,h,_,_=>by cases h
 | .label _,_,_,h,_,_=>by cases h
 | .goto _,_,_,h,_,_=>by cases h
 | .refuse _,_,_,h,_,_=>by cases h
theorem HN (HS:Sound P E) (hmix:P.follows .mixedOrders=true) {S:FuncId→Option (Spec E)} (HC:mJ P E S) {L:Nat→cY E} {N:Nat} {Q:QS} {cs:List Frame}: ∀(k:List Code) (i:Nat) {fr:Fr E.T} {st:St E.T} {a:Act} {w:World} {σ:Sg} {out:bR E},yw S L N i k→
  bm E σ st w→cf E σ st w fr a→(I7 E S L N i k fr st).get=some out→Ca E σ st w (fun e a w=>Q e a cs w) out→AW P Q k .normal a cs w
 |[],i,fr,st,a,w,σ,out,hL,hst,hfr,h,hp=>by
  cases h
  exact hp σ w a _ (Mf.refl hst) hfr .normal
 |c::k,i,fr,st,a,w,σ,out,hL,hst,hfr,h,hp=>by
  simp only[I7]at h
  obtain⟨⟨e,fr1,st1⟩,h1,h2⟩:=Tree.aB h
  show c.wpS P (AW P Q k) a cs w
  refine wpS_of_wp (iL HS hmix HC c i hL.1 hst hfr h1 (fun σ' w' a' x m hfr' hx=> ?_))
  cases hx with
  |normal=>exact HN HS hmix HC k (i+da c) hL.2 m.rep hfr' h2 (hp.later m)
  |exit id=>cases h2;exact rY (by intro h;cases h) (hp σ' w' a' _ m hfr' (.exit id)) k
  |ret=>cases h2;exact rY (by intro h;cases h) (hp σ' w' a' _ m hfr' .ret) k
  |panic v u hv=>cases h2;exact rY (by intro h;cases h) (hp σ' w' a' _ m hfr' (.panic v u hv)) k
theorem O9 (HS:Sound P E) (hmix:P.follows .mixedOrders=true) {S:FuncId→Option (Spec E)} (HC:mJ P E S) {L:Nat→cY E} {N:Nat} {f:FuncId} {fn:Func} {c0:Code}
  (hf:P.funcs[f]? =some fn) (hb:fn.body=some c0) (hL:fj S L N 0 c0) (hent:Enters P f):ix P E f (pV E S L N fn):=by
 refine⟨hent,?_⟩
 intro σ st w ds us rS u b st' hst hds hpan h
 unfold pV at h
 obtain⟨hres,h⟩:=Tree.aO h
 have hres':fn.results= #[]:=by
  rw[List.isEmpty_iff]at hres
  exact Array.toList_eq_nil_iff.1 hres
 rw[hb]at h
 simp only at h
 split at h
 ·rename_i ops k hhead
  split at h
  ·rename_i o r hops
   split at h
   ·rename_i args ats hop hg
    obtain⟨out,h1,h2⟩:=Tree.aB h
    cases out with
    |panic v fr st=>cases h2
    |done fr1 st1=>
     obtain⟨⟨e,fr2,st2⟩,h3,h4⟩:=Tree.aB h2
     have hfr0:=xT (fn:=fn) hds
     have hi0:ops[0]? =some o:=by rw[←Array.getElem?_toList,hops];rfl
     refine callsD_of_wpS hf hb (fun c₀ cs hm=> ?_)
     obtain⟨uv,cs',hrec,hcs,hfr1,hor⟩: ∃(uv:Value) (u':FrameMode),(match recoverD (c₀::cs)with|some (v,cs')=>v=uv∧cs'={c₀ with mode:=u'} ::cs|none=>uv= .nilIface∧(c₀::cs)={c₀ with mode:=u'} ::cs)∧True∧
       cf E σ st w (put E (frame E fn ds) o.dst (Qc E rS)) (({tmps:=us.toArray++Array.replicate (fn.ntmps-us.toArray.size) undef,defers:=[]}:Act).put o.dst uv)∧
       ((Ur E rS=true∧settle u'= .returning)∨(Ur E rS=false∧u'=u)):=by
      cases hpan with
      |none=>
       refine⟨.nilIface,.returning,?_,trivial,fo hfr0 o.dst .cr,.inr ⟨rfl,rfl⟩⟩
       have:recoverD (c₀::cs)=none:=by simp[recoverD,hm]
       rw[this]
       refine⟨rfl,?_⟩
       rw[←hm]
      |some v uv hv=>
       refine⟨uv,.panicking [{v:=uv,recovered:=true}],?_,trivial,fo hfr0 o.dst hv,.inl ⟨rfl,rfl⟩⟩
       have:recoverD (c₀::cs)=some (uv,{c₀ with mode:= .panicking [{v:=uv,recovered:=true}]} ::cs):=by simp[recoverD,hm]
       rw[this]
       exact⟨rfl,rfl⟩
     let QQ:QS:=bodyPostS P fn c₀ cs (fun e u' w'=>(∃v,e= .returned v)∧ ∃σ',Mf σ σ' st st' w w'∧((b=true∧settle u'= .returning)∨(b=false∧u'=u)))
     refine Kv (Q:=QQ) c0 [] hhead ?_
     have hsz:ops.size=r.length+1:=by rw[←Array.length_toList,hops];rfl
     rw[hsz,List.range_eq_range',List.range'_succ]
     simp only[wpOpsS,hi0]
     rw[if_pos (by unfold Region.wanted;rw[hg])]
     have hrunR:(execOp ({tmps:=us.toArray++Array.replicate (fn.ntmps-us.toArray.size) undef,defers:=[]}:Act).eval o).run P w= .ok .recover w:=by
      unfold execOp
      simp only[hop,resolve,Sem.run_bind,Sem.run_pure,Result.andThen_ok,invoke,builtin]
     have hloops:yw S L N 0 k:=DF c0 [] 0 hhead hL trivial
     have rest:wpOpsS P ops (AW P QQ k) (List.range' 1 r.length) (({tmps:=us.toArray++Array.replicate (fn.ntmps-us.toArray.size) undef,defers:=[]}:Act).put o.dst uv) ({c₀ with mode:=cs'} ::cs) w:=by
      have hnot: ∀k a w,¬AW P QQ k .outgrown a ({c₀ with mode:=cs'} ::cs) w:=by
       intro k
       induction k with
       |nil=>intro a w h;obtain⟨u',⟨v,hv⟩,_⟩:=h;cases hv
       |cons c k ih=>exact fun a w h=>ih a w h
      refine Em (fun a w h=>hnot k a w h) _ _ _ ?_
      ·refine Ev HS HC r 1 (by rw[hops];rfl) hst hfr1 h1 ?_
       intro σ1 w1 a1 m1 hfr1'
       refine HN HS hmix HC k 0 hloops m1.rep hfr1' h3 ?_
       intro σ2 w2 a2 x m2 hfr2 hx
       have fin: ∀(fr:Fr E.T) (st2':St E.T),(Sr E st.length rS fr st2').get=some (b,st')→Mf σ σ2 st st2' w w2→cf E σ2 st2' w2 fr a2→
         a2.defers=[]∧ ∃u',({c₀ with mode:=cs'} ::cs)={c₀ with mode:=u'} ::cs∧ ∃v,(results fn a2.tmps).run P w2= .ok v w2∧(∃v',Ending.returned v= .returned v')∧ ∃σ',Mf σ σ' st st' w w2∧((b=true∧settle u'= .returning)∨(b=false∧u'=u)):=by
        intro fr st2' hfin mm hff
        unfold Sr at hfin
        split at hfin
        ·rename_i hfd
         obtain⟨hlt,hfin⟩:=Tree.aO hfin
         cases hfin
         have hdd:=hff.d
         rw[hfd]at hdd
         obtain⟨mf,_⟩:=fS (List.range' st.length (st2'.length-st.length)) mm.rep
         have mm2:=mm.trans (mf.trans (Mv.ye HS.todk mf.rep st.length)).f
         refine⟨by generalize a2.defers=dd at hdd;cases hdd;rfl,cs',rfl,.tuple #[],by simp[results,hres'],⟨_,rfl⟩,σ2,Mf.take mm2 (wK mm2.rep (Je hlt)),hor⟩
        ·cases hfin
       cases hx with
       |normal=>exact fin fr2 st2 h4 (m1.trans m2) hfr2
       |ret=>exact fin fr2 st2 h4 (m1.trans m2) hfr2
       |exit id=>cases h4
       |panic v u hv=>cases h4
     rw[hrunR]
     simp only
     cases hrd:recoverD (c₀::cs)with
     |none=>
      rw[hrd]at hrec
      obtain⟨rfl,hcs2⟩:=hrec
      simp only
      rw[hcs2]
      exact rest
     |some p=>
      obtain⟨v,cs2⟩:=p
      rw[hrd]at hrec
      obtain⟨rfl,rfl⟩:=hrec
      exact rest
   ·cases h
  ·cases h
 ·cases h
theorem k7 {P:Program} (HS:Sound P E) (hmix:P.follows .mixedOrders=true) {S:List (Nat×Spec E)} (hS:Gx P E S) {L:Nat→cY E} (hL: ∀i,(L i).closed=none) {N:Nat} {f:FuncId} {fn:Func} {c:Code}
  (hen:Enters P f) (hf:P.funcs[f]? =some fn) (hb:fn.body=some c):ix P E f (pV E (jX S) L N fn):=
 O9 HS hmix (Gb HS (xx hS)) hf hb (gK hL c 0) hen
end
end
open Go
noncomputable section
@[reducible] def Ty.i6:Ty:= .int .i64
@[reducible] def Sh.iv:Sh:= .v (.int .i64)
@[reducible] def az.iv {T:Nat→Type} (x:I T (.int .i64)):az T:= .val (.int .i64) x
@[reducible] def az.sv {T:Nat→Type} (x:I T .str):az T:= .val .str x
@[reducible] def az.bv {T:Nat→Type} (x:I T .bool):az T:= .val .bool x
@[reducible] def az.nv {T:Nat→Type} (i:Nat) (x:I T (.named i)):az T:= .val (.named i) x
@[reducible] def fH.bx (s:Sh):fH:= .box false s
@[reducible] def fH.al (e:Ty):fH:= .arr .live e
@[reducible] def Obj.bx {T:Nat→Type} (c:az T):Obj T:= .box false c
@[reducible] def Obj.al {T:Nat→Type} (e:Ty) (xs:List (I T e)):Obj T:= .arr .live e xs
end
open Go Go.RowKit
noncomputable section
section
variable {P:Program} {E:Env} {w w':World} {σ:Sg} {st:St E.T} {M:Nat→Prop}
theorem ym (hst:bm E σ st w) (h:Below w.heap.size w w'):Mf σ σ st st w w':=(Mv.still hst h.os h.tape h.output h.size h.block).f
theorem Ib {s:List UInt8} (h:s.length≤dK):aZ E σ st w M (.val .str s) (.string ⟨s.toArray⟩):=by
 have h1:cx E w M .str (ByteArray.mk s.toArray).data.toList [.string ⟨s.toArray⟩]:=cx.str _ (by simpa [ByteArray.size]using h)
 exact .data .str _ _ (.val .str _ _ h1)
def Uo (E:Env):List (az E.T)→Tree (iR E.T)
 |[.val .str s,.val (.int .i64) n]=> .ite (N.EW (α:=UInt8) s n) (.ret (.ret [.val .str (N.pI (α:=UInt8) s n)])) .fail
 |_=> .fail
theorem EV (l:List UInt8): ∀c,Lib.repeatL l c=(List.replicate c l).flatten
 |0=>rfl
 |c+1=>by rw[Lib.repeatL,List.replicate_succ,List.flatten_cons,EV l c]
theorem Un {f:FuncId} (hen:Enters P f)
  (hc: ∀(s:ByteArray) (c:Nat) (w:World),c≤9223372036854775807→s.size*c≤140737488355328→Calls P f #[.string s,.int .i64 c] w fun e w'=>e= .returned (.string ⟨(Lib.repeatL s.data.toList c).toArray⟩)∧Below w.heap.size w w'):
  nQ P E f (.pure [.str,.int .i64] (Uo E)):=by
 refine⟨hen,fun{σ w ds us r} hst hds hr=> ?_⟩
 unfold Uo at hr
 split at hr
 ·rename_i s n
  simp only[Tree.get]at hr
  cases hk:N.EW (α:=UInt8) s n with
  |false=>rw[hk]at hr;cases hr
  |true=>
   rw[hk]at hr
   cases hr
   cases hds with
   |cons v r u us h1 h2=>
    cases h2 with
    |cons v r u2 us h2 h3=>
     cases h3
     obtain⟨b,rfl,hb,_⟩:=sJ h1
     have:=jd h2;subst this
     unfold N.EW at hk
     simp only[Bool.and_eq_true,decide_eq_true_eq]at hk
     obtain⟨k1,k2,k3⟩:=hk
     obtain⟨c,hn⟩: ∃c:Nat,n=((c:Nat):Int):=⟨Int.toNat n,(Int.toNat_of_nonneg k1).symm⟩
     subst hn
     rw[Int.toNat_natCast]at k3
     have hsz:b.size=s.length:=by rw[←hb];exact Array.length_toList.symm
     have k2':c≤2147483648:=Int.ofNat_le.1 k2
     have k3':s.length*c≤2147483648:=k3
     have hcall:=hc b c w (by omega) (by rw[hsz];omega)
     refine hcall.mono fun e w' ⟨he,hbel⟩=>⟨σ,ym hst hbel,?_⟩
     rw[he,hb,EV]
     have hl:(List.replicate c s).flatten.length≤dK:=by
      rw[List.length_flatten,List.map_replicate,List.sum_replicate_nat,Nat.mul_comm]
      exact k3'
     exact Ib hl
 ·cases hr
end
end
open Go Go.RowKit
noncomputable section
def kP:Nat→Code→Code
 |0,c=>c
 |n+1,.seq _ b=>kP n b
 |_+1,_=> .skip
def Bh:Nat→Code→Code
 |0,_=> .skip
 |n+1,.seq a b=> .seq a (Bh n b)
 |_+1,c=>c
def Nc:Nat→Code→Bool
 |0,_=>true
 |n+1,.seq _ b=>Nc n b
 |_+1,_=>false
open Go.Proofs.YtlejgahbbfeagaaGreatDoor.N (hZ ia)
def AP (ks:List Nat) (W W':World):Prop:=W.heap.size≤W'.heap.size∧ ∀b∈ks,W'.heap[b]? =W.heap[b]?
theorem AP.cell {ks:List Nat} {W W':World} (h:AP ks W W') {p:Addr} (hp:p.block∈ks):W'.cell? p=W.cell? p:=World.cell?_of_block (h.2 _ hp)
theorem AP.refl (ks:List Nat) (W:World):AP ks W W:=⟨Nat.le_refl _,fun _ _=>rfl⟩
theorem AP.trans {ks:List Nat} {A B C:World} (h:AP ks A B) (k:AP ks B C):AP ks A C:=⟨Nat.le_trans h.1 k.1,fun b hb=>(k.2 b hb).trans (h.2 b hb)⟩
theorem AP.two {W W':World} {a b:Nat} (h:W.heap.size≤W'.heap.size) (h1:W'.heap[a]? =W.heap[a]?) (h2:W'.heap[b]? =W.heap[b]?):AP [a,b] W W':=
 ⟨h,fun k hk=>by
  rcases List.mem_cons.1 hk with rfl|hk
  ·exact h1
  ·rw[List.mem_singleton.1 hk];exact h2⟩
theorem AP.putObj {ks:List Nat} {W:World} {l B:Nat} {o o':Go.Obj} (hl:B≤l) (h:W.heap[l]? =some o) (hks: ∀k∈ks,k<B):AP ks W (W.putObj l o'):=
 ⟨by simp,fun b hb=>World.putObj_heap_other (by have:=hks b hb;omega)⟩
theorem LV {F:Fence} {n:Nat} {P:Program} {c:Code} {Q:Exit→Act→World→Prop} {a:Act} {w:World} (a':Act) (w':World) (hk:Q .normal a' w') (h: ∀Q':Exit→Act→World→Prop,Q' .normal a' w'→c.wpIn F n P Q' a w):c.wpIn F n P Q a w:=h Q hk
def C9 (b len k:Nat):Value:= .slice (some ⟨b,32*k,none⟩) (min 32 (len-32*k)) (min 32 (len-32*k))
def tr (fn:Func):Code:=
 match fn.body with
 |some c=>c
 |none=> .skip
theorem IJ (l:List Value) {n:Nat} (h:l.length=n):l=(List.range n).map fun i=>l.getD i undef:=by
 subst h
 apply List.ext_getElem
 ·simp
 ·intro i h1 h2
  simp[List.getD_eq_getElem?_getD,List.getElem?_eq_getElem h1]
section
variable {P:Program} {E:Env} {w w':World} {σ σ':Sg} {st st':St E.T} {M:Nat→Prop}
variable {a:Act} {fr:Fr E.T}
def Exit.orElse (K:Act→World→Prop) (Q:Exit→Act→World→Prop):Exit→Act→World→Prop
 | .normal,a,w=>K a w
 |e,a,w=>Q e a w
theorem FL (HS:Sound P E) (hmix:P.follows .mixedOrders=true) {S:FuncId→Option (Spec E)} (HC:mJ P E S) {L:Nat→cY E} {N:Nat}: ∀(m:Nat) (c:Code) (i:Nat) {fr:Fr E.T} {st:St E.T} {a:Act} {w:World} {σ:Sg} {out:bR E} {Q:Exit→Act→World→Prop},Nc m c=true→fj S L N i c→
  bm E σ st w→cf E σ st w fr a→(gi E S L N i (Bh m c) fr st).get=some out→Ca E σ st w (Exit.orElse (fun a w=>(kP m c).wp P Q a w) Q) out→c.wp P Q a w
 |0,c,i,fr,st,a,w,σ,out,Q,hs,hL,hst,hfr,h,hp=>by
  cases h
  exact hp σ w a _ (Mf.refl hst) hfr .normal
 |m+1,.seq c1 c2,i,fr,st,a,w,σ,out,Q,hs,hL,hst,hfr,h,hp=>by
  simp only[Bh,gi]at h
  obtain⟨⟨e,fr1,st1⟩,h1,h2⟩:=Tree.aB h
  refine wp_seq (iL HS hmix HC c1 i hL.1 hst hfr h1 (fun σ' w' a' x m' hfr' hx=> ?_))
  cases hx with
  |normal=>exact FL HS hmix HC m c2 (i+da c1) hs hL.2 m'.rep hfr' h2 (hp.later m')
  |exit id=>cases h2;exact hp σ' w' a' _ m' hfr' (.exit id)
  |ret=>cases h2;exact hp σ' w' a' _ m' hfr' .ret
  |panic v u hv=>cases h2;exact hp σ' w' a' _ m' hfr' (.panic v u hv)
 |m+1,.skip,i,fr,st,a,w,σ,out,Q,hs,hL,hst,hfr,h,hp=>by cases hs
 |m+1,.region ..,i,fr,st,a,w,σ,out,Q,hs,hL,hst,hfr,h,hp=>by cases hs
 |m+1,.cond ..,i,fr,st,a,w,σ,out,Q,hs,hL,hst,hfr,h,hp=>by cases hs
 |m+1,.block ..,i,fr,st,a,w,σ,out,Q,hs,hL,hst,hfr,h,hp=>by cases hs
 |m+1,.loop ..,i,fr,st,a,w,σ,out,Q,hs,hL,hst,hfr,h,hp=>by cases hs
 |m+1,.exit ..,i,fr,st,a,w,σ,out,Q,hs,hL,hst,hfr,h,hp=>by cases hs
 |m+1,.ret,i,fr,st,a,w,σ,out,Q,hs,hL,hst,hfr,h,hp=>by cases hs
 |m+1,.scope ..,i,fr,st,a,w,σ,out,Q,hs,hL,hst,hfr,h,hp=>by cases hs
 |m+1,.label ..,i,fr,st,a,w,σ,out,Q,hs,hL,hst,hfr,h,hp=>by cases hs
 |m+1,.goto ..,i,fr,st,a,w,σ,out,Q,hs,hL,hst,hfr,h,hp=>by cases hs
 |m+1,.rangeFunc ..,i,fr,st,a,w,σ,out,Q,hs,hL,hst,hfr,h,hp=>by cases hs
 |m+1,.refuse ..,i,fr,st,a,w,σ,out,Q,hs,hL,hst,hfr,h,hp=>by cases hs
def NJ (P:Program) (fn:Func) (c:Code) (q:Nat) (ts:TypeId):Prop:=
 ∀(a:Act) (w:World) (o:Option Addr) (b len cap:Nat) (bs:List UInt8),a.defers=[]→a.tmps.size=fn.ntmps→a.tmps[q]? =some (.slice o len cap)→bs.length=len→len≤2147483648→len≤cap→(0<len→o=some ⟨b,0,none⟩)→(0<len→b<w.heap.size)→
  (∀(j:Nat) x,bs[j]? =some x→w.cell? ⟨b,j,none⟩=some (.int .u8 (x.toNat:Int)))→
  ∀R:Ending→World→Prop,(∀v W',W'.ownsRow w.heap.size ts 1 v ((len+31)/32) ((List.range ((len+31)/32)).map fun k=>Value.string ⟨(hZ bs k).toArray⟩)→Below w.heap.size w W'→R (.returned v) W')→c.wpIn .wide 3 P (bodyPostM .wide 3 P fn R) a w
def Qf (q:Nat) (fr:Fr E.T) (st:St E.T):Tree (List UInt8):=
 match nth fr.s q .undef with
 | .own k=>match aR st k with
  |some (.arr _ e xs)=>match wx e (.int .u8)with
   |some h=> .ret (zu (T:=E.T) (congrArg Ty.slice h.down) xs)
   |none=> .fail
  |_=> .fail
 |_=> .fail
theorem Oz {q:Nat} {bs:List UInt8} (h:(Qf (E:=E) q fr st).get=some bs): ∃k l,nth fr.s q .undef= .own k∧aR st k=some (.arr l (.int .u8) bs):=by
 unfold Qf at h
 split at h
 ·rename_i k hk
  split at h
  ·rename_i l e xs hx
   split at h
   ·rename_i he _
    cases he.down
    cases h
    exact⟨k,l,hk,hx⟩
   ·cases h
  ·cases h
 ·cases h
def ML (E:Env) (S:FuncId→Option (Spec E)) (L:Nat→cY E) (N m q:Nat) (fn:Func) (args:List (az E.T)) (st:St E.T):Tree (iR E.T×St E.T):=
 match st,fn.body with
 |[],some c=>(gi E S L N 0 (Bh m c) (frame E fn args) []).bind fun p=>match p.1,p.2.1.d with
  | .normal,[]=>Tree.cR (Nat.beq p.2.1.s.length fn.ntmps) ((Qf q p.2.1 p.2.2).bind fun bs=> .ret (.ret [.val (.slice .str) (ia bs)],[]))
  | .ret,[]=>ending E false 0 fn p.2.1 p.2.2 none
  |_,_=> .fail
 |_,_=> .fail
theorem Lc {xs:List UInt8} {cs:List Value} (h:bD E w M (.int .u8) xs cs): ∀(j:Nat) x,xs[j]? =some x→cs[j]? =some (.int .u8 (x.toNat:Int)):=by
 induction xs generalizing cs with
 |nil=>intro j x hx;cases hx
 |cons y r ih=>
  cases h with
  |cons e x r c1 c2 h h'=>
   cases h
   intro j x hx
   cases j with
   |zero=>cases hx;rfl
   |succ j=>exact ih h' j x hx
theorem EO: ∀(l:List (List UInt8)),(∀s∈l,s.length≤dK)→bD E w M .str l (l.map fun s=>Value.string ⟨s.toArray⟩)
 |[],_=> .nil _
 |s::r,h=>by
  have h1:cx E w M .str (ByteArray.mk s.toArray).data.toList [.string ⟨s.toArray⟩]:=cx.str _ (by simpa [ByteArray.size]using h s (by simp))
  have:=bD.cons (E:=E) .str s r [Value.string ⟨s.toArray⟩] _ (by simpa using h1) (EO r fun s hs=>h s (by simp[hs]))
  simpa using this
theorem O8 (HS:Sound P E) (hmix:P.follows .mixedOrders=true) {S:List (Nat×Spec E)} (hS:Gx P E S) {L:Nat→cY E} {N m q:Nat} {f:FuncId} {fn:Func} {c:Code} {ts:TypeId} (hf:P.funcs[f]? =some fn) (hb:fn.body=some c) (hs:Nc m c=true)
  (h: ∀k g,(L k).closed=some g→ ∀fr st out,(g fr st).get=some out→ ∃m fr',(qf E (stepOf E S L N k fn) (L k).aH (L k).ik st.length m fr st).get=some (out.1,fr',out.2.2)∧De out.2.1 fr')
  (ht:NJ P fn (kP m c) q ts):tu P E f (ML E (jX S) L N m q fn):=by
 have hL:fj (jX S) L N 0 c:=jc c 0 fun k cb hk f' hf'=>by
  rw[Nat.zero_add]at hf'⊢
  have:=h k f' hf'
  unfold stepOf at this
  rw[hb]at this
  simp only[hk]at this
  exact this
 intro σ st w ds us r st' hst hds hr
 unfold ML at hr
 rw[hb]at hr
 cases st with
 |cons _ _=>cases hr
 |nil=>
 simp only at hr
 obtain⟨⟨e,fr,st1⟩,h1,h2⟩:=Tree.aB hr
 refine callsIn_wide.1 (callsIn_of_wp_marks (n:=3) hf hb trivial (wpIn_wide.2 ?_) rfl)
 refine FL HS hmix (Gb HS (xx hS)) m c 0 hs hL hst (xT hds) h1 (fun σ' w' a' x m' hfr hx=> ?_)
 simp only at h2 hfr m'
 split at h2
 ·rename_i hd
  cases hx
  obtain⟨hn,h2⟩:=Tree.aO h2
  obtain⟨bs,hbs,h2⟩:=Tree.aB h2
  cases h2
  obtain⟨k,l,hk,hkx⟩:=Oz hbs
  have hdd:=hfr.d
  rw[hd]at hdd
  have hdef:a'.defers=[]:=by generalize a'.defers=dd at hdd;cases hdd;rfl
  have hsz:a'.tmps.size=fn.ntmps:=by
   have:=aW.length hfr.s
   rw[Array.length_toList]at this
   rw[←this];exact Nat.eq_of_beq_eq_true hn
  have hv:=bU hfr (.tmp q)
  simp only[bY]at hv
  rw[hk]at hv
  have hq:a'.eval (.tmp q)=σ' k:=by
   generalize a'.eval (.tmp q)=uu at hv⊢
   cases hv with
   |data t d cs hvt=>cases hvt;rfl
  have hob:=m'.rep.obj k _ hkx
  generalize hsk:σ' k=sk at hob hq
  cases hob with
  |arr l e xs v how=>
  obtain⟨hll,hcase⟩:=how
  have hbl: ∀b,MB σ' st1 b→b<w'.heap.size:=fun b hb=>DY m'.rep hb
  have hrep0:bm E σ' (st1.take 0) w':=wK m'.rep (fun k hk=>by simp[iX]at hk)
  have m0:Mf σ σ' [] (st1.take ([]:St E.T).length) w w':=Mf.take m' hrep0
  have hst0:(st1.take ([]:St E.T).length)=[]:=rfl
  rw[hst0]at m0
  have hbs2:bs.length≤2147483648:=hll
  have hch: ∀s∈ia bs,s.length≤dK:=by
   intro s hs
   obtain⟨k,_,rfl⟩:=List.mem_map.1 hs
   unfold hZ dK
   rw[List.length_take]
   omega
  have hfin: ∀(v:Value) (W':World),W'.ownsRow w'.heap.size ts 1 v ((bs.length+31)/32) ((List.range ((bs.length+31)/32)).map fun k=>Value.string ⟨(hZ bs k).toArray⟩)→Below w'.heap.size w' W'→GQ E σ [] [] w (.ret [.val (.slice .str) (ia bs)]) (.returned v) W':=by
   intro v W' hrow hbel
   refine⟨σ',m0.trans (ym m0.rep hbel),?_⟩
   show aZ E σ' [] W' (MB σ' ([]:St E.T)) (.val (.slice .str) (ia bs)) v
   have hlr:bD E W' (MB σ' ([]:St E.T)) .str (ia bs) ((List.range ((bs.length+31)/32)).map fun k=>Value.string ⟨(hZ bs k).toArray⟩):=by
    have:=EO (E:=E) (w:=W') (M:=MB σ' ([]:St E.T)) (ia bs) hch
    unfold ia at this⊢
    rw[List.map_map]at this
    exact this
   have hlen:(ia bs).length=(bs.length+31)/32:=by simp[ia]
   obtain⟨hl1,hor⟩:=hrow
   rcases hor with⟨rfl,h0⟩|⟨g,cap,cur,rfl,hg,hh,hc1,hc2,hc3,hc4⟩
   ·have hnil:ia bs=[]:=List.eq_nil_of_length_eq_zero (by rw[hlen];exact h0)
    have:=cx.slice (E:=E) (w:=W') (M:=MB σ' ([]:St E.T)) .str [] none 0 [] (.nil _) (.inl rfl) (Nat.zero_le _) (Nat.le_refl _)
    rw[hnil]
    exact .data _ _ _ (.val _ _ _ this)
   ·have:=cx.slice (E:=E) (w:=W') (M:=MB σ' ([]:St E.T)) .str (ia bs) (some ⟨g,0,none⟩) cap _ hlr (.inr ⟨g,0,rfl,?_,(Array.getElem?_eq_some_iff.1 hh).1,?_⟩) (by rw[hlen];unfold dK;omega) (by rw[hlen];exact hc1)
    ·rw[hlen]at this
     exact .data _ _ _ (.val _ _ _ this)
    ·intro hb
     have:g<w'.heap.size:=by
      rcases hb with hb|⟨o,ob,ho,_⟩
      ·exact m0.rep.qh g hb
      ·cases ho
     omega
    ·intro j u hj
     rw[Nat.zero_add]
     have hj2:(cur.toList.take ((bs.length+31)/32*1))[j]? =some u:=by rw[hc4];exact hj
     unfold World.cell?
     rw[hh]
     have hlt:=(List.getElem?_eq_some_iff.1 hj2).1
     rw[List.getElem?_take_of_lt (by rw[List.length_take]at hlt;omega)]at hj2
     simpa using hj2
  have hget: ∀u,a'.eval (.tmp q)=u→u≠undef→a'.tmps[q]? =some u:=by
   intro u hu hne
   simp only[Act.eval,Array.getD_eq_getD_getElem?]at hu
   cases hc:a'.tmps[q]? with
   |none=>rw[hc]at hu;exact absurd hu.symm hne
   |some x=>rw[hc]at hu;rw[←hu];rfl
  show(kP m c).wp P (bodyPostM .wide 3 P fn (GQ E σ [] [] w (.ret [.val (.slice .str) (ia bs)]))) a' w'
  refine(wpIn_wide (n:=3)).1 ?_
  rcases hcase with⟨⟨ad,rfl⟩,rfl⟩|⟨g,cap,cur,el,fz,cs,rfl,hc1,hh,hz,hfz,hl,hcs,_⟩
  ·exact ht a' w' ad 0 0 0 [] hdef hsz (hget _ hq (by intro h;cases h)) rfl (by omega) (Nat.le_refl _) (fun h=>by omega) (fun h=>by omega) (fun j x hx=>by cases hx) _ hfin
  ·refine ht a' w' (some ⟨g,0,none⟩) g bs.length (cap+1) bs hdef hsz (hget _ hq (by intro h;cases h)) rfl hbs2 hc1 (fun _=>rfl) (fun _=>(Array.getElem?_eq_some_iff.1 hh).1) (fun j x hx=> ?_) _ hfin
   have:=hcs j _ (Lc hl j x hx)
   unfold World.cell?
   rw[hh]
   simpa using this
 ·rename_i hd
  cases hx
  have hdd:=hfr.d
  rw[hd]at hdd
  have hdef:a'.defers=[]:=by generalize a'.defers=dd at hdd;cases hdd;rfl
  have hend:=yM HS (aH:=false) (fn:=fn) m' hfr .none (r:=r) (st':=st') h2
  show LeavesInM .wide 3 P fn a'.tmps _ a'.defers .returning w'
  rw[hdef]
  exact hend
 ·cases h2
end
end
open Go Go.RowKit
noncomputable section
section
variable {P:Program} {E:Env} {w w':World} {σ:Sg} {st:St E.T} {M:Nat→Prop}
def QD (E:Env):List (az E.T)→Tree (iR E.T)
 |[.val (.slice .str) l,.val .str e]=> .ite (N.Fv l e) (.ret (.ret [.val .str (N.BH l e)])) .fail
 |_=> .fail
theorem zD {l:List (List UInt8)} {cs:List Value} (h:bD E w M .str l cs): ∃xs:List ByteArray,xs.map (fun b=>b.data.toList)=l∧cs=xs.map Value.string∧ ∀b∈xs,b.size≤dK:=by
 induction l generalizing cs with
 |nil=>cases h;exact⟨[],rfl,rfl,fun b hb=>by cases hb⟩
 |cons y r ih=>
  cases h with
  |cons e x r c1 c2 h h'=>
   cases h with
   |str s hs=>
    obtain⟨xs,h1,h2,h3⟩:=ih h'
    exact⟨s::xs,by simp[h1],by simp[h2],fun b hb=>(List.mem_cons.1 hb).elim (fun e=>by rw[e];exact hs) (h3 b)⟩
theorem Si {f:FuncId} (hen:Enters P f)
  (h0: ∀(a:Option Addr) (c:Nat) (sep:ByteArray) (w:World),Calls P f #[.slice a 0 c,.string sep] w fun e w'=>e= .returned (.string ⟨#[]⟩)∧w'=w)
  (h1: ∀(bk o c:Nat) (x sep:ByteArray) (w:World),w.cell? ⟨bk,o,none⟩=some (.string x)→Calls P f #[.slice (some ⟨bk,o,none⟩) 1 c,.string sep] w fun e w'=>e= .returned (.string x)∧w'=w)
  (h2: ∀(bk o c:Nat) (xs:List ByteArray) (sep:ByteArray) (w:World),(∀(j:Nat) x,xs[j]? =some x→w.cell? ⟨bk,o+j,none⟩=some (.string x))→bk<w.heap.size→2≤xs.length→xs.length≤140737488355328→xs.length≤c→
   (Lib.join (xs.map (·.data.toList)) sep.data.toList).length≤140737488355328→
   Calls P f #[.slice (some ⟨bk,o,none⟩) xs.length c,.string sep] w fun e w'=>e= .returned (.string ⟨(Lib.join (xs.map (·.data.toList)) sep.data.toList).toArray⟩)∧Below w.heap.size w w'):
  nQ P E f (.pure [.slice .str,.str] (QD E)):=by
 refine⟨hen,fun{σ w ds us r} hst hds hr=> ?_⟩
 unfold QD at hr
 split at hr
 ·rename_i l e
  simp only[Tree.get]at hr
  cases hk:N.Fv l e with
  |false=>rw[hk]at hr;cases hr
  |true=>
   rw[hk]at hr
   cases hr
   unfold N.Fv at hk
   have hk:=of_decide_eq_true hk
   cases hds with
   |cons v r u us hv h2'=>
    cases h2' with
    |cons v r u2 us he h3=>
     cases h3
     obtain⟨b,rfl,hb,_⟩:=sJ he
     cases hv with
     |data t d cs hvt=>
     cases hvt with
     |val t x cs hc=>
     cases hc with
     |slice e' xs a cap cs hl hm hn hcap=>
     obtain⟨bs,hbs,hcs,_⟩:=zD hl
     have hlen:l.length=bs.length:=by rw[←hbs,List.length_map]
     show Calls P f #[.slice a l.length cap,.string b] w _
     have hst2: ∀s:List UInt8,s=N.BH l e→ ∀(en:Ending) (w':World),en= .returned (.string ⟨s.toArray⟩)→Below w.heap.size w w'→GQ E σ [] [] w (.ret [.val .str (N.BH l e)]) en w':=by
      intro s hs en w' he hbel
      subst hs
      exact⟨σ,ym hst hbel,by rw[he];exact Ib hk⟩
     match bs,hbs,hcs,hlen with
     |[],hbs,_,hlen=>
      have hnil:l=[]:=by rw[←hbs];rfl
      rw[hlen]
      refine(h0 a cap b w).mono fun en w' ⟨he,hw⟩=>hst2 [] (by rw[hnil];rfl) en w' (by rw[he]) (by rw[hw];exact Below.refl _ _)
     |[y],hbs,hcs,hlen=>
      have hl1:l=[y.data.toList]:=by rw[←hbs];rfl
      rcases hm with h|⟨bk,off,rfl,_,_,hcell⟩
      ·rw[h]at hlen;cases hlen
      ·rw[hlen]
       have hy:w.cell? ⟨bk,off,none⟩=some (.string y):=by
        have:=hcell 0 (.string y) (by rw[hcs];rfl)
        simpa using this
       refine(h1 bk off cap y b w hy).mono fun en w' ⟨he,hw⟩=>hst2 y.data.toList (by rw[hl1];simp[N.BH,List.intercalate]) en w' (by rw[he]) (by rw[hw];exact Below.refl _ _)
     |y::z::r,hbs,hcs,hlen=>
      rcases hm with h|⟨bk,off,rfl,_,hlt,hcell⟩
      ·rw[h]at hlen;simp at hlen
      ·rw[hlen]
       have hj:N.BH l e=Lib.join ((y::z::r).map (·.data.toList)) b.data.toList:=by rw[hbs,hb];rfl
       have hln:l.length≤2147483648:=hn
       refine(h2 bk off cap (y::z::r) b w (fun j x hx=>hcell j _ (by rw[hcs,List.getElem?_map,hx];rfl)) hlt (by simp) (by omega) (by omega) (by rw[←hj];unfold N.dK at hk;omega)).mono fun en w' ⟨he,hbel⟩=>hst2 _ hj.symm en w' he hbel
 ·cases hr
end
end
open Go
section
variable {P:Program} {E:Env} {w w':World} {σ σ':Sg} {st st':St E.T} {M:Nat→Prop}
theorem yD (w:World) (dT sT ty e:TypeId) (i:TypeInfo) (ht:P.underlying dT=some (.slice e)) (hi:P.info? e=some i) {b o dLen dCap sLen sCap m:Nat} {a:Addr} {c:Array Value} {el:TypeId} {fr:Nat×Nat} (hh:w.heap[b]? =some (.cells c el fr)) (cs:List Value)
  (hm:m=Nat.min sLen dLen) (hl:cs.length=m*i.size) (hsrc: ∀j v,cs[j]? =some v→w.cell? (a.add j)=some v) (hfit:o+cs.length≤c.size) (hf: ∀q,w.frozen? ⟨b,q,none⟩=false) (h1: ∀v∈cs,kV v=true):
  (Builtin.copy_ #[dT,sT] ty #[.slice (some ⟨b,o,none⟩) dLen dCap,.slice (some a) sLen sCap]).run P w= .ok (goInt m) (iI w b (.cells (qa c o cs) el fr)):=by
 have hld:=run_loadCells_list (P:=P) w a cs hsrc
 have hst:=nk P b o el fr cs 0 w c hh (by simpa using hfit) h1 (fun q _ _=>hf q)
 simp only[Nat.add_zero]at hst
 simp[Builtin.copy_,run_underlying ht,Builtin.lenOf,Builtin.firstCells,sizeOf,typeInfo,hi,←hm,←hl,hld,hst]
theorem LQ (w:World) (t ty e:TypeId) (i:TypeInfo) (z:Value) (ht:P.underlying t=some (.slice e)) (hi:P.info? e=some i) (hz:i.zero=some z) {b o n cap:Nat} {c:Array Value} {el:TypeId} {fr:Nat×Nat} (hh:w.heap[b]? =some (.cells c el fr))
  (zs:List Value) (hzs:Builtin.zeroCells z.cells n=zs.toArray) (hfit:o+zs.length≤c.size) (hf: ∀q,o≤q→q<o+zs.length→w.frozen? ⟨b,q,none⟩=false) (h1: ∀v∈zs,kV v=true) (h0:n=0→zs=[]):
  (Builtin.clear_ #[t] ty #[.slice (some ⟨b,o,none⟩) n cap]).run P w= .ok (.tuple #[]) (iI w b (.cells (qa c o zs) el fr)):=by
 cases n with
 |zero=>
  rw[h0 rfl,qa,Ha hh]
  simp[Builtin.clear_,run_underlying ht]
 |succ n=>
  have hst:=nk P b o el fr zs 0 w c hh (by simpa using hfit) h1 (by simpa using hf)
  simp only[Nat.add_zero]at hst
  simp[Builtin.clear_,run_underlying ht,zeroValue,typeInfo,hi,hz,hzs,hst]
theorem Ih (w:World) (tS tR e:TypeId) (i:TypeInfo) (ht:P.underlying tS=some (.slice e)) (hi:P.info? e=some i) (a b:Addr) (la ca lb cb:Nat) (hne:a.block≠b.block) {cA cB:Array Value} {tA tB:TypeId} {fA fB:Nat×Nat}
  (ha:w.heap[a.block]? =some (.cells cA tA fA)) (hb:w.heap[b.block]? =some (.cells cB tB fB)) (hA:cA.size≠0) (hsa:a.spot=none) (hsb:b.spot=none) (hf: ∀q,w.frozen? ⟨b.block,q,none⟩=false):
  (Extern.SlicesOverlaps.overlaps #[tS,tS] #[tR] #[.slice (some a) la ca,.slice (some b) lb cb]).run P w= .ok (.bool false) w:=by
 have hnb:(a.block != b.block)=true:=by simpa using hne
 have hnb':(a.block==b.block)=false:=by simpa using hne
 have hsA:w.shape? a.block=some (tA,cA.size):=by unfold World.shape?;rw[ha]
 have hsB:w.shape? b.block=some (tB,cB.size):=by unfold World.shape?;rw[hb]
 have hfb:w.frozen? b=false:=by
  obtain⟨bb,bo,bs⟩:=b
  simp only at hsb
  subst hsb
  exact hf bo
 have hfe:=hf cB.size
 change Sem.run P (α:=Value) (do
  let some t:=(#[tS,tS]:Array TypeId)[0]? |stuck "slices.overlaps: no parameter types"
  let .slice elem←underlying t|stuck "slices.overlaps: slice type expected"
  let size←sizeOf elem
  match(some a:Option Addr),(some b:Option Addr)with
  |some a,some b=>
   if la=0∨lb=0∨size=0 then pure (Value.bool false)
   else if a.block != b.block&&(←Go.frozen a)&&(←Go.frozen b)then unsupported .addressObserved
   else do
    if a.block != b.block then do
     noView a;noView b
     if←mayBeOne a b then return Value.bool ((←choose (.extern "sameAddr.stringBytes" 2))==1)
    pure (Value.bool (a.block==b.block&&a.off<b.off+lb*size&&b.off<a.off+la*size))
  |_,_=>pure (Value.bool false)) w=_
 by_cases h0:la=0∨lb=0∨i.size=0
 ·simp[run_underlying ht,sizeOf,typeInfo,hi,h0]
 ·obtain⟨kA,hkA⟩: ∃kA,cA.size=kA+1:=⟨cA.size-1,by omega⟩
  rw[hkA]at hsA
  cases hfA:w.frozen? a<;>cases hfE:w.frozen? {block:=a.block,off:=kA+1}<;>
   simp[run_underlying ht,sizeOf,typeInfo,hi,h0,hnb,hnb',Go.frozen,noView,viewAt,mayBeOne,stringish,shape,Sem.run,hsA,hsB,hfb,hfe,hfA,hfE]
theorem mU {w:World} {b:Nat} {c c':Array Value} {el:TypeId} {fr:Nat×Nat} (hh:w.heap[b]? =some (.cells c el fr)) (q:Nat):(iI w b (.cells c' el fr)).frozen? ⟨b,q,none⟩=w.frozen? ⟨b,q,none⟩:=by
 unfold World.frozen?
 rw[kT (Array.getElem?_eq_some_iff.1 hh).1,hh]
theorem B4 {w:World} {b b' q:Nat} {o:Go.Obj} (h:b≠b'):(iI w b o).cell? ⟨b',q,none⟩=w.cell? ⟨b',q,none⟩:=vX (ns h)
end
open Go
noncomputable section
section
variable {P:Program} {E:Env} {w w':World} {σ σ':Sg} {st st':St E.T} {M:Nat→Prop}
structure Vx (P:Program) (f:FuncId) (TL TE TI SZ:Nat):Prop where
 ends: ∀(base:Option Addr) (n c vb voff vc:Nat),n≤c→ ∀(w:World) (y:Value) (w':World),(∀ty,(Builtin.append_ #[TL,TL] ty #[.slice base n c,.slice (some ⟨vb,voff,none⟩) 1 vc]).run P w= .ok y w')→
  Calls P f #[.slice base n c,.int .i64 n,.slice (some ⟨vb,voff,none⟩) 1 vc] w fun e w''=>e= .returned y∧w''=w'
 room: ∀(g n c i vb voff vc:Nat),i<n→n+1≤c→n+1≤2147483648→vb≠g→ ∀(w W1 W2:World) (k1 k2:Nat) (cA cB:Array Value) (tA tB:TypeId) (fA fB:Nat×Nat),
  w.heap[vb]? =some (.cells cA tA fA)→w.heap[g]? =some (.cells cB tB fB)→cA.size≠0→(∀q,w.frozen? ⟨g,q,none⟩=false)→
  (∀ty dc sc,(Builtin.copy_ #[TL,TL] ty #[.slice (some ⟨g,(i+1)*SZ,none⟩) (n-i) dc,.slice (some ⟨g,i*SZ,none⟩) (n+1-i) sc]).run P w.drew= .ok (goInt k1) W1)→
  (∀ty dc,(Builtin.copy_ #[TL,TL] ty #[.slice (some ⟨g,i*SZ,none⟩) (n+1-i) dc,.slice (some ⟨vb,voff,none⟩) 1 vc]).run P W1= .ok (goInt k2) W2)→
  Calls P f #[.slice (some ⟨g,0,none⟩) n c,.int .i64 i,.slice (some ⟨vb,voff,none⟩) 1 vc] w fun e w'=>e= .returned (.slice (some ⟨g,0,none⟩) (n+1) c)∧w'=W2
 grow: ∀(g G n c cp i vb voff vc:Nat),i<n→n≤c→c<n+1→n+1≤2147483648→n+1≤cp→ ∀(w W0 W1 W2:World) (k1 k2:Nat),
  (∀ty,(Builtin.append_ #[TL,TI] ty #[.slice (some ⟨g,0,none⟩) i c,.int .i64 ((n:Int)+1-(i:Int))]).run P w= .ok (.slice (some ⟨G,0,none⟩) (n+1) cp) W0)→
  (∀ty dc,(Builtin.copy_ #[TL,TL] ty #[.slice (some ⟨G,i*SZ,none⟩) (n+1-i) dc,.slice (some ⟨vb,voff,none⟩) 1 vc]).run P W0= .ok (goInt k1) W1)→
  (∀ty dc sc,(Builtin.copy_ #[TL,TL] ty #[.slice (some ⟨G,(i+1)*SZ,none⟩) (n-i) dc,.slice (some ⟨g,i*SZ,none⟩) (n-i) sc]).run P W1.drew= .ok (goInt k2) W2)→
  Calls P f #[.slice (some ⟨g,0,none⟩) n c,.int .i64 i,.slice (some ⟨vb,voff,none⟩) 1 vc] w fun e w'=>e= .returned (.slice (some ⟨G,0,none⟩) (n+1) cp)∧w'=W2
def Mm (E:Env) (e:Ty) (ds:List (az E.T)) (st:St E.T):Tree (iR E.T×St E.T):=
 match ds,st with
 |[.own 0,.val (.int .i64) i,.val (.slice e1) vs],[.arr .live e2 xs]=>
  match wx e1 e,wx e2 e with
  |some h1,some h2=> .ite (N.BI xs i vs) (.ret (.ret [.own 0],[.arr .live e (N.yZ (zu (T:=E.T) (congrArg Ty.slice h2.down) xs) i (zu (T:=E.T) (congrArg Ty.slice h1.down) vs))])) .fail
  |_,_=> .fail
 |_,_=> .fail
theorem OQ {α β:Type} {xs:List α} {i:Int} {vs:List β} (h:N.BI xs i vs=true):0≤i∧i≤xs.length∧vs.length=1∧xs.length+1≤dK:=by
 unfold N.BI at h
 simp only[Bool.and_eq_true,decide_eq_true_eq]at h
 exact⟨h.1,h.2.1,h.2.2.1,h.2.2.2⟩
theorem Kx {l:List Value} {a b c:List Value} (h:l=a++(b++c)): ∀(q:Nat) (u:Value),l[q]? =some u→(if q<a.length then a[q]? else if q<a.length+b.length then b[q-a.length]? else c[q-a.length-b.length]?)=some u:=by
 intro q u hq
 rw[h]at hq
 by_cases h1:q<a.length
 ·rw[if_pos h1];rwa [List.getElem?_append_left h1]at hq
 ·rw[if_neg h1]
  rw[List.getElem?_append_right (by omega)]at hq
  by_cases h2:q<a.length+b.length
  ·rw[if_pos h2];rwa [List.getElem?_append_left (by omega)]at hq
  ·rw[if_neg h2];rwa [List.getElem?_append_right (by omega)]at hq
theorem UI (HS:Sound P E) {f:FuncId} {TL TE TI:Nat} {e:Ty} (hTL:P.underlying TL=some (.slice TE)) (hTE:E.tk TE= .data e) (hTI:E.tk TI= .data (.int .i64)) (h8:e≠ .int .u8) {z0:I E.T e} (hz0:fp E depth e=some z0) (hpos:0<E.size e) (R:Vx P f TL TE TI (E.size e)):tu P E f (Mm E e):=by
 intro σ st w ds us r st' hst hds hr
 unfold Mm at hr
 split at hr
 ·rename_i i e1 vs e2 xs
  split at hr
  ·rename_i p1 p2 _ _
   cases p1 with|up p1=>
   cases p2 with|up p2=>
   have p1':=p1.symm
   have p2':=p2.symm
   subst p1'
   subst p2'
   obtain⟨hok,hr⟩:N.BI xs i vs=true∧(Tree.ret (iR.ret [az.own 0],[Obj.arr RM.live e (N.yZ xs i vs)]):Tree (iR E.T×St E.T)).get=some (r,st'):=by
    have hr':(bif N.BI xs i vs then(Tree.ret (iR.ret [az.own 0],[Obj.arr RM.live e (N.yZ xs i vs)]):Tree (iR E.T×St E.T)).get else none)=some (r,st'):=hr
    cases hb:N.BI xs i vs with
    |true=>rw[hb]at hr';exact⟨rfl,hr'⟩
    |false=>rw[hb]at hr';cases hr'
   cases hr
   obtain⟨hi0,hi1,hv1,hlim⟩:=OQ hok
   obtain⟨ti,hti,hsz,hby,hz⟩:=(HS.data _ _ hTE).info
   cases hds with
   |cons _ _ u0 _ hd0 hds=>
   cases hds with
   |cons _ _ u1 _ hd1 hds=>
   cases hds with
   |cons _ _ u2 _ hd2 hds=>
   cases hds
   have hu0:=uQ hd0
   have hu1:=jd hd1
   obtain⟨va,vc,news,hu2,hln,hmn,hvl,hvc⟩:=Bf hd2
   subst hu0 hu1 hu2
   rw[hv1]at hvc⊢
   rcases hmn with h|⟨vb,voff,rfl,hvM,hvlt,hvcell⟩
   ·rw[h]at hv1;cases hv1
   obtain⟨k,rfl⟩: ∃k:Nat,i=(k:Int):=⟨Int.toNat i,(Int.toNat_of_nonneg hi0).symm⟩
   have hk:k≤xs.length:=Int.ofNat_le.1 hi1
   have hob:=hst.obj 0 _ rfl
   have hno: ∀p ob,aR [Obj.arr RM.live e xs] p=some ob→0∉cd E ob:=by
    intro p ob hp
    cases p with
    |zero=>cases hp;simp[cd]
    |succ p=>cases hp
   have hnl:=bD.len HS.todk hln
   rw[hv1,Nat.one_mul]at hnl
   have hone: ∀u∈news,kV u=true:=bD.one hln
   have hil:(N.yZ xs (k:Int) vs).length=xs.length+1:=by
    unfold N.yZ
    simp only[List.length_append,List.length_take,List.length_drop,Int.toNat_natCast]
    rw[hv1];omega
   have fin: ∀(y:Value) (w':World),w'.os=w.os→w'.tape=w.tape→w'.output=w.output→w.heap.size≤w'.heap.size→(∀b,b<w.heap.size→lf (σ 0)≠some b→w'.heap[b]? =w.heap[b]?)→
     (∀b,lf y=some b→w.heap.size≤b∨lf (σ 0)=some b)→(∀M',Kept (MB σ [Obj.arr RM.live e xs]) M' w w'→gy E w' M' e (N.yZ xs (k:Int) vs) y)→
     GQ E σ [Obj.arr RM.live e xs] [Obj.arr RM.live e (N.yZ xs (k:Int) vs)] w (.ret [.own 0]) (.returned y) w':=by
    intro y w' q1 q2 q3 q4 q5 q6 q7
    have m:=Gs.swap hst (o:=0) rfl hno y q1 q2 q3 q4 q5 q6 (q7 _)
    refine⟨_,m.f,?_⟩
    have hv:=aZ.data _ _ _ (VT.own (E:=E) (σ:=dL σ 0 y) (st:=[Obj.arr RM.live e (N.yZ xs (k:Int) vs)]) (w:=w') (M:=MB (dL σ 0 y) [Obj.arr RM.live e (N.yZ xs (k:Int) vs)]) 0 .live e (N.yZ xs (k:Int) vs) rfl)
    rw[dD]at hv
    exact hv
   have hsrc:Ec P ti (toV e (dV E depth e)) TL (.slice (some ⟨vb,voff,none⟩) 1 vc) 1 news w:= .src (Src.ofSlice w hTL ⟨vb,voff,none⟩ 1 vc news (by rw[hsz,hnl,Nat.one_mul]) (fun j v hv=>by rw[dP];exact hvcell j v hv) (fun u hu=>by rw[←Ix];exact hone u hu))
   have hinsE:k=xs.length→N.yZ xs (k:Int) vs=xs++vs:=by
    intro h
    unfold N.yZ
    rw[Int.toNat_natCast,h,List.take_length,List.drop_length,List.append_nil]
   generalize hσ:σ 0=s at*
   cases hob with
   |arr _ _ _ _ hown=>
   rcases hown.2 with⟨⟨a,rfl⟩,rfl⟩|⟨g,cap,c,el,fr,olds,rfl,hcap,hh,hcz,hfz,hlo,hq,hord⟩
   ·
    obtain rfl:k=0:=by simpa using hk
    have hold:(Builtin.firstCells ti.size 0 (.slice a 0 0)).run P w.drew= .ok ([]:List Value).toArray w.drew:=by
     cases a<;>simp[Builtin.firstCells,loadCells,loadCellsFrom]
    have hrun:=fun ty=>yr (P:=P) TL ty TE hTL hti hz hby a hold hsrc (by omega) (by omega)
    have hge:=tQ w (0+1) 0 TE
    generalize grownCap w (0+1) 0 TE=cp at*
    refine Calls.mono (R.ends a 0 0 vb voff vc (Nat.le_refl _) w _ _ hrun) (fun e w' hb=> ?_)
    obtain⟨rfl,rfl⟩:=hb
    refine fin _ _ rfl rfl rfl (by simp) (fun b hb _=> ?_) (fun b hb=> .inl (by rw[jZ hb];exact Nat.le_refl _)) (fun M' hk=> ?_)
    ·show(w.heap.push _)[b]? =w.heap[b]?
     simp[Array.getElem?_push,Nat.ne_of_lt hb]
    ·rw[hinsE rfl]
     exact yJ HS hTE hst (bD.append (.nil _) (bD.aH hk hln)) (by simp;omega) (by simp[hv1];omega) (by simpa [hv1]using heap_alloc_new w.drew _) (fun q=>mw (w:=w.drew) q) (by simp[hv1])
   ·have hfr: ∀q,w.frozen? ⟨g,q,none⟩=false:=fun q=>hfz q (fun h=>absurd h h8)
    have hll:=bD.len HS.todk hlo
    have hgM:MB σ [Obj.arr RM.live e xs] g:= .inr ⟨0,_,rfl,rfl,by rw[hσ];rfl⟩
    have hvg:vb≠g:=fun h=>hvM (h▸hgM)
    have hglt:=(Array.getElem?_eq_some_iff.1 hh).1
    have holds: ∀j v,olds[j]? =some v→w.cell? ⟨g,j,none⟩=some v:=fun j v hv=>by simp[World.cell?,hh,hq j v hv]
    obtain⟨o1,o2,hoe,hl1,hl2⟩:=bD.cutAt HS.todk hlo k hk
    have hlo1:o1.length=k*E.size e:=by rw[bD.len HS.todk hl1,List.length_take,Nat.min_eq_left hk]
    have hlo2:o2.length=(xs.length-k)*E.size e:=by rw[bD.len HS.todk hl2,List.length_drop]
    have hone2: ∀u∈o2,kV u=true:=bD.one hl2
    have ho1: ∀j v,o1[j]? =some v→w.cell? ⟨g,j,none⟩=some v:=fun j v hv=>holds j v (by rw[hoe,List.getElem?_append_left (List.getElem?_eq_some_iff.1 hv).1];exact hv)
    have ho2: ∀j v,o2[j]? =some v→w.cell? ⟨g,k*E.size e+j,none⟩=some v:=fun j v hv=>holds _ v (by rw[hoe,List.getElem?_append_right (by omega),hlo1,Nat.add_sub_cancel_left];exact hv)
    have hLR: ∀(M':Nat→Prop) (w':World),Kept (MB σ [Obj.arr RM.live e xs]) M' w w'→bD E w' M' e (N.yZ xs (k:Int) vs) (o1++(news++o2)):=by
     intro M' w' hk'
     unfold N.yZ
     rw[Int.toNat_natCast,←List.append_assoc,List.append_assoc,List.append_assoc]
     exact bD.append (bD.aH hk' hl1) (bD.append (bD.aH hk' hln) (bD.aH hk' hl2))
    have hsum:k*E.size e+E.size e+(xs.length-k)*E.size e=(xs.length+1)*E.size e:=by
     rw[←Nat.succ_mul,←Nat.add_mul];congr 1;omega
    by_cases hend:k=xs.length
    ·
     subst hend
     have hold:(Builtin.firstCells ti.size xs.length (.slice (some ⟨g,0,none⟩) xs.length (cap+1))).run P w.drew= .ok olds.toArray w.drew:=
      run_firstCells_some (P:=P) w.drew ti.size xs.length _ xs.length (cap+1) olds (by rw[hll,hsz]) (fun j v hv=>by
       rw[dP,Nat.zero_add]
       exact holds j v hv)
     by_cases hroom:xs.length+1≤cap+1
     ·have hcz2:(xs.length+1)*E.size e≤c.size:=Nat.le_trans (Nat.mul_le_mul_right _ hroom) hcz
      rw[Nat.add_mul,Nat.one_mul]at hcz2
      have hrun:=fun ty=>Lj (P:=P) TL ty TE hTL hti hsrc hroom hh (off:=0) (by rw[hsz,hnl];omega) (fun q _ _=>hfr q)
      refine Calls.mono (R.ends (some ⟨g,0,none⟩) xs.length (cap+1) vb voff vc hcap w _ _ hrun) (fun e' w' hb=> ?_)
      obtain⟨rfl,rfl⟩:=hb
      refine fin _ _ rfl rfl rfl (by rw[iH];exact Nat.le_refl _) (fun b _ hne=>ns (fun h=>hne (by rw[h];rfl))) (fun b hb=> .inr (by rw[jZ hb];rfl)) (fun M' hk'=> ?_)
      rw[hinsE rfl]
      refine gy.mk' E _ _ (by rw[List.length_append,hv1];exact hlim) (by rw[List.length_append,hv1];exact hroom) (kT hglt) (by rw[gD];exact hcz) (fun q _=>by rw[mU hh];exact hfr q) (bD.append (bD.aH hk' hlo) (bD.aH hk' hln)) (fun q v hv=> ?_) (by rw[List.length_append,hv1])
      rw[hsz,Nat.zero_add,qk _ _ _ _ (by rw[hnl];omega)]
      by_cases hql:q<olds.length
      ·rw[if_neg (by omega)]
       rw[List.getElem?_append_left hql]at hv
       exact hq q v hv
      ·rw[List.getElem?_append_right (by omega)]at hv
       have:=(List.getElem?_eq_some_iff.1 hv).1
       rw[if_pos (by omega),←hll];exact hv
     ·have hrun:=fun ty=>yr (P:=P) TL ty TE hTL hti hz hby _ hold hsrc (by omega) hlim
      have hge:=tQ w (xs.length+1) (cap+1) TE
      generalize grownCap w (xs.length+1) (cap+1) TE=cp at*
      refine Calls.mono (R.ends (some ⟨g,0,none⟩) xs.length (cap+1) vb voff vc hcap w _ _ hrun) (fun e' w' hb=> ?_)
      obtain⟨rfl,rfl⟩:=hb
      refine fin _ _ rfl rfl rfl (by simp) (fun b hb _=> ?_) (fun b hb=> .inl (by rw[jZ hb];exact Nat.le_refl _)) (fun M' hk'=> ?_)
      ·show(w.heap.push _)[b]? =w.heap[b]?
       simp[Array.getElem?_push,Nat.ne_of_lt hb]
      ·rw[hinsE rfl]
       have hlen:(xs++vs).length=xs.length+1:=by rw[List.length_append,hv1]
       exact yJ HS hTE hst (bD.append (bD.aH hk' hlo) (bD.aH hk' hln)) (by rw[hlen];exact hlim) (by rw[hlen];exact hge) (by rw[hlen];exact heap_alloc_new w.drew _) (fun q=>mw (w:=w.drew) q) hlen.symm
    ·have hkn:k<xs.length:=by omega
     have hone: ∀u∈news,kV u=true:=bD.one hln
     have hcA: ∃cA tA fA,w.heap[vb]? =some (.cells cA tA fA)∧cA.size≠0:=by
      have h0:0<news.length:=by rw[hnl];exact hpos
      have:=hvcell 0 news[0] (List.getElem?_eq_getElem h0)
      unfold World.cell? at this
      split at this
      ·rename_i cA tA fA hhA
       have:=(Array.getElem?_eq_some_iff.1 this).1
       exact⟨cA,tA,fA,hhA,by omega⟩
      ·cases this
     obtain⟨cA,tA,fA,hhA,hA0⟩:=hcA
     by_cases hroom:xs.length+1≤cap+1
     ·
      ·have hcz2:(xs.length+1)*E.size e≤c.size:=Nat.le_trans (Nat.mul_le_mul_right _ hroom) hcz
       have hk1:(k+1)*E.size e=k*E.size e+E.size e:=Nat.succ_mul _ _
       have hcp1: ∀ty dc sc,(Builtin.copy_ #[TL,TL] ty #[.slice (some ⟨g,(k+1)*E.size e,none⟩) (xs.length-k) dc,.slice (some ⟨g,k*E.size e,none⟩) (xs.length+1-k) sc]).run P w.drew= .ok (goInt ((xs.length-k:Nat):Int)) (iI w.drew g (.cells (qa c ((k+1)*E.size e) o2) el fr)):=fun ty dc sc=>
        yD w.drew TL TL ty TE ti hTL hti hh o2 (m:=xs.length-k) (by simp only[Nat.min_def];split<;>omega) (by rw[hlo2,hsz]) (fun j v hv=>by rw[dP];exact ho2 j v hv) (by rw[hlo2,hk1];omega) hfr hone2
       have hh1:(iI w.drew g (.cells (qa c ((k+1)*E.size e) o2) el fr)).heap[g]? =some (.cells (qa c ((k+1)*E.size e) o2) el fr):=kT hglt
       have hcp2: ∀ty dc,(Builtin.copy_ #[TL,TL] ty #[.slice (some ⟨g,k*E.size e,none⟩) (xs.length+1-k) dc,.slice (some ⟨vb,voff,none⟩) 1 vc]).run P (iI w.drew g (.cells (qa c ((k+1)*E.size e) o2) el fr))= .ok (goInt ((1:Nat):Int)) (iI (iI w.drew g (.cells (qa c ((k+1)*E.size e) o2) el fr)) g (.cells (qa (qa c ((k+1)*E.size e) o2) (k*E.size e) news) el fr)):=fun ty dc=>
        yD _ TL TL ty TE ti hTL hti hh1 news (m:=1) (by simp only[Nat.min_def];split<;>omega) (by rw[hnl,hsz,Nat.one_mul]) (fun j v hv=>by rw[dP,B4 (fun h=>hvg h.symm)];exact hvcell j v hv) (by rw[gD,hnl];omega) (fun q=>by rw[mU (w:=w.drew) hh];exact hfr q) hone
       refine Calls.mono (R.room g xs.length (cap+1) k vb voff vc hkn hroom hlim hvg w _ _ _ _ cA c tA el fA fr hhA hh hA0 hfr hcp1 hcp2) (fun e' w' hb=> ?_)
       obtain⟨rfl,rfl⟩:=hb
       refine fin _ _ rfl rfl rfl (by rw[iH,iH];exact Nat.le_refl _) (fun b _ hne=>by
        have hbg:g≠b:=fun h=>hne (by rw[h];rfl)
        rw[ns hbg,ns hbg];rfl) (fun b hb=> .inr (by rw[jZ hb];rfl)) (fun M' hk'=> ?_)
       refine gy.mk' E _ _ (by rw[hil];exact hlim) (by rw[hil];exact hroom) (kT (by rw[iH];exact hglt)) (by rw[gD,gD];exact hcz) (fun q _=>by rw[mU hh1,mU (w:=w.drew) hh];exact hfr q) (hLR M' _ hk') (fun q v hv=> ?_) hil.symm
       have hp:=Kx rfl q v hv
       rw[hlo1,hnl]at hp
       have hql:q<(xs.length+1)*E.size e:=by
        have:=(List.getElem?_eq_some_iff.1 hv).1
        rw[List.length_append,List.length_append,hlo1,hlo2,hnl]at this
        omega
       rw[qk _ _ _ _ (by rw[gD,hnl];omega),qk _ _ _ _ (by rw[hlo2,hk1];omega),hnl,hlo2,hk1]
       by_cases c1:q<k*E.size e
       ·rw[if_pos c1]at hp
        rw[if_neg (by omega),if_neg (by omega)]
        exact hq q v (by rw[hoe,List.getElem?_append_left (by omega)];exact hp)
       ·rw[if_neg c1]at hp
        by_cases c2:q<k*E.size e+E.size e
        ·rw[if_pos c2]at hp
         rw[if_pos (by omega)]
         exact hp
        ·rw[if_neg c2]at hp
         rw[if_neg (by omega),if_pos (by omega),show q-(k*E.size e+E.size e)=q-k*E.size e-E.size e by omega]
         exact hp
     ·
      have hnx: ¬(xs.length+1≤cap+1):=hroom
      obtain⟨ys,cz,hyz,hlz,hsz0⟩:=yq HS hst (tx:=TI) hTE hti (x:= .val (.int .i64) ((xs.length+1-k:Nat):Int)) (u:= .int .i64 ((xs.length+1-k:Nat):Int)) (k:=fun ys=> .ret (.val (.slice e) ys,[])) (r:=(.val (.slice e) (List.replicate (xs.length+1-k) z0),[])) (by
       unfold appended
       rw[show isNum E TI=true by unfold isNum;rw[hTI]]
       simp only[Tree.cR]
       rw[hz0]
       show(bif decide (0≤((xs.length+1-k:Nat):Int))&&decide (((xs.length+1-k:Nat):Int)≤dK)then some _ else none)=some _
       rw[decide_eq_true (by omega),decide_eq_true (by have:xs.length+1≤dK:=hlim;omega)]
       rfl) (.data _ _ _ (.val _ _ _ (.int .i64 _)))
      have hys:ys.length=xs.length+1-k:=by
       have h2:(az.val (T:=E.T) (.slice e) ys,([]:St E.T))=(.val (.slice e) (List.replicate (xs.length+1-k) z0),[]):=Option.some.inj hyz
       have h3:=congrArg Prod.fst h2
       injection h3 with _ h4
       rw[show ys=List.replicate (xs.length+1-k) z0 from h4,List.length_replicate]
      rw[hys]at hsz0
      have hczl:cz.length=(xs.length+1-k)*E.size e:=by rw[bD.len HS.todk hlz,hys]
      have hold1:(Builtin.firstCells ti.size k (.slice (some ⟨g,0,none⟩) k (cap+1))).run P w.drew= .ok o1.toArray w.drew:=
       run_firstCells_some (P:=P) w.drew ti.size k _ k (cap+1) o1 (by rw[hlo1,hsz]) (fun j v hv=>by
        rw[dP,Nat.zero_add]
        exact ho1 j v hv)
      have hkk:k+(xs.length+1-k)=xs.length+1:=by omega
      have hap:=fun ty=>yr (P:=P) TL ty TE hTL hti hz hby (some ⟨g,0,none⟩) hold1 hsz0 (by omega) (by rw[hkk];exact hlim)
      rw[hkk,show((xs.length+1-k:Nat):Int)=(xs.length:Int)+1-(k:Int)by omega]at hap
      have hge:=tQ w (xs.length+1) (cap+1) TE
      generalize grownCap w (xs.length+1) (cap+1) TE=cp at*
      have hzc:=iS HS hTE hst
      have hzsz:(dV E depth e).length=E.size e:=VT.len HS.todk (mZ (σ:=σ) (st:=[Obj.arr RM.live e xs]) (w:=w) (M:=MB σ [Obj.arr RM.live e xs]) HS.todk depth e (HS.data _ _ hTE).deep)
      obtain⟨C0,hC0⟩: ∃C0,(o1++cz).toArray++Builtin.zeroCells (toV e (dV E depth e)).cells (cp-(xs.length+1))=C0:=⟨_,rfl⟩
      have hC0s:C0.size=cp*E.size e:=by
       rw[←hC0,Array.size_append,size_zeroCells,hzc,List.size_toArray,List.size_toArray,List.length_append,hlo1,hczl,hzsz,←Nat.add_mul,hkk,←Nat.add_mul]
       congr 1;omega
      have hC0o: ∀(q:Nat) (v:Value),o1[q]? =some v→C0[q]? =some v:=by
       intro q v hv
       have hql:=(List.getElem?_eq_some_iff.1 hv).1
       rw[←hC0,Array.getElem?_append_left (by simp;omega)]
       simp only[List.getElem?_toArray]
       rw[List.getElem?_append_left hql];exact hv
      rw[hC0]at hap
      have hN:(w.drew.alloc (.cells C0 TE)).heap[w.heap.size]? =some (.cells C0 TE (0,0)):=heap_alloc_new w.drew _
      have hNf: ∀q,(w.drew.alloc (.cells C0 TE)).frozen? ⟨w.heap.size,q,none⟩=false:=fun q=>mw (w:=w.drew) q
      have hNlt:w.heap.size<(w.drew.alloc (.cells C0 TE)).heap.size:=(Array.getElem?_eq_some_iff.1 hN).1
      have hold2: ∀b q,b<w.heap.size→(w.drew.alloc (.cells C0 TE)).cell? ⟨b,q,none⟩=w.cell? ⟨b,q,none⟩:=fun b q hb=>vX (by
       show(w.heap.push _)[b]? =w.heap[b]?
       simp[Array.getElem?_push,Nat.ne_of_lt hb])
      have hcz3:(xs.length+1)*E.size e≤cp*E.size e:=Nat.mul_le_mul_right _ hge
      have hk1:(k+1)*E.size e=k*E.size e+E.size e:=Nat.succ_mul _ _
      have hcpA: ∀ty dc,(Builtin.copy_ #[TL,TL] ty #[.slice (some ⟨w.heap.size,k*E.size e,none⟩) (xs.length+1-k) dc,.slice (some ⟨vb,voff,none⟩) 1 vc]).run P (w.drew.alloc (.cells C0 TE))= .ok (goInt ((1:Nat):Int)) (iI (w.drew.alloc (.cells C0 TE)) w.heap.size (.cells (qa C0 (k*E.size e) news) TE (0,0))):=fun ty dc=>
       yD _ TL TL ty TE ti hTL hti hN news (m:=1) (by simp only[Nat.min_def];split<;>omega) (by rw[hnl,hsz,Nat.one_mul]) (fun j v hv=>by rw[dP,hold2 _ _ hvlt];exact hvcell j v hv) (by rw[hC0s,hnl];omega) hNf hone
      have hN1:(iI (w.drew.alloc (.cells C0 TE)) w.heap.size (.cells (qa C0 (k*E.size e) news) TE (0,0))).drew.heap[w.heap.size]? =some (.cells (qa C0 (k*E.size e) news) TE (0,0)):=kT hNlt
      have hcpB: ∀ty dc sc,(Builtin.copy_ #[TL,TL] ty #[.slice (some ⟨w.heap.size,(k+1)*E.size e,none⟩) (xs.length-k) dc,.slice (some ⟨g,k*E.size e,none⟩) (xs.length-k) sc]).run P (iI (w.drew.alloc (.cells C0 TE)) w.heap.size (.cells (qa C0 (k*E.size e) news) TE (0,0))).drew= .ok (goInt ((xs.length-k:Nat):Int)) (iI (iI (w.drew.alloc (.cells C0 TE)) w.heap.size (.cells (qa C0 (k*E.size e) news) TE (0,0))).drew w.heap.size (.cells (qa (qa C0 (k*E.size e) news) ((k+1)*E.size e) o2) TE (0,0))):=fun ty dc sc=>
       yD _ TL TL ty TE ti hTL hti hN1 o2 (m:=xs.length-k) (by simp only[Nat.min_def];split<;>omega) (by rw[hlo2,hsz]) (fun j v hv=>by
        rw[dP]
        have:(iI (w.drew.alloc (.cells C0 TE)) w.heap.size (.cells (qa C0 (k*E.size e) news) TE (0,0))).drew.cell? ⟨g,k*E.size e+j,none⟩=(w.drew.alloc (.cells C0 TE)).cell? ⟨g,k*E.size e+j,none⟩:=B4 (Nat.ne_of_gt hglt)
        rw[this,hold2 _ _ hglt]
        exact ho2 j v hv) (by rw[gD,hC0s,hlo2,hk1];omega) (fun q=>by
        have:(iI (w.drew.alloc (.cells C0 TE)) w.heap.size (.cells (qa C0 (k*E.size e) news) TE (0,0))).drew.frozen? ⟨w.heap.size,q,none⟩=(w.drew.alloc (.cells C0 TE)).frozen? ⟨w.heap.size,q,none⟩:=mU hN q
        rw[this];exact hNf q) hone2
      refine Calls.mono (R.grow g w.heap.size xs.length (cap+1) cp k vb voff vc hkn hcap (by omega) hlim hge w _ _ _ _ _ hap hcpA hcpB) (fun e' w' hb=> ?_)
      obtain⟨rfl,rfl⟩:=hb
      refine fin _ _ rfl rfl rfl (by rw[iH];show _≤(iI _ _ _).heap.size;rw[iH];simp) (fun b hb _=> ?_) (fun b hb=> .inl (by rw[jZ hb];exact Nat.le_refl _)) (fun M' hk'=> ?_)
      ·have hbn:w.heap.size≠b:=Nat.ne_of_gt hb
       rw[ns hbn]
       show(iI _ _ _).heap[b]? =_
       rw[ns hbn]
       show(w.heap.push _)[b]? =w.heap[b]?
       simp[Array.getElem?_push,Nat.ne_of_lt hb]
      ·have hh3:(iI (iI (w.drew.alloc (.cells C0 TE)) w.heap.size (.cells (qa C0 (k*E.size e) news) TE (0,0))).drew w.heap.size (.cells (qa (qa C0 (k*E.size e) news) ((k+1)*E.size e) o2) TE (0,0))).heap[w.heap.size]? =some (.cells (qa (qa C0 (k*E.size e) news) ((k+1)*E.size e) o2) TE (0,0)):=kT (Array.getElem?_eq_some_iff.1 hN1).1
       refine gy.mk' E _ _ (by rw[hil];exact hlim) (by rw[hil];exact hge) hh3 (by rw[gD,gD,hC0s];exact Nat.le_refl _) (fun q _=> ?_) (hLR M' _ hk') (fun q v hv=> ?_) hil.symm
       ·unfold World.frozen?
        rw[hh3]
        simp
       ·have hp:=Kx rfl q v hv
        rw[hlo1,hnl]at hp
        have hql:q<(xs.length+1)*E.size e:=by
         have:=(List.getElem?_eq_some_iff.1 hv).1
         rw[List.length_append,List.length_append,hlo1,hlo2,hnl]at this
         omega
        rw[qk _ _ _ _ (by rw[gD,hC0s,hlo2,hk1];omega),qk _ _ _ _ (by rw[hC0s,hnl];omega),hnl,hlo2,hk1]
        by_cases c1:q<k*E.size e
        ·rw[if_pos c1]at hp
         rw[if_neg (by omega),if_neg (by omega)]
         exact hC0o q v hp
        ·rw[if_neg c1]at hp
         by_cases c2:q<k*E.size e+E.size e
         ·rw[if_pos c2]at hp
          rw[if_neg (by omega),if_pos (by omega)]
          exact hp
         ·rw[if_neg c2]at hp
          rw[if_pos (by omega),show q-(k*E.size e+E.size e)=q-k*E.size e-E.size e by omega]
          exact hp
  ·cases hr
 ·cases hr
end
end
open Go
noncomputable section
def M3 (P:Program) (fn:Func) (m TL SZ:Nat):Prop:=
 ∀(a:Act) (w w':World) (g nn cap i:Nat) (R:Ending→World→Prop),a.defers=[]→a.tmps.size=fn.ntmps→a.tmps[0]? =some (.slice (some ⟨g,0,none⟩) nn cap)→a.tmps[5]? =some (.int .i64 (i:Int))→i<nn→nn≤cap→
  (∀ty cc,(Builtin.clear_ #[TL] ty #[.slice (some ⟨g,i*SZ,none⟩) (nn-i) cc]).run P w= .ok (.tuple #[]) w')→R (.returned (.slice (some ⟨g,0,none⟩) i cap)) w'→(kP m (tr fn)).wp P (bodyPostD P fn R) a w
section
variable {P:Program} {E:Env} {w w':World} {σ σ':Sg} {st st':St E.T} {M:Nat→Prop}
def Q9 (E:Env) (e:Ty) (fr:Fr E.T) (st:St E.T):Tree (iR E.T×St E.T):=
 match nth fr.s 0 .undef,nth fr.s 5 .undef with
 | .own k,.val (.int .i64) i=>match aR st k with
  |some (.arr .live e' xs)=>match wx e' e with
   |some h=> .ite (N.cN i xs.length) (.ret (.ret [.own k],df (st.map (bT E st [k])) k (.arr .live e (N.eo (zu (T:=E.T) (congrArg Ty.slice h.down) xs) 0 i)))) .fail
   |none=> .fail
  |_=> .fail
 |_,_=> .fail
def FW (E:Env) (S:FuncId→Option (Spec E)) (L:Nat→cY E) (m:Nat) (e:Ty) (fn:Func) (args:List (az E.T)) (st:St E.T):Tree (iR E.T×St E.T):=
 match fn.body with
 |some c=>(gi E S L 0 0 (Bh m c) (frame E fn args) st).bind fun p=>match p.1,p.2.1.d with
  | .normal,[]=>Tree.cR (Nat.beq p.2.1.s.length fn.ntmps) (Q9 E e p.2.1 p.2.2)
  | .ret,_=>leave E (fun _=>none) true st.length fn p.2.1 p.2.2 none
  |_,_=> .fail
 |none=> .fail
theorem C2 (HS:Sound P E) (hmix:P.follows .mixedOrders=true) {S:List (Nat×Spec E)} (hS:Gx P E S) {L:Nat→cY E} {m TL TE:Nat} {e:Ty} {f:FuncId} {fn:Func} {c:Code} (hf:P.funcs[f]? =some fn) (hb:fn.body=some c) (hs:Nc m c=true)
  (h: ∀k g,(L k).closed=some g→ ∀fr st out,(g fr st).get=some out→ ∃m fr',(qf E (stepOf E S L 0 k fn) (L k).aH (L k).ik st.length m fr st).get=some (out.1,fr',out.2.2)∧De out.2.1 fr')
  (hTL:P.underlying TL=some (.slice TE)) (hTE:E.tk TE= .data e) (h8:e≠ .int .u8) (ht:M3 P fn m TL (E.size e)):tu P E f (FW E (jX S) L m e fn):=by
 have hL:fj (jX S) L 0 0 c:=jc c 0 fun k cb hk f' hf'=>by
  rw[Nat.zero_add]at hf'⊢
  have:=h k f' hf'
  unfold stepOf at this
  rw[hb]at this
  simp only[hk]at this
  exact this
 intro σ st w ds us r st' hst hds hr
 unfold FW at hr
 rw[hb]at hr
 simp only at hr
 obtain⟨⟨x,fr,st1⟩,h1,h2⟩:=Tree.aB hr
 refine calls_of_wp_defers hf hb ?_
 refine FL HS hmix (Gb HS (xx hS)) m c 0 hs hL hst (xT hds) h1 (fun σ' w' a' x m' hfr hx=> ?_)
 simp only at h2 hfr m'
 split at h2
 ·rename_i hd
  cases hx
  obtain⟨hn,h2⟩:=Tree.aO h2
  have hdd:=hfr.d
  rw[hd]at hdd
  have hdef:a'.defers=[]:=by generalize a'.defers=dd at hdd;cases hdd;rfl
  have hsz:a'.tmps.size=fn.ntmps:=by
   have:=aW.length hfr.s
   rw[Array.length_toList]at this
   rw[←this];exact Nat.eq_of_beq_eq_true hn
  unfold Q9 at h2
  split at h2
  ·rename_i k i hk hi5
   split at h2
   ·rename_i e' xs hkx
    split at h2
    ·rename_i p _
     cases p with|up p=>
     have p':=p.symm
     subst p'
     obtain⟨hin,h2⟩:N.cN i xs.length=true∧(Tree.ret (iR.ret [az.own k],df (st1.map (bT E st1 [k])) k (.arr .live e (N.eo xs 0 i))):Tree (iR E.T×St E.T)).get=some (r,st'):=by
      have h2':(bif N.cN i xs.length then(Tree.ret (iR.ret [az.own k],df (st1.map (bT E st1 [k])) k (.arr .live e (N.eo xs 0 i))):Tree (iR E.T×St E.T)).get else none)=some (r,st'):=h2
      cases hc:N.cN i xs.length with
      |true=>rw[hc]at h2';exact⟨rfl,h2'⟩
      |false=>rw[hc]at h2';cases h2'
     cases h2
     unfold N.cN at hin
     simp only[Bool.and_eq_true,decide_eq_true_eq]at hin
     obtain⟨hi0,hi1⟩:=hin
     obtain⟨q,rfl⟩: ∃q:Nat,i=(q:Int):=⟨Int.toNat i,(Int.toNat_of_nonneg hi0).symm⟩
     have hqn:q<xs.length:=Int.ofNat_lt.1 hi1
     obtain⟨u0,hu0,hr0⟩:=aW.get hfr.s (t:=0) (v:= .own k) (by
      rw[cT,←hk,ko,List.getD_eq_getElem?_getD]
      cases hg:fr.s[0]? with
      |none=>rw[ko,List.getD_eq_getElem?_getD,hg]at hk;cases hk
      |some v=>rfl)
     obtain⟨u5,hu5,hr5⟩:=aW.get hfr.s (t:=5) (v:= .val (.int .i64) ((q:Nat):Int)) (by
      rw[cT,←hi5,ko,List.getD_eq_getElem?_getD]
      cases hg:fr.s[5]? with
      |none=>rw[ko,List.getD_eq_getElem?_getD,hg]at hi5;cases hi5
      |some v=>rfl)
     have hu0':=uQ hr0
     have hu5':=jd hr5
     subst hu0' hu5'
     have m0:=Mv.kill m'.rep [k]
     have ho1:aR (st1.map (bT E st1 [k])) k=some (.arr .live e xs):=by rw[dx,hkx];rfl
     have hno: ∀p ob,aR (st1.map (bT E st1 [k])) p=some ob→k∉cd E ob:=by
      intro p ob hp
      rw[dx]at hp
      obtain⟨q0,_,rfl⟩:=Option.map_eq_some_iff.1 hp
      cases q0 with
      |box ro c=>intro hk;exact(qA [k] c k hk).2 (by simp)
      |arr l e zs=>simp[bT,cd]
      |dead=>simp[bT,cd]
     have hob:=m0.rep.obj k _ ho1
     generalize hst1:st1.map (bT E st1 [k])=s1 at*
     have ho1':=ho1
     generalize hσ:σ' k=s at*
     cases hob with
     |arr _ _ _ _ hown=>
     rcases hown.2 with⟨_,h0⟩|⟨g,cap,cc,el,Y9,olds,rfl,hcap,hh,hcz,hfz,hlo,hq,hord⟩
     ·rw[h0]at hqn;cases hqn
     ·obtain⟨ti,hti,hszE,hby,hz⟩:=(HS.data _ _ hTE).info
      have hfr': ∀q,w'.frozen? ⟨g,q,none⟩=false:=fun q=>hfz q (fun h=>absurd h h8)
      have hll:=bD.len HS.todk hlo
      have hglt:=(Array.getElem?_eq_some_iff.1 hh).1
      obtain⟨o1,o2,hoe,hl1,hl2⟩:=bD.cutAt HS.todk hlo q (Nat.le_of_lt hqn)
      have hlo1:o1.length=q*E.size e:=by rw[bD.len HS.todk hl1,List.length_take,Nat.min_eq_left (Nat.le_of_lt hqn)]
      have hzc:=iS HS hTE hst
      have hdeep:=(HS.data _ _ hTE).deep
      have hzv:=mZ (σ:=σ') (st:=s1) (w:=w') (M:=MB σ' s1) HS.todk depth e hdeep
      have hzsz:(dV E depth e).length=E.size e:=VT.len HS.todk hzv
      obtain⟨zs,hzs⟩: ∃zs:List Value,Builtin.zeroCells (toV e (dV E depth e)).cells (xs.length-q)=zs.toArray:=⟨_,(Array.toArray_toList).symm⟩
      have hzl:zs.length=(xs.length-q)*E.size e:=by
       have:=congrArg Array.size hzs
       rw[size_zeroCells,hzc,List.size_toArray,List.size_toArray,hzsz]at this
       exact this.symm
      have hzone: ∀v∈zs,kV v=true:=by
       intro v hv
       have hmem:v∈Builtin.zeroCells (toV e (dV E depth e)).cells (xs.length-q):=by rw[hzs];simpa using hv
       rw[hzc]at hmem
       unfold Builtin.zeroCells at hmem
       have h1: ∀v∈dV E depth e,kV v=true:=fun v hv=>VT.one m0.rep hzv v hv
       simp only[Array.mem_map]at hmem
       obtain⟨j,hj,rfl⟩:=hmem
       simp only[Array.mem_range,List.size_toArray]at hj
       have hpos:0<(dV E depth e).length:=Nat.pos_of_ne_zero (fun h0=>by rw[h0]at hj;simp at hj)
       apply h1
       have hlt:j%(dV E depth e).length<(dV E depth e).length:=Nat.mod_lt _ hpos
       simp[hlt]
      have hfit:q*E.size e+zs.length≤cc.size:=by
       rw[hzl,←Nat.add_mul]
       exact Nat.le_trans (Nat.mul_le_mul_right _ (by omega)) hcz
      have hrun:=fun ty ccap=>LQ (P:=P) w' TL ty TE ti _ hTL hti hz (o:=q*E.size e) (n:=xs.length-q) (cap:=ccap) hh zs hzs hfit (fun j _ _=>hfr' j) hzone (fun h0=>by omega)
      have hcut:N.eo xs 0 ((q:Nat):Int)=xs.take q:=by unfold N.eo;simp
      have hgo:c=tr fn:=by unfold tr;rw[hb]
      show Code.wp P (kP m c) (bodyPostD P fn _) a' w'
      rw[hgo]
      refine ht a' w' _ g xs.length (cap+1) q _ hdef hsz (by rw[←Array.getElem?_toList];exact hu0) (by rw[←Array.getElem?_toList];exact hu5) hqn hcap hrun ?_
      have mx:=Gs.swap m0.rep (o:=k) (xs':=N.eo xs 0 ((q:Nat):Int)) ho1 hno (.slice (some ⟨g,0,none⟩) q (cap+1)) (w':=iI w' g (.cells (qa cc (q*E.size e) zs) el Y9)) rfl rfl rfl (by rw[iH];exact Nat.le_refl _) (fun b _ hne=>ns (fun h=>hne (by rw[hσ,←h];rfl))) (fun b hb=> .inr (by rw[hσ,jZ hb];rfl)) (fun hk'=>by
       rw[hcut]
       refine gy.mk' E _ _ (by rw[List.length_take];have:=hown.1;omega) (by rw[List.length_take];omega) (kT hglt) (by rw[gD];exact hcz) (fun j _=>by rw[mU hh];exact hfr' j) (bD.aH hk' hl1) (fun j v hv=> ?_) (by rw[List.length_take,Nat.min_eq_left (Nat.le_of_lt hqn)])
       have hj:=(List.getElem?_eq_some_iff.1 hv).1
       rw[qk _ _ _ _ hfit,if_neg (by omega)]
       exact hq j v (by rw[hoe,List.getElem?_append_left hj];exact hv))
      refine⟨_,m'.trans (m0.f.trans mx.f),?_⟩
      have hv:=aZ.data _ _ _ (VT.own (E:=E) (σ:=dL σ' k (.slice (some ⟨g,0,none⟩) q (cap+1))) (st:=df s1 k (.arr .live e (N.eo xs 0 ((q:Nat):Int)))) (w:=iI w' g (.cells (qa cc (q*E.size e) zs) el Y9)) (M:=MB (dL σ' k (.slice (some ⟨g,0,none⟩) q (cap+1))) (df s1 k (.arr .live e (N.eo xs 0 ((q:Nat):Int))))) k .live e (N.eo xs 0 ((q:Nat):Int)) (by rw[bE,if_pos ⟨rfl,bM ho1⟩]))
      rw[dD]at hv
      exact hv
    ·cases h2
   ·cases h2
  ·cases h2
 ·cases hx with
  |ret=>exact ph HS (fun _ _ h=>by cases h) m' hfr .none (fun v h=>by cases h) h2
 ·cases h2
end
end
open Go
noncomputable section
section
variable {P:Program} {E:Env} {w w':World} {σ σ':Sg} {st st':St E.T} {M:Nat→Prop}
structure agS (P:Program) (f:FuncId) (TL SZ:Nat):Prop where
 same: ∀(base:Option Addr) (n c i:Nat),i≤n→n≤c→ ∀w:World,Calls P f #[.slice base n c,.int .i64 i,.int .i64 i] w fun e w'=>e= .returned (.slice base n c)∧w'=w
 cut: ∀(g n c i j:Nat),i<j→j≤n→n≤c→n≤2147483648→ ∀(w W1 W2:World),
  (∀ty,(Builtin.append_ #[TL,TL] ty #[.slice (some ⟨g,0,none⟩) i c,.slice (some (if c=j then⟨g,0,none⟩else⟨g,j*SZ,none⟩)) (n-j) (c-j)]).run P w.drew= .ok (.slice (some ⟨g,0,none⟩) (i+(n-j)) c) W1)→
  (∀ty cc,(Builtin.clear_ #[TL] ty #[.slice (some ⟨g,(i+(n-j))*SZ,none⟩) (n-(i+(n-j))) cc]).run P W1= .ok (.tuple #[]) W2)→
  Calls P f #[.slice (some ⟨g,0,none⟩) n c,.int .i64 i,.int .i64 j] w fun e w'=>e= .returned (.slice (some ⟨g,0,none⟩) (i+(n-j)) c)∧w'=W2
end
end
end Go.Proofs.YtlejgahbbfeagaaGreatDoor.D

/- Instances: what a function comes to where its arguments, and the objects that they lead to, are of some shape. Loops by their rounds. A function's instance out of its nice function: all that ties the two but the one fact that the kernel checks. A seat's table of types, told right by two closed facts. Deferred functions, of which the first part stands further in. Short names for what links say most often. Functions of the library by contracts that are given: strings.Repeat. A body whose last part ranges over the chunks of a row of bytes. strings.Join, by its contract. Rows of one's own whose elements have so many cells: copied, cleared, written over. slices.Insert of one element into a row of one's own. A body whose last part cuts a row of one's own short, and clears what is behind (slices.DeleteFunc). slices.Delete from a row of one's own. -/
import Derived.Test.YthgefhjknifehaaGreatDoorBase5
import Derived.Below
import Derived.Lib.Repeat
import Derived.RangeFuncLeaves
import Derived.RangeFuncBox
import Derived.Lib.Join
import Derived.Test.YthgefhjknifehaaGreatDoorBase3
import Derived.Test.YthgefhjknifehaaGreatDoorBase2
import Derived.Lib.Overlaps
import Derived.Laws.Externs
import Derived.Lib.SliceRun
set_option linter.unusedVariables false
set_option linter.unusedSimpArgs false
namespace Go.Proofs.YthgefhjknifehaaGreatDoor.D
open Go
inductive PS where
 | fld (i j : Nat)
 | idx (e : Ty) (n : Nat)
 | at_ (e : Ty)
inductive Sh where
 | v (t : Ty)
 | str (s : List UInt8)
 | nils
 | own (k : Nat)
 | ptr (o : Nat) (p : List PS)
 | nilptr
 | rptr (t : Ty)
 | agg (i : Nat) (l : List Sh)
 | fn (f : FuncId) (l : List Sh)
 | nilfn
 | ifc (t : TypeId) (s : Sh)
 | nilifc
 | undef
inductive ShO where
 | box (ro : Bool) (s : Sh)
 | arr (l : RM) (e : Ty)
 | dead
section
variable (E : Env)
@[reducible] def PS.Fn : List PS → Type 1 → Type 1
 | [], A => A
 | .at_ _ :: p, A => Nat → PS.Fn p A
 | _ :: p, A => PS.Fn p A
mutual
@[reducible] def Sh.Fn : Sh → Type 1 → Type 1
 | .v t, A => I E.T t → A
 | .ptr _ p, A => PS.Fn p A
 | .rptr t, A => I E.T t → A
 | .agg _ l, A => Sh.FnL l A
 | .fn _ l, A => Sh.FnL l A
 | .ifc _ s, A => Sh.Fn s A
 | _, A => A
termination_by structural x => x
@[reducible] def Sh.FnL : List Sh → Type 1 → Type 1
 | [], A => A
 | s :: r, A => Sh.Fn s (Sh.FnL r A)
termination_by structural x => x
end
@[reducible] def ShO.Fn : ShO → Type 1 → Type 1
 | .box _ s, A => Sh.Fn E s A
 | .arr _ e, A => List (I E.T e) → A
 | .dead, A => A
@[reducible] def ShO.FnL : List ShO → Type 1 → Type 1
 | [], A => A
 | s :: r, A => ShO.Fn E s (ShO.FnL r A)
def PS.dec {A : Type 1} : (q : List PS) → List Step → PS.Fn q A → Option A
 | [], [], k => some k
 | .fld i j :: q, .fld i' j' :: p, k => bif Nat.beq i i' && Nat.beq j j' then PS.dec q p k else none
 | .idx e n :: q, .idx e' n' :: p, k => bif tyEqb e e' && Nat.beq n n' then PS.dec q p k else none
 | .at_ e :: q, .idx e' n' :: p, k => bif tyEqb e e' then PS.dec q p (k n') else none
 | _, _, _ => none
mutual
def Sh.dec : (s : Sh) → {A : Type 1} → DVal E.T → Sh.Fn E s A → Option A
 | .v t, _, d, k => match valOf E t d with
  | some x => some (k x)
  | none => none
 | .str s, _, .val .str x, k => bif x == s then some k else none
 | .nils, _, .nils, k => some k
 | .own n, _, .own m, k => bif Nat.beq n m then some k else none
 | .ptr o p, _, .ptr o' p', k => bif Nat.beq o o' then PS.dec p p' k else none
 | .nilptr, _, .nilptr, k => some k
 | .rptr t, _, .rptr t' x, k => match tyEq t' t with
  | some h => some (k (castI h.down x))
  | none => none
 | .agg i l, _, .agg i' ds, k => bif Nat.beq i i' then Sh.decL l ds k else none
 | .fn f l, _, .fn f' ds, k => bif Nat.beq f f' then Sh.decL l ds k else none
 | .nilfn, _, .nilfn, k => some k
 | .ifc t s, _, .ifc t' d, k => bif Nat.beq t t' then Sh.dec s d k else none
 | .nilifc, _, .nilifc, k => some k
 | _, _, _, _ => none
termination_by structural x => x
def Sh.decL : (l : List Sh) → {A : Type 1} → List (DVal E.T) → Sh.FnL E l A → Option A
 | [], _, [], k => some k
 | s :: r, _, d :: ds, k => match Sh.dec s d k with
  | some k' => Sh.decL r ds k'
  | none => none
 | _, _, _, _ => none
termination_by structural x => x
end
def RM.eqb : RM → RM → Bool
 | .froz, .froz => true
 | .fix, .fix => true
 | .live, .live => true
 | _, _ => false
def ShO.dec : (s : ShO) → {A : Type 1} → Obj E.T → ShO.Fn E s A → Option A
 | .box ro s, _, .box ro' d, k => bif ro == ro' then Sh.dec E s d k else none
 | .arr l e, _, .arr l' e' xs, k => match tyEq (.slice e') (.slice e) with
  | some h => bif RM.eqb l l' then some (k (castI (T := E.T) h.down xs)) else none
  | none => none
 | .dead, _, .dead, k => some k
 | _, _, _, _ => none
def ShO.decL : (l : List ShO) → {A : Type 1} → St E.T → ShO.FnL E l A → Option A
 | [], _, [], k => some k
 | s :: r, _, d :: ds, k => match ShO.dec E s d k with
  | some k' => ShO.decL r ds k'
  | none => none
 | _, _, _, _ => none
def PS.Rel {A : Type 1} : (q : List PS) → PS.Fn q A → (List Step → A → Prop) → Prop
 | [], k, P => P [] k
 | .fld i j :: q, k, P => PS.Rel q k fun p a => P (.fld i j :: p) a
 | .idx e n :: q, k, P => PS.Rel q k fun p a => P (.idx e n :: p) a
 | .at_ e :: q, k, P => ∀ n, PS.Rel q (k n) fun p a => P (.idx e n :: p) a
mutual
def Sh.Rel : (s : Sh) → {A : Type 1} → Sh.Fn E s A → (DVal E.T → A → Prop) → Prop
 | .v t, _, k, P => ∀ x, P (.val t x) (k x)
 | .str s, _, k, P => P (.val .str s) k
 | .nils, _, k, P => P .nils k
 | .own n, _, k, P => P (.own n) k
 | .ptr o p, _, k, P => PS.Rel p k fun p a => P (.ptr o p) a
 | .nilptr, _, k, P => P .nilptr k
 | .rptr t, _, k, P => ∀ x, P (.rptr t x) (k x)
 | .agg i l, _, k, P => Sh.RelL l k fun ds a => P (.agg i ds) a
 | .fn f l, _, k, P => Sh.RelL l k fun ds a => P (.fn f ds) a
 | .nilfn, _, k, P => P .nilfn k
 | .ifc t s, _, k, P => Sh.Rel s k fun d a => P (.ifc t d) a
 | .nilifc, _, k, P => P .nilifc k
 | .undef, _, _, _ => True
termination_by structural x => x
def Sh.RelL : (l : List Sh) → {A : Type 1} → Sh.FnL E l A → (List (DVal E.T) → A → Prop) → Prop
 | [], _, k, P => P [] k
 | s :: r, _, k, P => Sh.Rel s k fun d k' => Sh.RelL r k' fun ds a => P (d :: ds) a
termination_by structural x => x
end
def ShO.Rel : (s : ShO) → {A : Type 1} → ShO.Fn E s A → (Obj E.T → A → Prop) → Prop
 | .box ro s, _, k, P => Sh.Rel E s k fun d a => P (.box ro d) a
 | .arr l e, _, k, P => ∀ xs, P (.arr l e xs) (k xs)
 | .dead, _, k, P => P .dead k
def ShO.RelL : (l : List ShO) → {A : Type 1} → ShO.FnL E l A → (St E.T → A → Prop) → Prop
 | [], _, k, P => P [] k
 | s :: r, _, k, P => ShO.Rel E s k fun d k' => ShO.RelL r k' fun ds a => P (d :: ds) a
end
section
variable {E : Env}
theorem PS.dec_rel {A : Type 1} : ∀ (q : List PS) (p : List Step) (k : PS.Fn q A) {a : A} {P : List Step → A → Prop}, PS.dec q p k = some a → PS.Rel q k P → P p a
 | [], [], k, a, P, h, hr => by cases h; exact hr
 | .fld i j :: q, .fld i' j' :: p, k, a, P, h, hr => by
  simp only [PS.dec] at h
  cases hb : Nat.beq i i' && Nat.beq j j' with
  | false => rw [hb] at h; cases h
  | true =>
   rw [hb] at h
   rw [Bool.and_eq_true] at hb
   have h1 := Nat.eq_of_beq_eq_true hb.1
   have h2 := Nat.eq_of_beq_eq_true hb.2
   subst h1; subst h2
   exact PS.dec_rel q p k h hr
 | .idx e n :: q, .idx e' n' :: p, k, a, P, h, hr => by
  simp only [PS.dec] at h
  cases hb : tyEqb e e' && Nat.beq n n' with
  | false => rw [hb] at h; cases h
  | true =>
   rw [hb] at h
   rw [Bool.and_eq_true] at hb
   have h1 := tyEqb_eq hb.1
   have h2 := Nat.eq_of_beq_eq_true hb.2
   subst h1; subst h2
   exact PS.dec_rel q p k h hr
 | .at_ e :: q, .idx e' n' :: p, k, a, P, h, hr => by
  simp only [PS.dec] at h
  cases hb : tyEqb e e' with
  | false => rw [hb] at h; cases h
  | true =>
   rw [hb] at h
   have h1 := tyEqb_eq hb
   subst h1
   exact PS.dec_rel q p (k n') h (hr n')
 | [], _ :: _, k, a, P, h, hr => by cases h
 | .fld i j :: q, [], k, a, P, h, hr => by cases h
 | .fld i j :: q, .idx _ _ :: p, k, a, P, h, hr => by cases h
 | .idx e n :: q, [], k, a, P, h, hr => by cases h
 | .idx e n :: q, .fld _ _ :: p, k, a, P, h, hr => by cases h
 | .at_ e :: q, [], k, a, P, h, hr => by cases h
 | .at_ e :: q, .fld _ _ :: p, k, a, P, h, hr => by cases h
theorem valOf_eq {t : Ty} {d : DVal E.T} {x : I E.T t} (h : valOf E t d = some x) : d = .val t x := by
 cases d with
 | val t' y =>
  simp only [valOf] at h
  split at h
  ·rename_i p _
   cases p with | up p =>
   cases p
   cases h
   rfl
  ·cases h
 | _ => cases h
mutual
theorem Sh.dec_rel : ∀ (s : Sh) {A : Type 1} (d : DVal E.T) (k : Sh.Fn E s A) {a : A} {P : DVal E.T → A → Prop}, Sh.dec E s d k = some a → Sh.Rel E s k P → P d a
 | .v t, A, d, k, a, P, h, hr => by
  simp only [Sh.dec] at h
  split at h
  ·rename_i x hx
   cases h
   rw [valOf_eq hx]
   exact hr x
  ·cases h
 | .str s, A, d, k, a, P, h, hr => by
  cases d <;> try (simp only [Sh.dec] at h; cases h)
  rename_i t x
  cases t <;> try (simp only [Sh.dec] at h; cases h)
  simp only [Sh.dec] at h
  cases hb : (x == s) with
  | false => rw [hb] at h; cases h
  | true => rw [hb] at h; cases h; have := eq_of_beq hb; subst this; exact hr
 | .nils, A, d, k, a, P, h, hr => by cases d <;> first | (cases h; exact hr) | (simp only [Sh.dec] at h; cases h)
 | .own n, A, d, k, a, P, h, hr => by
  cases d <;> try (simp only [Sh.dec] at h; cases h)
  rename_i m
  simp only [Sh.dec] at h
  cases hb : Nat.beq n m with
  | false => rw [hb] at h; cases h
  | true => rw [hb] at h; cases h; have := Nat.eq_of_beq_eq_true hb; subst this; exact hr
 | .ptr o p, A, d, k, a, P, h, hr => by
  cases d <;> try (simp only [Sh.dec] at h; cases h)
  rename_i o' p'
  simp only [Sh.dec] at h
  cases hb : Nat.beq o o' with
  | false => rw [hb] at h; cases h
  | true => rw [hb] at h; have := Nat.eq_of_beq_eq_true hb; subst this; exact PS.dec_rel p p' k h hr
 | .nilptr, A, d, k, a, P, h, hr => by cases d <;> first | (cases h; exact hr) | (simp only [Sh.dec] at h; cases h)
 | .rptr t, A, d, k, a, P, h, hr => by
  cases d <;> try (simp only [Sh.dec] at h; cases h)
  rename_i t' x
  simp only [Sh.dec] at h
  split at h
  ·rename_i p _
   cases p with | up p =>
   cases p
   cases h
   exact hr x
  ·cases h
 | .agg i l, A, d, k, a, P, h, hr => by
  cases d <;> try (simp only [Sh.dec] at h; cases h)
  rename_i i' ds
  simp only [Sh.dec] at h
  cases hb : Nat.beq i i' with
  | false => rw [hb] at h; cases h
  | true => rw [hb] at h; have := Nat.eq_of_beq_eq_true hb; subst this; exact Sh.decL_rel l ds k h hr
 | .fn f l, A, d, k, a, P, h, hr => by
  cases d <;> try (simp only [Sh.dec] at h; cases h)
  rename_i f' ds
  simp only [Sh.dec] at h
  cases hb : Nat.beq f f' with
  | false => rw [hb] at h; cases h
  | true => rw [hb] at h; have := Nat.eq_of_beq_eq_true hb; subst this; exact Sh.decL_rel l ds k h hr
 | .nilfn, A, d, k, a, P, h, hr => by cases d <;> first | (cases h; exact hr) | (simp only [Sh.dec] at h; cases h)
 | .ifc t s, A, d, k, a, P, h, hr => by
  cases d <;> try (simp only [Sh.dec] at h; cases h)
  rename_i t' d
  simp only [Sh.dec] at h
  cases hb : Nat.beq t t' with
  | false => rw [hb] at h; cases h
  | true => rw [hb] at h; have := Nat.eq_of_beq_eq_true hb; subst this; exact Sh.dec_rel s d k h hr
 | .nilifc, A, d, k, a, P, h, hr => by cases d <;> first | (cases h; exact hr) | (simp only [Sh.dec] at h; cases h)
 | .undef, A, d, k, a, P, h, hr => by cases d <;> (simp only [Sh.dec] at h; cases h)
theorem Sh.decL_rel : ∀ (l : List Sh) {A : Type 1} (ds : List (DVal E.T)) (k : Sh.FnL E l A) {a : A} {P : List (DVal E.T) → A → Prop}, Sh.decL E l ds k = some a → Sh.RelL E l k P → P ds a
 | [], A, [], k, a, P, h, hr => by simp only [Sh.decL, Option.some.injEq] at h; subst h; exact hr
 | [], A, _ :: _, k, a, P, h, hr => by simp only [Sh.decL] at h; cases h
 | s :: r, A, [], k, a, P, h, hr => by simp only [Sh.decL] at h; cases h
 | s :: r, A, d :: ds, k, a, P, h, hr => by
  simp only [Sh.decL] at h
  split at h
  ·rename_i k' hk
   exact Sh.decL_rel r ds k' (P := fun ds a => P (d :: ds) a) h (Sh.dec_rel s d k (P := fun d k' => Sh.RelL E r k' fun ds a => P (d :: ds) a) hk hr)
  ·cases h
end
theorem ShO.dec_rel (s : ShO) {A : Type 1} (d : Obj E.T) (k : ShO.Fn E s A) {a : A} {P : Obj E.T → A → Prop} (h : ShO.dec E s d k = some a) (hr : ShO.Rel E s k P) : P d a := by
 cases s with
 | box ro s =>
  cases d <;> try (simp only [ShO.dec] at h; cases h)
  rename_i ro' d
  simp only [ShO.dec] at h
  cases hb : (ro == ro') with
  | false => rw [hb] at h; cases h
  | true => rw [hb] at h; have := eq_of_beq hb; subst this; exact Sh.dec_rel s d k h hr
 | arr l e =>
  cases d <;> try (simp only [ShO.dec] at h; cases h)
  rename_i l' e' xs
  simp only [ShO.dec] at h
  split at h
  ·rename_i p _
   cases p with | up p =>
   cases p
   cases hb : RM.eqb l l' with
   | false => rw [hb] at h; cases h
   | true =>
    rw [hb] at h
    cases h
    have : l = l' := by cases l <;> cases l' <;> first | rfl | cases hb
    subst this
    exact hr xs
  ·cases h
 | dead => cases d <;> first | (cases h; exact hr) | (simp only [ShO.dec] at h; cases h)
theorem ShO.decL_rel : ∀ (l : List ShO) {A : Type 1} (ds : St E.T) (k : ShO.FnL E l A) {a : A} {P : St E.T → A → Prop}, ShO.decL E l ds k = some a → ShO.RelL E l k P → P ds a
 | [], A, [], k, a, P, h, hr => by simp only [ShO.decL, Option.some.injEq] at h; subst h; exact hr
 | [], A, _ :: _, k, a, P, h, hr => by simp only [ShO.decL] at h; cases h
 | s :: r, A, [], k, a, P, h, hr => by simp only [ShO.decL] at h; cases h
 | s :: r, A, d :: ds, k, a, P, h, hr => by
  simp only [ShO.decL] at h
  split at h
  ·rename_i k' hk
   exact ShO.decL_rel r ds k' (P := fun ds a => P (d :: ds) a) h (ShO.dec_rel s d k (P := fun d k' => ShO.RelL E r k' fun ds a => P (d :: ds) a) hk hr)
  ·cases h
structure Ins (E : Env) (X : Type) where
 args : List Sh
 objs : List ShO
 k : Sh.FnL E args (ShO.FnL E objs (Tree X))
def Ins.dec {X : Type} (i : Ins E X) (ds : List (DVal E.T)) (st : St E.T) : Option (Tree X) :=
 match Sh.decL E i.args ds i.k with
 | some k' => ShO.decL E i.objs st k'
 | none => none
def Ins.Rel {X : Type} (i : Ins E X) (P : List (DVal E.T) → St E.T → Tree X → Prop) : Prop := Sh.RelL E i.args i.k fun ds k' => ShO.RelL E i.objs k' fun st t => P ds st t
theorem Ins.dec_rel {X : Type} {i : Ins E X} {ds : List (DVal E.T)} {st : St E.T} {t : Tree X} {P : List (DVal E.T) → St E.T → Tree X → Prop} (h : i.dec ds st = some t) (hr : i.Rel P) : P ds st t := by
 unfold Ins.dec at h
 split at h
 ·rename_i k' hk
  exact ShO.decL_rel i.objs st k' (P := fun st t => P ds st t) h (Sh.decL_rel i.args ds i.k (P := fun ds k' => ShO.RelL E i.objs k' fun st t => P ds st t) hk hr)
 ·cases h
def insF {X : Type} : List (Ins E X) → List (DVal E.T) → St E.T → Tree X
 | [], _, _ => .fail
 | i :: r, ds, st => match i.dec ds st with
  | some t => t
  | none => insF r ds st
variable {P : Program}
def InsOk (P : Program) (f : FuncId) (i : Ins E (Res E.T × St E.T)) : Prop :=
 ∃ B, FnOk P E f B ∧ i.Rel fun ds st t => ∀ out, t.get = some out → (B ds st).get = some out
def AllI (P : Program) (f : FuncId) : List (Ins E (Res E.T × St E.T)) → Prop
 | [] => True
 | i :: r => InsOk P f i ∧ AllI P f r
theorem insF_ok {f : FuncId} : ∀ {l : List (Ins E (Res E.T × St E.T))}, AllI P f l → FnOk P E f (insF l)
 | [], _ => fun _ _ h => by cases h
 | i :: r, hl => fun hst hds h => by
  simp only [insF] at h
  split at h
  ·rename_i t ht
   obtain ⟨B, hB, hr⟩ := hl.1
   exact hB hst hds (Ins.dec_rel ht hr _ h)
  ·exact insF_ok hl.2 hst hds h
theorem dat_fn (ok : EnvOk E) {f : FuncId} {B : List (DVal E.T) → St E.T → Tree (Res E.T × St E.T)} (h : FnOk P E f B) : FnOk P E f fun ds st => B (datL E st st.length ds) (datSt E st st.length) := by
 intro σ st w ds us q st' hst hds hg
 have m := Mv.dat ok hst st.length
 have hd := VReps.dat ok hst st.length hds
 refine Calls.mono (h m.rep (m.vreps hd) hg) (fun e w' hb => ?_)
 obtain ⟨σ', m', hr⟩ := hb
 exact ⟨σ', m.f.trans m', hr⟩
def fullF (l : List (Ins E (Res E.T × St E.T))) (ds : List (DVal E.T)) (st : St E.T) : Tree (Res E.T × St E.T) := insF l (datL E st st.length ds) (datSt E st st.length)
theorem fullI_ok (ok : EnvOk E) {f : FuncId} {ps : List TK} {flat : Bool} {l : List (Ins E (Res E.T × St E.T))} (hen : Enters P f) (h : AllI P f l) : SpecOk P E f (.full ps flat (fullF l)) :=
 ⟨hen, dat_fn ok (insF_ok h)⟩
def pureF (l : List (Ins E (Res E.T × St E.T))) (ds : List (DVal E.T)) : Tree (Res E.T) := (insF l ds []).bind fun p => match p.2 with
 | [] => .ret p.1
 | _ => .fail
theorem pureI_ok {f : FuncId} {ps : List Ty} {l : List (Ins E (Res E.T × St E.T))} (hen : Enters P f) (h : AllI P f l) : SpecOk P E f (.pure ps (pureF l)) := by
 refine ⟨hen, pure_ok (insF_ok h) fun ds r hg => ?_⟩
 unfold pureF at hg
 obtain ⟨p, h1, h2⟩ := Tree.get_bind_some hg
 obtain ⟨r', s⟩ := p
 cases s with
 | nil => cases h2; exact h1
 | cons _ _ => cases h2
theorem iter_loop {V X : Type} {step : V → Option (V ⊕ X)} {stp : Fr E.T → St E.T → Tree (CodeOut E)} {ks rs : List Nat} {mvs : List (Nat × Nat)} {n : Nat} {hd : V → Fr E.T} {sv : V → St E.T} {ex : X → Tree (CodeOut E)}
  (h : ∀ v, ((stp (hd v) (sv v)).bind (nx E ks mvs rs n)).get = (step v).bind fun s => N.alt s (fun v' => some (.inl (hd v', sv v'))) fun x => (ex x).get.map Sum.inr) :
  ∀ (m : Nat) (v : V) {x : X} {out : CodeOut E}, N.iter step m v = some x → (ex x).get = some out → LoopTo stp ks mvs n (hd v) (sv v) out
 | 0, v, x, out, hi, ho => by cases hi
 | m + 1, v, x, out, hi, ho => by
  rw [N.iter_succ] at hi
  have hv := h v
  cases hst : step v with
  | none => rw [hst] at hi; cases hi
  | some s =>
   rw [hst] at hi hv
   cases s with
   | inl v' => exact LoopTo.next hv (iter_loop h m v' hi ho)
   | inr y =>
    have : y = x := Option.some.inj hi
    subst this
    refine LoopTo.stop (rs := rs) ?_
    rw [hv]
    show (ex y).get.map Sum.inr = _
    rw [ho]
    rfl
def InsLp (n : Nat) (ks : List Nat) (mvs : List (Nat × Nat)) (d : List (FuncId × List (DVal E.T))) (stp : Fr E.T → St E.T → Tree (CodeOut E)) (i : Ins E (CodeOut E)) : Prop :=
 i.Rel fun vals st t => ∀ out, t.get = some out → LoopTo stp ks mvs st.length (ofSlots E n d ks vals) st out
def AllLp (n : Nat) (ks : List Nat) (mvs : List (Nat × Nat)) (d : List (FuncId × List (DVal E.T))) (stp : Fr E.T → St E.T → Tree (CodeOut E)) : List (Ins E (CodeOut E)) → Prop
 | [] => True
 | i :: r => InsLp n ks mvs d stp i ∧ AllLp n ks mvs d stp r
theorem insLp_ok {n : Nat} {ks : List Nat} {mvs : List (Nat × Nat)} {d : List (FuncId × List (DVal E.T))} {stp : Fr E.T → St E.T → Tree (CodeOut E)} : ∀ {l : List (Ins E (CodeOut E))}, AllLp n ks mvs d stp l → ∀ vals st out, (insF l vals st).get = some out → LoopTo stp ks mvs st.length (ofSlots E n d ks vals) st out
 | [], _, vals, st, out, h => by cases h
 | i :: r, hl, vals, st, out, h => by
  simp only [insF] at h
  split at h
  ·rename_i t ht
   exact Ins.dec_rel ht hl.1 out h
  ·exact insLp_ok hl.2 vals st out h
theorem lp_ok {n : Nat} {ks : List Nat} {mvs : List (Nat × Nat)} {d : List (FuncId × List (DVal E.T))} {stp : Fr E.T → St E.T → Tree (CodeOut E)} {l : List (Ins E (CodeOut E))} (h : AllLp n ks mvs d stp l) (fr : Fr E.T) (st : St E.T) (out : CodeOut E)
  (hc : (closedOf E n ks mvs d (insF l) fr st).get = some out) : ∃ m fr', (loopT E stp ks mvs st.length m fr st).get = some (out.1, fr', out.2.2) ∧ Weak out.2.1 fr' :=
 closed_ok (insLp_ok h) fr st out hc
def datRes (st : St E.T) : Res E.T → Res E.T
 | .ret vs => .ret (datL E st st.length vs)
 | .panic v => .panic v
def resRefs : Res E.T → List Nat
 | .ret vs => refsL vs
 | .panic v => refs v
def keepO (R : List Nat) : Nat → St E.T → St E.T
 | _, [] => []
 | i, o :: r => (bif memB R i then o else .dead) :: keepO R (i + 1) r
def tidyF (B : List (DVal E.T) → St E.T → Tree (Res E.T × St E.T)) (ds : List (DVal E.T)) (st : St E.T) : Tree (Res E.T × St E.T) :=
 (B ds st).bind fun p =>
  let s1 := datSt E p.2 p.2.length
  let r1 := datRes p.2 p.1
  let R := reach E s1 1000 (List.range st.length ++ resRefs r1) []
  Tree.need (R.all (fun k => (objAt E s1 k).all (memB R)) && ((List.range st.length).all (memB R) && (resRefs r1).all (memB R))) (.ret (r1, keepO R 0 s1))
theorem keepO_len (R : List Nat) : ∀ (i : Nat) (l : St E.T), (keepO R i l).length = l.length
 | _, [] => rfl
 | i, o :: r => by simp [keepO, keepO_len R (i + 1) r]
theorem keepO_at (R : List Nat) : ∀ (i : Nat) (l : St E.T) (j : Nat), nth? (keepO R i l) j = if i + j ∈ R then nth? l j else (nth? l j).map fun _ => .dead
 | i, [], j => by simp [keepO, nth?]
 | i, o :: r, 0 => by
  simp only [keepO, nth?, Nat.add_zero]
  by_cases h : i ∈ R
  ·rw [if_pos h, (memB_iff R i).2 h]; rfl
  ·have : memB R i = false := by
    cases hb : memB R i with
    | false => rfl
    | true => exact absurd ((memB_iff R i).1 hb) h
   rw [if_neg h, this]; rfl
 | i, o :: r, j + 1 => by
  simp only [keepO, nth?]
  rw [keepO_at R (i + 1) r j, show i + 1 + j = i + (j + 1) by omega]
section
variable {σ σ' : Sg} {st st' : St E.T} {w w' : World} {R : List Nat}
theorem keepO_MB {b : Nat} (h : MB σ (keepO R 0 st) b) : MB σ st b := by
 rcases h with h | ⟨o, ob, ho, hm, hb⟩
 ·exact .inl h
 ·rw [keepO_at, Nat.zero_add] at ho
  split at ho
  ·exact .inr ⟨o, ob, ho, hm, hb⟩
  ·obtain ⟨q, _, rfl⟩ := Option.map_eq_some_iff.1 ho
   cases hm
theorem keepO_same {k : Nat} (hk : k ∈ R) : Same σ σ st (keepO R 0 st) k :=
 ⟨rfl, fun l e xs h => ⟨l, xs, by rw [keepO_at, Nat.zero_add, if_pos hk]; exact h⟩, fun h => by rw [keepO_len]; exact h⟩
theorem keepO_rep (hst : StRep E σ st w) (hc : ∀ k ∈ R, ∀ ob, nth? st k = some ob → ∀ j ∈ objRefs E ob, j ∈ R) : StRep E σ (keepO R 0 st) w := by
 have hat : ∀ {o ob}, nth? (keepO R 0 st) o = some ob → isDead ob = false → o ∈ R ∧ nth? st o = some ob := by
  intro o ob ho hd
  rw [keepO_at, Nat.zero_add] at ho
  split at ho
  ·rename_i h; exact ⟨h, ho⟩
  ·obtain ⟨q, _, rfl⟩ := Option.map_eq_some_iff.1 ho
   cases hd
 refine ⟨fun o ob ho => ?_, fun o o' ob ob' b hne ho ho' hm hd hb1 hb2 => ?_, hst.amb, fun o ob b ho hd hb => hst.out o ob b (hat ho hd).2 hd hb⟩
 ·cases hd : isDead ob with
  | true => cases ob <;> first | exact .dead _ | cases hd
  | false =>
   obtain ⟨h1, h2⟩ := hat ho hd
   exact ObRep.keep (Kept.weaken fun b hb => keepO_MB hb) (fun _ _ => rfl) (fun k hk => keepO_same (hc o h1 ob h2 k hk)) (hst.obj o ob h2)
 ·exact hst.apart o o' ob ob' b hne (hat ho (by cases ob <;> first | rfl | cases hm)).2 (hat ho' hd).2 hm hd hb1 hb2
theorem tidy_fn (ok : EnvOk E) {f : FuncId} {B : List (DVal E.T) → St E.T → Tree (Res E.T × St E.T)} (h : FnOk P E f B) : FnOk P E f (tidyF B) := by
 intro σ st w ds us q st' hst hds hg
 unfold tidyF at hg
 obtain ⟨p, hp, hg⟩ := Tree.get_bind_some hg
 obtain ⟨r, s⟩ := p
 simp only at hg
 generalize hR : reach E (datSt E s s.length) 1000 (List.range st.length ++ resRefs (datRes s r)) [] = R at hg
 obtain ⟨hb, hg⟩ := Tree.get_need hg
 cases hg
 simp only [Bool.and_eq_true, List.all_eq_true] at hb
 obtain ⟨h1, h2, h3⟩ := hb
 refine Calls.mono (h hst hds hp) (fun e w' hb => ?_)
 obtain ⟨σ', m, hr⟩ := hb
 have md := Mv.dat ok m.rep s.length
 have m1 := m.trans md.f
 have hcl : ∀ k ∈ R, ∀ ob, nth? (datSt E s s.length) k = some ob → ∀ j ∈ objRefs E ob, j ∈ R := by
  intro k hk ob ho j hj
  have := h1 k hk
  simp only [objAt, ho] at this
  exact (memB_iff R j).1 (this j hj)
 have hrep := keepO_rep m1.rep hcl
 have hkp : Kept (MB σ' (datSt E s s.length)) (MB σ' (keepO R 0 (datSt E s s.length))) w' w' := Kept.weaken fun b hb => keepO_MB hb
 refine ⟨σ', ⟨hrep, ⟨m1.keep.os, m1.keep.tape, m1.keep.output, m1.keep.size, m1.keep.block, fun b hb h => m1.keep.may b hb (keepO_MB h)⟩, ⟨m1.stay.same, fun o ob ho => ?_⟩, m1.amb⟩, ?_⟩
 ·obtain ⟨ob', h4, h5, h6⟩ := m1.stay.kind o ob ho
  have : o ∈ R := (memB_iff R o).1 (h2 o (List.mem_range.2 (nth?_lt ho)))
  exact ⟨ob', by rw [keepO_at, Nat.zero_add, if_pos this]; exact h4, h5, h6⟩
 ·have h3' : ∀ k ∈ resRefs (datRes s r), k ∈ R := fun k hk => (memB_iff R k).1 (h3 k hk)
  cases r with
  | panic v =>
   cases e with
   | returned _ => exact hr.elim
   | outgrown => exact hr.elim
   | panicked ch =>
    obtain ⟨u, hu, hv⟩ := hr
    exact ⟨u, hu, VRep.keep hkp (md.vrep hv) (fun k hk => keepO_same (h3' k hk))⟩
  | ret vs =>
   cases e with
   | panicked ch => exact hr.elim
   | outgrown => exact hr.elim
   | returned v =>
    have key : ∀ us : List Value, VReps E σ' s w' (MB σ' s) vs us → VReps E σ' (keepO R 0 (datSt E s s.length)) w' (MB σ' (keepO R 0 (datSt E s s.length))) (datL E s s.length vs) us :=
     fun us hv => VReps.keep hkp (md.vreps (VReps.dat ok m.rep s.length hv)) (fun k hk => keepO_same (h3' k hk))
    show VRep E σ' _ w' _ (resVal E (datL E s s.length vs)) v
    have hr' : VRep E σ' s w' (MB σ' s) (resVal E vs) v := hr
    match vs, hr', key with
    | [], hr', key =>
     cases hr' with
     | data t d cs hv => cases hv
     | tup vs us h => exact .tup _ us (key us h)
    | [x], hr', key =>
     have := key [v] (.cons x [] v [] hr' .nil)
     cases this with
     | cons _ _ _ _ h _ => exact h
    | x :: y :: r, hr', key =>
     cases hr' with
     | data t d cs hv => cases hv
     | tup vs us h => exact .tup _ us (key us h)
end
end
open Go
inductive Pre (R : Type) : Type 1 where
 | opt {X : Type} (t : Tree X) (k : X → Tree R)
 | tot {X : Type} (t : TT X) (k : X → Tree R)
 | bad
def Pre.spec {R : Type} : Pre R → Tree R
 | .opt t k => .opt t.get k
 | .tot t k => k t.val
 | .bad => .fail
def Pre.full {R : Type} : Pre R → Tree R
 | .opt t k => t.bind k
 | .tot t k => t.tree.bind k
 | .bad => .fail
theorem Pre.get_eq {R : Type} (p : Pre R) : p.full.get = p.spec.get := by
 cases p with
 | opt t k => exact Tree.get_bind t k
 | tot t k => exact TT.get_bind k t
 | bad => rfl
section
variable {E : Env}
def PS.map {A B : Type 1} (f : A → B) : (q : List PS) → PS.Fn q A → PS.Fn q B
 | [], k => f k
 | .fld _ _ :: q, k => PS.map f q k
 | .idx _ _ :: q, k => PS.map f q k
 | .at_ _ :: q, k => fun n => PS.map f q (k n)
mutual
def Sh.map : (s : Sh) → {A B : Type 1} → (A → B) → Sh.Fn E s A → Sh.Fn E s B
 | .v _, _, _, f, k => fun x => f (k x)
 | .str _, _, _, f, k => f k
 | .nils, _, _, f, k => f k
 | .own _, _, _, f, k => f k
 | .ptr _ p, _, _, f, k => PS.map f p k
 | .nilptr, _, _, f, k => f k
 | .rptr _, _, _, f, k => fun x => f (k x)
 | .agg _ l, _, _, f, k => Sh.mapL l f k
 | .fn _ l, _, _, f, k => Sh.mapL l f k
 | .nilfn, _, _, f, k => f k
 | .ifc _ s, _, _, f, k => Sh.map s f k
 | .nilifc, _, _, f, k => f k
 | .undef, _, _, f, k => f k
termination_by structural x => x
def Sh.mapL : (l : List Sh) → {A B : Type 1} → (A → B) → Sh.FnL E l A → Sh.FnL E l B
 | [], _, _, f, k => f k
 | s :: r, _, _, f, k => Sh.map s (Sh.mapL r f) k
termination_by structural x => x
end
def ShO.map : (s : ShO) → {A B : Type 1} → (A → B) → ShO.Fn E s A → ShO.Fn E s B
 | .box _ s, _, _, f, k => Sh.map s f k
 | .arr _ _, _, _, f, k => fun xs => f (k xs)
 | .dead, _, _, f, k => f k
def ShO.mapL : (l : List ShO) → {A B : Type 1} → (A → B) → ShO.FnL E l A → ShO.FnL E l B
 | [], _, _, f, k => f k
 | s :: r, _, _, f, k => ShO.map s (ShO.mapL r f) k
theorem PS.rel_map {A B : Type 1} (f : A → B) : ∀ (q : List PS) (k : PS.Fn q A) {P : List Step → B → Prop}, PS.Rel q k (fun p a => P p (f a)) → PS.Rel q (PS.map f q k) P
 | [], k, P, h => h
 | .fld i j :: q, k, P, h => PS.rel_map f q k (P := fun p a => P (.fld i j :: p) a) h
 | .idx e n :: q, k, P, h => PS.rel_map f q k (P := fun p a => P (.idx e n :: p) a) h
 | .at_ e :: q, k, P, h => fun n => PS.rel_map f q (k n) (P := fun p a => P (.idx e n :: p) a) (h n)
mutual
theorem Sh.rel_map : ∀ (s : Sh) {A B : Type 1} (f : A → B) (k : Sh.Fn E s A) {P : DVal E.T → B → Prop}, Sh.Rel E s k (fun d a => P d (f a)) → Sh.Rel E s (Sh.map s f k) P
 | .v t, _, _, f, k, P, h => h
 | .str s, _, _, f, k, P, h => h
 | .nils, _, _, f, k, P, h => h
 | .own n, _, _, f, k, P, h => h
 | .ptr o p, _, _, f, k, P, h => PS.rel_map f p k (P := fun p a => P (.ptr o p) a) h
 | .nilptr, _, _, f, k, P, h => h
 | .rptr t, _, _, f, k, P, h => h
 | .agg i l, _, _, f, k, P, h => Sh.rel_mapL l f k (P := fun ds a => P (.agg i ds) a) h
 | .fn g l, _, _, f, k, P, h => Sh.rel_mapL l f k (P := fun ds a => P (.fn g ds) a) h
 | .nilfn, _, _, f, k, P, h => h
 | .ifc t s, _, _, f, k, P, h => Sh.rel_map s f k (P := fun d a => P (.ifc t d) a) h
 | .nilifc, _, _, f, k, P, h => h
 | .undef, _, _, f, k, P, h => trivial
theorem Sh.rel_mapL : ∀ (l : List Sh) {A B : Type 1} (f : A → B) (k : Sh.FnL E l A) {P : List (DVal E.T) → B → Prop}, Sh.RelL E l k (fun ds a => P ds (f a)) → Sh.RelL E l (Sh.mapL l f k) P
 | [], _, _, f, k, P, h => h
 | s :: r, _, _, f, k, P, h => by
  unfold Sh.RelL at h ⊢
  unfold Sh.mapL
  refine Sh.rel_map s (Sh.mapL r f) k (P := fun d k' => Sh.RelL E r k' fun ds a => P (d :: ds) a) ?_
  exact Sh.rel_mono s k (fun d k' h => Sh.rel_mapL r f k' (P := fun ds a => P (d :: ds) a) h) h
theorem Sh.rel_mono : ∀ (s : Sh) {A : Type 1} (k : Sh.Fn E s A) {P Q : DVal E.T → A → Prop}, (∀ d a, P d a → Q d a) → Sh.Rel E s k P → Sh.Rel E s k Q
 | .v t, _, k, P, Q, g, h => fun x => g _ _ (h x)
 | .str s, _, k, P, Q, g, h => g _ _ h
 | .nils, _, k, P, Q, g, h => g _ _ h
 | .own n, _, k, P, Q, g, h => g _ _ h
 | .ptr o p, _, k, P, Q, g, h => ps_mono p k (fun p a => g (.ptr o p) a) h
 | .nilptr, _, k, P, Q, g, h => g _ _ h
 | .rptr t, _, k, P, Q, g, h => fun x => g _ _ (h x)
 | .agg i l, _, k, P, Q, g, h => Sh.rel_monoL l k (fun ds a => g (.agg i ds) a) h
 | .fn f l, _, k, P, Q, g, h => Sh.rel_monoL l k (fun ds a => g (.fn f ds) a) h
 | .nilfn, _, k, P, Q, g, h => g _ _ h
 | .ifc t s, _, k, P, Q, g, h => Sh.rel_mono s k (fun d a => g (.ifc t d) a) h
 | .nilifc, _, k, P, Q, g, h => g _ _ h
 | .undef, _, k, P, Q, g, h => trivial
theorem Sh.rel_monoL : ∀ (l : List Sh) {A : Type 1} (k : Sh.FnL E l A) {P Q : List (DVal E.T) → A → Prop}, (∀ ds a, P ds a → Q ds a) → Sh.RelL E l k P → Sh.RelL E l k Q
 | [], _, k, P, Q, g, h => g _ _ h
 | s :: r, _, k, P, Q, g, h => by
  unfold Sh.RelL at h ⊢
  exact Sh.rel_mono s k (fun d k' h => Sh.rel_monoL r k' (fun ds a => g (d :: ds) a) h) h
theorem ps_mono {A : Type 1} : ∀ (q : List PS) (k : PS.Fn q A) {P Q : List Step → A → Prop}, (∀ p a, P p a → Q p a) → PS.Rel q k P → PS.Rel q k Q
 | [], k, P, Q, g, h => g _ _ h
 | .fld i j :: q, k, P, Q, g, h => ps_mono q k (fun p a => g (.fld i j :: p) a) h
 | .idx e n :: q, k, P, Q, g, h => ps_mono q k (fun p a => g (.idx e n :: p) a) h
 | .at_ e :: q, k, P, Q, g, h => fun n => ps_mono q (k n) (fun p a => g (.idx e n :: p) a) (h n)
end
theorem ShO.rel_mono (s : ShO) {A : Type 1} (k : ShO.Fn E s A) {P Q : Obj E.T → A → Prop} (g : ∀ d a, P d a → Q d a) (h : ShO.Rel E s k P) : ShO.Rel E s k Q := by
 cases s with
 | box ro s => exact Sh.rel_mono s k (fun d a => g (.box ro d) a) h
 | arr l e => exact fun xs => g _ _ (h xs)
 | dead => exact g _ _ h
theorem ShO.rel_map (s : ShO) {A B : Type 1} (f : A → B) (k : ShO.Fn E s A) {P : Obj E.T → B → Prop} (h : ShO.Rel E s k (fun d a => P d (f a))) : ShO.Rel E s (ShO.map s f k) P := by
 cases s with
 | box ro s => exact Sh.rel_map s f k (P := fun d a => P (.box ro d) a) h
 | arr l e => exact h
 | dead => exact h
theorem ShO.rel_monoL : ∀ (l : List ShO) {A : Type 1} (k : ShO.FnL E l A) {P Q : St E.T → A → Prop}, (∀ d a, P d a → Q d a) → ShO.RelL E l k P → ShO.RelL E l k Q
 | [], _, k, P, Q, g, h => g _ _ h
 | s :: r, _, k, P, Q, g, h => ShO.rel_mono s k (fun d k' h => ShO.rel_monoL r k' (fun ds a => g (d :: ds) a) h) h
theorem ShO.rel_mapL : ∀ (l : List ShO) {A B : Type 1} (f : A → B) (k : ShO.FnL E l A) {P : St E.T → B → Prop}, ShO.RelL E l k (fun d a => P d (f a)) → ShO.RelL E l (ShO.mapL l f k) P
 | [], _, _, f, k, P, h => h
 | s :: r, _, _, f, k, P, h => ShO.rel_map s (ShO.mapL r f) k (P := fun d k' => ShO.RelL E r k' fun ds a => P (d :: ds) a) (ShO.rel_mono s k (fun d k' h => ShO.rel_mapL r f k' (P := fun ds a => P (d :: ds) a) h) h)
structure GIns (E : Env) (A : Type 1) where
 args : List Sh
 objs : List ShO
 k : Sh.FnL E args (ShO.FnL E objs A)
def GIns.Rel {A : Type 1} (i : GIns E A) (P : List (DVal E.T) → St E.T → A → Prop) : Prop := Sh.RelL E i.args i.k fun ds k' => ShO.RelL E i.objs k' fun st a => P ds st a
def GIns.ins {A : Type 1} {X : Type} (f : A → Tree X) (i : GIns E A) : Ins E X := ⟨i.args, i.objs, Sh.mapL i.args (ShO.mapL i.objs f) i.k⟩
theorem GIns.rel_mono {A : Type 1} {i : GIns E A} {P Q : List (DVal E.T) → St E.T → A → Prop} (g : ∀ ds st a, P ds st a → Q ds st a) (h : i.Rel P) : i.Rel Q :=
 Sh.rel_monoL i.args i.k (fun ds k' h => ShO.rel_monoL i.objs k' (fun st a => g ds st a) h) h
theorem GIns.ins_rel {A : Type 1} {X : Type} {f : A → Tree X} {i : GIns E A} {P : List (DVal E.T) → St E.T → Tree X → Prop} (h : i.Rel fun ds st a => P ds st (f a)) : (i.ins f).Rel P :=
 Sh.rel_mapL i.args (ShO.mapL i.objs f) i.k (P := fun ds k' => ShO.RelL E i.objs k' fun st t => P ds st t) (Sh.rel_monoL i.args i.k (fun ds k' h => ShO.rel_mapL i.objs f k' (P := fun st t => P ds st t) h) h)
structure LPre (E : Env) where
 {V : Type}
 {X : Type}
 v : V
 step : V → Tree (V ⊕ X)
 hd : V → List (DVal E.T) × St E.T
 ex : X → Tree (DExit E.T × List (DVal E.T) × St E.T)
variable (E) in
def exOut (n : Nat) (d : List (FuncId × List (DVal E.T))) (rs : List Nat) (o : DExit E.T × List (DVal E.T) × St E.T) : Tree (CodeOut E) := .ret (o.1, ofSlots E n d rs o.2.1, o.2.2)
noncomputable def LPre.tree (n : Nat) (d : List (FuncId × List (DVal E.T))) (rs : List Nat) (p : LPre E) : Tree (CodeOut E) := .opt (N.iter (fun v => (p.step v).get) N.fuel p.v) fun x => (p.ex x).bind (exOut E n d rs)
def LPre.out (n : Nat) (d : List (FuncId × List (DVal E.T))) (ks rs : List Nat) (p : LPre E) : p.V ⊕ p.X → Tree (Sum (Fr E.T × St E.T) (CodeOut E))
 | .inl v => .ret (.inl (ofSlots E n d ks (p.hd v).1, (p.hd v).2))
 | .inr x => (p.ex x).bind fun o => (exOut E n d rs o).bind fun q => .ret (.inr q)
structure GLp (E : Env) where
 ks : List Nat
 rs : List Nat := []
 mvs : List (Nat × Nat) := []
 pro : List Adj := []
 d : List (FuncId × List (DVal E.T)) := []
 ins : Option (List (GIns E (LPre E))) := none
noncomputable def GLp.info (n : Nat) (l : GLp E) : LpI E := { ks := l.ks, mvs := l.mvs, pro := l.pro, d := l.d, g := (match l.ins with | some is => some (insF (is.map (GIns.ins (LPre.tree n l.d l.rs)))) | none => none) }
def LFact (n : Nat) (stp : Fr E.T → St E.T → Tree (CodeOut E)) (l : GLp E) (i : GIns E (LPre E)) : Prop :=
 i.Rel fun ds st p => p.hd p.v = (ds, st) ∧ ∀ v, ((stp (ofSlots E n l.d l.ks (p.hd v).1) (p.hd v).2).bind (nx E l.ks l.mvs l.rs st.length)).get = ((p.step v).bind (p.out n l.d l.ks l.rs)).get
theorem lfact_ok {n : Nat} {stp : Fr E.T → St E.T → Tree (CodeOut E)} {l : GLp E} {i : GIns E (LPre E)} (h : LFact n stp l i) : InsLp n l.ks l.mvs l.d stp (i.ins (LPre.tree n l.d l.rs)) := by
 refine GIns.ins_rel (GIns.rel_mono (fun ds st p hp => ?_) h)
 obtain ⟨h1, h2⟩ := hp
 intro out ho
 have e1 : (p.hd p.v).1 = ds := by rw [h1]
 have e2 : (p.hd p.v).2 = st := by rw [h1]
 obtain ⟨x, hx, ho'⟩ := Option.bind_eq_some_iff.1 (show (N.iter (fun v => (p.step v).get) N.fuel p.v).bind (fun x => ((p.ex x).bind (exOut E n l.d l.rs)).get) = some out from ho)
 have := iter_loop (stp := stp) (ks := l.ks) (rs := l.rs) (mvs := l.mvs) (n := st.length) (step := fun v => (p.step v).get) (hd := fun v => ofSlots E n l.d l.ks (p.hd v).1) (sv := fun v => (p.hd v).2) (ex := fun x => (p.ex x).bind (exOut E n l.d l.rs)) (fun v => by
  rw [h2 v, Tree.get_bind]
  congr 1
  funext s
  cases s with
  | inl v' => rfl
  | inr y =>
   refine Eq.trans (b := ((p.ex y).bind (exOut E n l.d l.rs)).get.map Sum.inr) ?_ rfl
   show ((p.ex y).bind fun o => (exOut E n l.d l.rs o).bind fun q => (Tree.ret (Sum.inr q) : Tree (Sum (Fr E.T × St E.T) (CodeOut E)))).get = _
   rw [Tree.get_bind, Tree.get_bind]
   cases (p.ex y).get with
   | none => rfl
   | some o => rfl) N.fuel p.v hx ho'
 rw [e1, e2] at this
 exact this
def AllLF (n : Nat) (stp : Fr E.T → St E.T → Tree (CodeOut E)) (l : GLp E) : List (GIns E (LPre E)) → Prop
 | [] => True
 | i :: r => LFact n stp l i ∧ AllLF n stp l r
theorem allLF_ok {n : Nat} {stp : Fr E.T → St E.T → Tree (CodeOut E)} {l : GLp E} : ∀ {is : List (GIns E (LPre E))}, AllLF n stp l is → AllLp n l.ks l.mvs l.d stp (is.map (GIns.ins (LPre.tree n l.d l.rs)))
 | [], _ => trivial
 | i :: r, h => ⟨lfact_ok h.1, allLF_ok h.2⟩
def LpF (n : Nat) (stp : Fr E.T → St E.T → Tree (CodeOut E)) (l : GLp E) : Prop :=
 match l.ins with
 | some is => AllLF n stp l is
 | none => True
def LpsF (n : Nat) (stp : Nat → Fr E.T → St E.T → Tree (CodeOut E)) : Nat → List (GLp E) → Prop
 | _, [] => True
 | k, l :: r => LpF n (stp k) l ∧ LpsF n stp (k + 1) r
theorem lpAt_map {n : Nat} : ∀ (ls : List (GLp E)) (k : Nat), lpAt (ls.map (GLp.info n)) k = (ls[k]?).map (GLp.info n)
 | [], _ => by simp [lpAt]
 | l :: r, 0 => rfl
 | l :: r, k + 1 => by
  have := lpAt_map (n := n) r k
  simpa [lpAt] using this
theorem lpsF_at {n : Nat} {stp : Nat → Fr E.T → St E.T → Tree (CodeOut E)} : ∀ {ls : List (GLp E)} {j : Nat}, LpsF n stp j ls → ∀ {k : Nat} {l : GLp E}, ls[k]? = some l → LpF n (stp (j + k)) l
 | [], j, h, k, l, hk => by simp at hk
 | a :: r, j, h, 0, l, hk => by cases hk; exact h.1
 | a :: r, j, h, k + 1, l, hk => by
  have := lpsF_at h.2 (k := k) (l := l) (by simpa using hk)
  rwa [show j + 1 + k = j + (k + 1) by omega] at this
structure GFn (E : Env) where
 S : List (Nat × Spec E) := []
 D : List (Nat × DSpec E) := []
 ls : List (GLp E) := []
 rs : List (Nat × List Adj) := []
 keep : Bool := false
 i : GIns E (Pre (Res E.T × St E.T))
noncomputable def GFn.L (x : GFn E) (fn : Func) : Nat → LoopInfo E := clL E fn.ntmps (x.ls.map (GLp.info fn.ntmps)) x.rs
noncomputable def GFn.B (x : GFn E) (fn : Func) : List (DVal E.T) → St E.T → Tree (Res E.T × St E.T) := dbody E (lookS x.S) (lookD x.D) (x.L fn) 0 x.keep fn
def GFn.ins (x : GFn E) : Ins E (Res E.T × St E.T) := x.i.ins Pre.spec
def GFn.Loops (x : GFn E) (fn : Func) : Prop := LpsF fn.ntmps (fun k => stepOf E x.S (x.L fn) 0 k fn) 0 x.ls
def GFact (B : List (DVal E.T) → St E.T → Tree (Res E.T × St E.T)) (i : GIns E (Pre (Res E.T × St E.T))) : Prop := i.Rel fun ds st p => (B ds st).get = p.full.get
variable {P : Program}
theorem gIns_ok {f : FuncId} {B : List (DVal E.T) → St E.T → Tree (Res E.T × St E.T)} {i : GIns E (Pre (Res E.T × St E.T))} (hB : FnOk P E f B) (h : GFact B i) : InsOk P f (i.ins Pre.spec) :=
 ⟨B, hB, GIns.ins_rel (GIns.rel_mono (fun ds st p hp out ho => by rw [hp, Pre.get_eq]; exact ho) h)⟩
theorem gLoops_at {x : GFn E} {fn : Func} (hL : x.Loops fn) : ∀ k g, (x.L fn k).closed = some g → ∀ fr st out, (g fr st).get = some out → ∃ m fr', (loopT E (stepOf E x.S (x.L fn) 0 k fn) (x.L fn k).keep (x.L fn k).mvs st.length m fr st).get = some (out.1, fr', out.2.2) ∧ Weak out.2.1 fr' := by
 intro k g hg fr st out ho
 have hlk : x.L fn k = clL E fn.ntmps (x.ls.map (GLp.info fn.ntmps)) x.rs k := rfl
 cases hl : x.ls[k]? with
 | none =>
  have : lpAt (x.ls.map (GLp.info fn.ntmps)) k = none := by rw [lpAt_map, hl]; rfl
  rw [hlk] at hg
  unfold clL at hg
  rw [this] at hg
  cases hg
 | some l =>
  have e : lpAt (x.ls.map (GLp.info fn.ntmps)) k = some (l.info fn.ntmps) := by rw [lpAt_map, hl]; rfl
  have hF := lpsF_at hL hl
  rw [Nat.zero_add] at hF
  have hk : (x.L fn k).keep = l.ks ∧ (x.L fn k).mvs = l.mvs := by
   rw [hlk]; unfold clL; rw [e]; exact ⟨rfl, rfl⟩
  rw [hk.1, hk.2]
  rw [hlk] at hg
  unfold clL at hg
  rw [e] at hg
  unfold GLp.info at hg
  unfold LpF at hF
  cases hi : l.ins with
  | none => simp only [hi] at hg; cases hg
  | some is =>
   simp only [hi] at hg hF
   cases hg
   exact lp_ok (allLF_ok hF) fr st out ho
theorem GFn.body_ok (HS : Sound P E) (hmix : P.follows .mixedOrders = true) {x : GFn E} {f : FuncId} {fn : Func} {c : Code} (hf : P.funcs[f]? = some fn) (hb : fn.body = some c) (hS : AllS P E x.S) (hD : AllD P E x.D) (hL : x.Loops fn) : FnOk P E f (x.B fn) :=
 bodyC_ok HS hmix hS hD hf hb (gLoops_at hL)
theorem GFn.ok (HS : Sound P E) (hmix : P.follows .mixedOrders = true) {x : GFn E} {f : FuncId} {fn : Func} {c : Code} (hf : P.funcs[f]? = some fn) (hb : fn.body = some c) (hS : AllS P E x.S) (hD : AllD P E x.D) (hL : x.Loops fn) (h : GFact (x.B fn) x.i) : InsOk P f x.ins :=
 gIns_ok (GFn.body_ok HS hmix hf hb hS hD hL) h
theorem GFn.okF (HS : Sound P E) (hmix : P.follows .mixedOrders = true) {x : GFn E} {f : FuncId} {fn : Func} {c : Code} (hf : P.funcs[f]? = some fn) (hb : fn.body = some c) (hS : AllS P E x.S) (hD : AllD P E x.D) (hL : x.Loops fn) (h : GFact (tidyF (x.B fn)) x.i) : InsOk P f x.ins :=
 gIns_ok (tidy_fn HS.toEnvOk (GFn.body_ok HS hmix hf hb hS hD hL)) h
def Tup (E : Env) : List Ty → Type
 | [] => Unit
 | [t] => I E.T t
 | t :: r => I E.T t × Tup E r
def valsOf : (ts : List Ty) → Tup E ts → List (DVal E.T)
 | [], _ => []
 | [t], x => [.val t x]
 | t :: t' :: r, x => .val t x.1 :: valsOf (t' :: r) x.2
def stdI (ps rs : List Ty) (g : Sh.FnL E (ps.map .v) (Tree (Tup E rs))) : GIns E (Pre (Res E.T × St E.T)) := ⟨ps.map .v, [], Sh.mapL (ps.map .v) (fun t => Pre.opt t fun x => .ret (.ret (valsOf rs x), [])) g⟩
end
open Go
def isD (E : Env) (t : TypeId) (ty : Ty) : Bool :=
 match E.tk t with
 | .data ty' => tyEqb ty' ty
 | _ => false
theorem isD_eq {E : Env} {t : TypeId} {ty : Ty} (h : isD E t ty = true) : E.tk t = .data ty := by
 unfold isD at h
 split at h
 ·rename_i ty' e; rw [e, tyEqb_eq h]
 ·cases h
def fldsB (E : Env) (i : Nat) : Nat → List Ty → List Field → Bool
 | _, [], [] => true
 | j, ty :: ts, f :: fs => isD E f.type ty && (decide (f.offset = E.foff i j) && (!(Nat.beq (E.size ty) 0) && (decide (f.name ≠ "_") && fldsB E i (j + 1) ts fs)))
 | _, _, _ => false
theorem fldsB_at {E : Env} {i : Nat} : ∀ (ts : List Ty) (fs : List Field) (j : Nat), fldsB E i j ts fs = true → fs.length = ts.length ∧ ∀ (q : Nat) (f : Field), fs[q]? = some f → ∃ ty, nth? ts q = some ty ∧ E.tk f.type = .data ty ∧ f.offset = E.foff i (j + q) ∧ E.size ty ≠ 0 ∧ f.name ≠ "_"
 | [], [], j, h => ⟨rfl, fun q f hq => by simp at hq⟩
 | [], _ :: _, j, h => by cases h
 | _ :: _, [], j, h => by cases h
 | ty :: ts, f :: fs, j, h => by
  simp only [fldsB, Bool.and_eq_true] at h
  obtain ⟨h1, h2, h3, h4, h5⟩ := h
  obtain ⟨a, b⟩ := fldsB_at ts fs (j + 1) h5
  refine ⟨by simp [a], fun q g hq => ?_⟩
  cases q with
  | zero =>
   cases hq
   refine ⟨ty, rfl, isD_eq h1, of_decide_eq_true h2, fun h0 => ?_, of_decide_eq_true h4⟩
   rw [h0] at h3
   cases h3
  | succ q =>
   obtain ⟨ty', c1, c2, c3, c4⟩ := b q g (by simpa using hq)
   exact ⟨ty', c1, c2, by rw [c3, show j + 1 + q = j + (q + 1) by omega], c4⟩
def descB (P : Program) (E : Env) (t : TypeId) (ty : Ty) : Bool :=
 match ty, P.underlying t with
 | .bool, some .bool => true
 | .int k, some (.int k') => decide (k' = k)
 | .str, some .string => true
 | .slice e, some (.slice te) => isD E te e
 | .arr n e, some (.array n' te) => Nat.beq n' n && isD E te e
 | .named i, some (.struct fs) => fldsB E i 0 (E.fields i) fs.toList
 | _, _ => false
theorem descB_ok {P : Program} {E : Env} {t : TypeId} {ty : Ty} (h : descB P E t ty = true) : Desc P E t ty := by
 unfold descB at h
 split at h
 ·rename_i e; exact e
 ·rename_i k k' e
  have := of_decide_eq_true h
  subst this
  exact e
 ·rename_i e; exact e
 ·rename_i e' te e; exact ⟨te, e, isD_eq h⟩
 ·rename_i n e' n' te e
  rw [Bool.and_eq_true] at h
  have := Nat.eq_of_beq_eq_true h.1
  subst this
  exact ⟨te, e, isD_eq h.2⟩
 ·rename_i i fs e
  obtain ⟨a, b⟩ := fldsB_at _ _ 0 h
  refine ⟨fs, e, by rw [← Array.length_toList, a], fun j f hj => ?_⟩
  obtain ⟨ty, c1, c2, c3, c4⟩ := b j f (by rw [Array.getElem?_toList]; exact hj)
  exact ⟨ty, c1, c2, by rw [c3, Nat.zero_add], c4⟩
 ·cases h
def tkB (P : Program) (E : Env) (t : TypeId) (k : TK) : Bool :=
 match k, P.info? t with
 | .other, _ => true
 | .data ty, some i => Nat.beq i.size (E.size ty) && (Nat.ble i.bytes 8192 && (zOk E depth ty && descB P E t ty))
 | .ptr, some i => Nat.beq i.size 1 && (match P.underlying t with | some (.pointer _) => true | _ => false)
 | .func, some i => Nat.beq i.size 1 && (match P.underlying t with | some (.func _ _ _) => true | _ => false)
 | .iface, some i => Nat.beq i.size 1 && (match P.underlying t with | some (.interface _) => true | _ => false)
 | _, none => false
def tbB (P : Program) (E : Env) : Nat → List TK → Bool
 | _, [] => true
 | t, k :: r => tkB P E t k && tbB P E (t + 1) r
def zeroL (P : Program) : Nat → List TK → List (Option (Option Value))
 | _, [] => []
 | t, .other :: r => none :: zeroL P (t + 1) r
 | t, _ :: r => (P.info? t).map (·.zero) :: zeroL P (t + 1) r
def zeroR (E : Env) : List TK → List (Option (Option Value))
 | [] => []
 | .other :: r => none :: zeroR E r
 | .data ty :: r => some (some (toV ty (zeroC E depth ty))) :: zeroR E r
 | .ptr :: r => some (some (.pointer none)) :: zeroR E r
 | .func :: r => some (some .nilFunc) :: zeroR E r
 | .iface :: r => some (some .nilIface) :: zeroR E r
theorem tkAll_of {P : Program} {E : Env} : ∀ (l : List TK) (t : Nat), tbB P E t l = true → zeroL P t l = zeroR E l → TkAll P E t l
 | [], _, _, _ => trivial
 | k :: r, t, h, hz => by
  simp only [tbB, Bool.and_eq_true] at h
  obtain ⟨h1, h2⟩ := h
  cases k with
  | other => exact ⟨trivial, tkAll_of r (t + 1) h2 (by simp only [zeroL, zeroR, List.cons.injEq] at hz; exact hz.2)⟩
  | data ty =>
   simp only [zeroL, zeroR, List.cons.injEq] at hz
   refine ⟨?_, tkAll_of r (t + 1) h2 hz.2⟩
   unfold tkB at h1
   cases hi : P.info? t with
   | none => rw [hi] at h1; cases h1
   | some i =>
    rw [hi] at h1 hz
    simp only [Bool.and_eq_true] at h1
    exact tym_of hi (Nat.eq_of_beq_eq_true h1.1) (Nat.le_of_ble_eq_true h1.2.1) (Option.some.inj hz.1) (descB_ok h1.2.2.2) h1.2.2.1
  | ptr =>
   simp only [zeroL, zeroR, List.cons.injEq] at hz
   refine ⟨?_, tkAll_of r (t + 1) h2 hz.2⟩
   unfold tkB at h1
   cases hi : P.info? t with
   | none => rw [hi] at h1; cases h1
   | some i =>
    rw [hi] at h1 hz
    simp only [Bool.and_eq_true] at h1
    obtain ⟨a, b⟩ := h1
    split at b
    ·rename_i e he; exact ⟨⟨_, he⟩, i, hi, Nat.eq_of_beq_eq_true a, Option.some.inj hz.1⟩
    ·cases b
  | func =>
   simp only [zeroL, zeroR, List.cons.injEq] at hz
   refine ⟨?_, tkAll_of r (t + 1) h2 hz.2⟩
   unfold tkB at h1
   cases hi : P.info? t with
   | none => rw [hi] at h1; cases h1
   | some i =>
    rw [hi] at h1 hz
    simp only [Bool.and_eq_true] at h1
    obtain ⟨a, b⟩ := h1
    split at b
    ·rename_i e he; exact ⟨⟨_, _, _, he⟩, i, hi, Nat.eq_of_beq_eq_true a, Option.some.inj hz.1⟩
    ·cases b
  | iface =>
   simp only [zeroL, zeroR, List.cons.injEq] at hz
   refine ⟨?_, tkAll_of r (t + 1) h2 hz.2⟩
   unfold tkB at h1
   cases hi : P.info? t with
   | none => rw [hi] at h1; cases h1
   | some i =>
    rw [hi] at h1 hz
    simp only [Bool.and_eq_true] at h1
    obtain ⟨a, b⟩ := h1
    split at b
    ·rename_i e he; exact ⟨⟨_, he⟩, i, hi, Nat.eq_of_beq_eq_true a, Option.some.inj hz.1⟩
    ·cases b
open Go
def headC : Code → List Code → Option (Array Oper × List Code)
 | .region _ ops false, k => some (ops, k)
 | .seq a b, k => headC a (b :: k)
 | _, _ => none
section
variable (E : Env)
def dcodes (S : FuncId → Option (Spec E)) (L : Nat → LoopInfo E) (N : Nat) : Nat → List Code → Fr E.T → St E.T → Tree (CodeOut E)
 | _, [], fr, st => .ret (.normal, fr, st)
 | i, c :: r, fr, st => (dcode E S L N i c fr st).bind fun p => match p.1 with
  | .normal => dcodes S L N (i + nLoops c) r p.2.1 p.2.2
  | e => .ret (e, p.2.1, p.2.2)
def dbodyE (S : FuncId → Option (Spec E)) (L : Nat → LoopInfo E) (N : Nat) (fn : Func) (args : List (DVal E.T)) (st : St E.T) (pan : Option (DVal E.T)) : Tree (Bool × St E.T) :=
 Tree.need fn.results.toList.isEmpty <| match fn.body with
 | some c0 => match headC c0 [] with
  | some (ops, k) => match ops.toList with
   | o :: r =>
    match o.op, o.guard with
    | .call { callee := .builtin .recover, .. }, none =>
     (dops E S ops.toList r (put E (frame E fn args) o.dst (panVal E pan)) st).bind fun
     | .panic _ _ _ => .fail
     | .done fr1 st1 => (dcodes E S L N 0 k fr1 st1).bind fun p => match p.1 with
      | .normal => finD E st.length pan p.2.1 p.2.2
      | .ret => finD E st.length pan p.2.1 p.2.2
      | _ => .fail
    | _, _ => .fail
   | [] => .fail
  | none => .fail
 | none => .fail
end
section
variable {P : Program} {E : Env}
abbrev QS := Exit → Act → List Frame → World → Prop
def thenK (P : Program) (Q : QS) : List Code → QS
 | [] => Q
 | c :: k => Exit.thenS (c.wpS P (thenK P Q k)) (thenK P Q k)
theorem thenK_other {Q : QS} {e : Exit} {a : Act} {cs : List Frame} {w : World} (he : e ≠ .normal) (h : Q e a cs w) : ∀ k, thenK P Q k e a cs w
 | [] => h
 | c :: k => by
  have := thenK_other he h k
  cases e with
  | normal => exact absurd rfl he
  | _ => exact this
theorem headC_ok {Q : QS} {a : Act} {cs : List Frame} {w : World} {ops : Array Oper} {k' : List Code} : ∀ (c0 : Code) (k : List Code), headC c0 k = some (ops, k') → wpOpsS P ops (thenK P Q k') (List.range ops.size) a cs w → c0.wpS P (thenK P Q k) a cs w
 | .region _ o false, k, h, hw => by cases h; exact wpS_region hw
 | .region _ o true, k, h, hw => by cases h
 | .seq x y, k, h, hw => wpS_seq (headC_ok x (y :: k) h hw)
 | .skip, _, h, _ => by cases h
 | .cond _ _ _, _, h, _ => by cases h
 | .loop _, _, h, _ => by cases h
 | .block _ _, _, h, _ => by cases h
 | .exit _, _, h, _ => by cases h
 | .ret, _, h, _ => by cases h
 | .rangeFunc _ _ _ _, _, h, _ => by cases h
 | .scope _, _, h, _ => by cases h
 | .label _, _, h, _ => by cases h
 | .goto _, _, h, _ => by cases h
 | .refuse _, _, h, _ => by cases h
def LoopsOkL (S : FuncId → Option (Spec E)) (L : Nat → LoopInfo E) (N : Nat) : Nat → List Code → Prop
 | _, [] => True
 | i, c :: k => LoopsOk S L N i c ∧ LoopsOkL S L N (i + nLoops c) k
theorem headC_loops {S : FuncId → Option (Spec E)} {L : Nat → LoopInfo E} {N : Nat} {ops : Array Oper} {k' : List Code} : ∀ (c0 : Code) (k : List Code) (i : Nat), headC c0 k = some (ops, k') → LoopsOk S L N i c0 → LoopsOkL S L N (i + nLoops c0) k → LoopsOkL S L N i k'
 | .region _ o false, k, i, h, hc, hk => by cases h; exact hk
 | .region _ o true, k, i, h, hc, hk => by cases h
 | .seq x y, k, i, h, hc, hk => headC_loops x (y :: k) i h hc.1 ⟨hc.2, by simpa [nLoops, Nat.add_assoc] using hk⟩
 | .skip, _, _, h, _, _ => by cases h
 | .cond _ _ _, _, _, h, _, _ => by cases h
 | .loop _, _, _, h, _, _ => by cases h
 | .block _ _, _, _, h, _, _ => by cases h
 | .exit _, _, _, h, _, _ => by cases h
 | .ret, _, _, h, _, _ => by cases h
 | .rangeFunc _ _ _ _, _, _, h, _, _ => by cases h
 | .scope _, _, _, h, _, _ => by cases h
 | .label _, _, _, h, _, _ => by cases h
 | .goto _, _, _, h, _, _ => by cases h
 | .refuse _, _, _, h, _, _ => by cases h
theorem dcodes_ok (HS : Sound P E) (hmix : P.follows .mixedOrders = true) {S : FuncId → Option (Spec E)} (HC : CallOk P E S) {L : Nat → LoopInfo E} {N : Nat} {Q : QS} {cs : List Frame} : ∀ (k : List Code) (i : Nat) {fr : Fr E.T} {st : St E.T} {a : Act} {w : World} {σ : Sg} {out : CodeOut E}, LoopsOkL S L N i k →
  StRep E σ st w → FrRep E σ st w fr a → (dcodes E S L N i k fr st).get = some out → PostC E σ st w (fun e a w => Q e a cs w) out → thenK P Q k .normal a cs w
 | [], i, fr, st, a, w, σ, out, hL, hst, hfr, h, hp => by
  cases h
  exact hp σ w a _ (Mf.refl hst) hfr .normal
 | c :: k, i, fr, st, a, w, σ, out, hL, hst, hfr, h, hp => by
  simp only [dcodes] at h
  obtain ⟨⟨e, fr1, st1⟩, h1, h2⟩ := Tree.get_bind_some h
  show c.wpS P (thenK P Q k) a cs w
  refine wpS_of_wp (dcode_ok HS hmix HC c i hL.1 hst hfr h1 (fun σ' w' a' x m hfr' hx => ?_))
  cases hx with
  | normal => exact dcodes_ok HS hmix HC k (i + nLoops c) hL.2 m.rep hfr' h2 (hp.later m)
  | exit id => cases h2; exact thenK_other (by intro h; cases h) (hp σ' w' a' _ m hfr' (.exit id)) k
  | ret => cases h2; exact thenK_other (by intro h; cases h) (hp σ' w' a' _ m hfr' .ret) k
  | panic v u hv => cases h2; exact thenK_other (by intro h; cases h) (hp σ' w' a' _ m hfr' (.panic v u hv)) k
theorem dbodyE_ok (HS : Sound P E) (hmix : P.follows .mixedOrders = true) {S : FuncId → Option (Spec E)} (HC : CallOk P E S) {L : Nat → LoopInfo E} {N : Nat} {f : FuncId} {fn : Func} {c0 : Code}
  (hf : P.funcs[f]? = some fn) (hb : fn.body = some c0) (hL : LoopsOk S L N 0 c0) (hent : Enters P f) : DSpecOk P E f (dbodyE E S L N fn) := by
 refine ⟨hent, ?_⟩
 intro σ st w ds us pan u b st' hst hds hpan h
 unfold dbodyE at h
 obtain ⟨hres, h⟩ := Tree.get_need h
 have hres' : fn.results = #[] := by
  rw [List.isEmpty_iff] at hres
  exact Array.toList_eq_nil_iff.1 hres
 rw [hb] at h
 simp only at h
 split at h
 ·rename_i ops k hhead
  split at h
  ·rename_i o r hops
   split at h
   ·rename_i args ats hop hg
    obtain ⟨out, h1, h2⟩ := Tree.get_bind_some h
    cases out with
    | panic v fr st => cases h2
    | done fr1 st1 =>
     obtain ⟨⟨e, fr2, st2⟩, h3, h4⟩ := Tree.get_bind_some h2
     have hfr0 := frame_ok (fn := fn) hds
     have hi0 : ops[0]? = some o := by rw [← Array.getElem?_toList, hops]; rfl
     refine callsD_of_wpS hf hb (fun c₀ cs hm => ?_)
     obtain ⟨uv, cs', hrec, hcs, hfr1, hor⟩ : ∃ (uv : Value) (u' : FrameMode), (match recoverD (c₀ :: cs) with | some (v, cs') => v = uv ∧ cs' = { c₀ with mode := u' } :: cs | none => uv = .nilIface ∧ (c₀ :: cs) = { c₀ with mode := u' } :: cs) ∧ True ∧
       FrRep E σ st w (put E (frame E fn ds) o.dst (panVal E pan)) (({ tmps := us.toArray ++ Array.replicate (fn.ntmps - us.toArray.size) undef, defers := [] } : Act).put o.dst uv) ∧
       ((panB E pan = true ∧ settle u' = .returning) ∨ (panB E pan = false ∧ u' = u)) := by
      cases hpan with
      | none =>
       refine ⟨.nilIface, .returning, ?_, trivial, put_ok hfr0 o.dst .nilifc, .inr ⟨rfl, rfl⟩⟩
       have : recoverD (c₀ :: cs) = none := by simp [recoverD, hm]
       rw [this]
       refine ⟨rfl, ?_⟩
       rw [← hm]
      | some v uv hv =>
       refine ⟨uv, .panicking [{ v := uv, recovered := true }], ?_, trivial, put_ok hfr0 o.dst hv, .inl ⟨rfl, rfl⟩⟩
       have : recoverD (c₀ :: cs) = some (uv, { c₀ with mode := .panicking [{ v := uv, recovered := true }] } :: cs) := by simp [recoverD, hm]
       rw [this]
       exact ⟨rfl, rfl⟩
     let QQ : QS := bodyPostS P fn c₀ cs (fun e u' w' => (∃ v, e = .returned v) ∧ ∃ σ', Mf σ σ' st st' w w' ∧ ((b = true ∧ settle u' = .returning) ∨ (b = false ∧ u' = u)))
     refine headC_ok (Q := QQ) c0 [] hhead ?_
     have hsz : ops.size = r.length + 1 := by rw [← Array.length_toList, hops]; rfl
     rw [hsz, List.range_eq_range', List.range'_succ]
     simp only [wpOpsS, hi0]
     rw [if_pos (by unfold Region.wanted; rw [hg])]
     have hrunR : (execOp ({ tmps := us.toArray ++ Array.replicate (fn.ntmps - us.toArray.size) undef, defers := [] } : Act).eval o).run P w = .ok .recover w := by
      unfold execOp
      simp only [hop, resolve, Sem.run_bind, Sem.run_pure, Result.andThen_ok, invoke, builtin]
     have hloops : LoopsOkL S L N 0 k := headC_loops c0 [] 0 hhead hL trivial
     have rest : wpOpsS P ops (thenK P QQ k) (List.range' 1 r.length) (({ tmps := us.toArray ++ Array.replicate (fn.ntmps - us.toArray.size) undef, defers := [] } : Act).put o.dst uv) ({ c₀ with mode := cs' } :: cs) w := by
      have hnot : ∀ k a w, ¬ thenK P QQ k .outgrown a ({ c₀ with mode := cs' } :: cs) w := by
       intro k
       induction k with
       | nil => intro a w h; obtain ⟨u', ⟨v, hv⟩, _⟩ := h; cases hv
       | cons c k ih => exact fun a w h => ih a w h
      refine opsS_of (fun a w h => hnot k a w h) _ _ _ ?_
      ·refine dops_ok HS HC r 1 (by rw [hops]; rfl) hst hfr1 h1 ?_
       intro σ1 w1 a1 m1 hfr1'
       refine dcodes_ok HS hmix HC k 0 hloops m1.rep hfr1' h3 ?_
       intro σ2 w2 a2 x m2 hfr2 hx
       have fin : ∀ (fr : Fr E.T) (st2' : St E.T), (finD E st.length pan fr st2').get = some (b, st') → Mf σ σ2 st st2' w w2 → FrRep E σ2 st2' w2 fr a2 →
         a2.defers = [] ∧ ∃ u', ({ c₀ with mode := cs' } :: cs) = { c₀ with mode := u' } :: cs ∧ ∃ v, (results fn a2.tmps).run P w2 = .ok v w2 ∧ (∃ v', Ending.returned v = .returned v') ∧ ∃ σ', Mf σ σ' st st' w w2 ∧ ((b = true ∧ settle u' = .returning) ∨ (b = false ∧ u' = u)) := by
        intro fr st2' hfin mm hff
        unfold finD at hfin
        split at hfin
        ·rename_i hfd
         obtain ⟨hlt, hfin⟩ := Tree.get_need hfin
         cases hfin
         have hdd := hff.d
         rw [hfd] at hdd
         obtain ⟨mf, _⟩ := freeze_ok (List.range' st.length (st2'.length - st.length)) mm.rep
         have mm2 := mm.trans (mf.trans (Mv.dat HS.toEnvOk mf.rep st.length)).f
         refine ⟨by generalize a2.defers = dd at hdd; cases hdd; rfl, cs', rfl, .tuple #[], by simp [results, hres'], ⟨_, rfl⟩, σ2, Mf.take mm2 (take_rep mm2.rep (blt_all hlt)), hor⟩
        ·cases hfin
       cases hx with
       | normal => exact fin fr2 st2 h4 (m1.trans m2) hfr2
       | ret => exact fin fr2 st2 h4 (m1.trans m2) hfr2
       | exit id => cases h4
       | panic v u hv => cases h4
     rw [hrunR]
     simp only
     cases hrd : recoverD (c₀ :: cs) with
     | none =>
      rw [hrd] at hrec
      obtain ⟨rfl, hcs2⟩ := hrec
      simp only
      rw [hcs2]
      exact rest
     | some p =>
      obtain ⟨v, cs2⟩ := p
      rw [hrd] at hrec
      obtain ⟨rfl, rfl⟩ := hrec
      exact rest
   ·cases h
  ·cases h
 ·cases h
theorem dfullE_ok {P : Program} (HS : Sound P E) (hmix : P.follows .mixedOrders = true) {S : List (Nat × Spec E)} (hS : AllS P E S) {L : Nat → LoopInfo E} (hL : ∀ i, (L i).closed = none) {N : Nat} {f : FuncId} {fn : Func} {c : Code}
  (hen : Enters P f) (hf : P.funcs[f]? = some fn) (hb : fn.body = some c) : DSpecOk P E f (dbodyE E (lookS S) L N fn) :=
 dbodyE_ok HS hmix (callOk HS (lookS_ok hS)) hf hb (loopsOk_open hL c 0) hen
end
open Go
@[reducible] def Ty.i6 : Ty := .int .i64
@[reducible] def Sh.iv : Sh := .v (.int .i64)
@[reducible] def DVal.iv {T : Nat → Type} (x : I T (.int .i64)) : DVal T := .val (.int .i64) x
@[reducible] def DVal.sv {T : Nat → Type} (x : I T .str) : DVal T := .val .str x
@[reducible] def DVal.bv {T : Nat → Type} (x : I T .bool) : DVal T := .val .bool x
@[reducible] def DVal.nv {T : Nat → Type} (i : Nat) (x : I T (.named i)) : DVal T := .val (.named i) x
@[reducible] def ShO.bx (s : Sh) : ShO := .box false s
@[reducible] def ShO.al (e : Ty) : ShO := .arr .live e
@[reducible] def Obj.bx {T : Nat → Type} (c : DVal T) : Obj T := .box false c
@[reducible] def Obj.al {T : Nat → Type} (e : Ty) (xs : List (I T e)) : Obj T := .arr .live e xs
open Go Go.RowKit
section
variable {P : Program} {E : Env} {w w' : World} {σ : Sg} {st : St E.T} {M : Nat → Prop}
theorem below_mf (hst : StRep E σ st w) (h : Below w.heap.size w w') : Mf σ σ st st w w' := (Mv.still hst h.os h.tape h.output h.size h.block).f
theorem str_val {s : List UInt8} (h : s.length ≤ lim) : VRep E σ st w M (.val .str s) (.string ⟨s.toArray⟩) := by
 have h1 : CRep E w M .str (ByteArray.mk s.toArray).data.toList [.string ⟨s.toArray⟩] := CRep.str _ (by simpa [ByteArray.size] using h)
 exact .data .str _ _ (.val .str _ _ h1)
def repS (E : Env) : List (DVal E.T) → Tree (Res E.T)
 | [.val .str s, .val (.int .i64) n] => .ite (N.repOk (α := UInt8) s n) (.ret (.ret [.val .str (N.repL (α := UInt8) s n)])) .fail
 | _ => .fail
theorem repeatL_eq (l : List UInt8) : ∀ c, Lib.repeatL l c = (List.replicate c l).flatten
 | 0 => rfl
 | c + 1 => by rw [Lib.repeatL, List.replicate_succ, List.flatten_cons, repeatL_eq l c]
theorem rep_ok {f : FuncId} (hen : Enters P f)
  (hc : ∀ (s : ByteArray) (c : Nat) (w : World), c ≤ 9223372036854775807 → s.size * c ≤ 140737488355328 → Calls P f #[.string s, .int .i64 c] w fun e w' => e = .returned (.string ⟨(Lib.repeatL s.data.toList c).toArray⟩) ∧ Below w.heap.size w w') :
  SpecOk P E f (.pure [.str, .int .i64] (repS E)) := by
 refine ⟨hen, fun {σ w ds us r} hst hds hr => ?_⟩
 unfold repS at hr
 split at hr
 ·rename_i s n
  simp only [Tree.get] at hr
  cases hk : N.repOk (α := UInt8) s n with
  | false => rw [hk] at hr; cases hr
  | true =>
   rw [hk] at hr
   cases hr
   cases hds with
   | cons v r u us h1 h2 =>
    cases h2 with
    | cons v r u2 us h2 h3 =>
     cases h3
     obtain ⟨b, rfl, hb, _⟩ := strRep h1
     have := intRep h2; subst this
     unfold N.repOk at hk
     simp only [Bool.and_eq_true, decide_eq_true_eq] at hk
     obtain ⟨k1, k2, k3⟩ := hk
     obtain ⟨c, hn⟩ : ∃ c : Nat, n = ((c : Nat) : Int) := ⟨Int.toNat n, (Int.toNat_of_nonneg k1).symm⟩
     subst hn
     rw [Int.toNat_natCast] at k3
     have hsz : b.size = s.length := by rw [← hb]; exact Array.length_toList.symm
     have k2' : c ≤ 2147483648 := Int.ofNat_le.1 k2
     have k3' : s.length * c ≤ 2147483648 := k3
     have hcall := hc b c w (by omega) (by rw [hsz]; omega)
     refine hcall.mono fun e w' ⟨he, hbel⟩ => ⟨σ, below_mf hst hbel, ?_⟩
     rw [he, hb, repeatL_eq]
     have hl : (List.replicate c s).flatten.length ≤ lim := by
      rw [List.length_flatten, List.map_replicate, List.sum_replicate_nat, Nat.mul_comm]
      exact k3'
     exact str_val hl
 ·cases hr
end
open Go Go.RowKit
def seqDrop : Nat → Code → Code
 | 0, c => c
 | n + 1, .seq _ b => seqDrop n b
 | _ + 1, _ => .skip
def seqTake : Nat → Code → Code
 | 0, _ => .skip
 | n + 1, .seq a b => .seq a (seqTake n b)
 | _ + 1, c => c
def seqOk : Nat → Code → Bool
 | 0, _ => true
 | n + 1, .seq _ b => seqOk n b
 | _ + 1, _ => false
open Go.Proofs.YthgefhjknifehaaGreatDoor.N (chunkS chunkL)
def KpS (ks : List Nat) (W W' : World) : Prop := W.heap.size ≤ W'.heap.size ∧ ∀ b ∈ ks, W'.heap[b]? = W.heap[b]?
theorem KpS.cell {ks : List Nat} {W W' : World} (h : KpS ks W W') {p : Addr} (hp : p.block ∈ ks) : W'.cell? p = W.cell? p := World.cell?_of_block (h.2 _ hp)
theorem KpS.refl (ks : List Nat) (W : World) : KpS ks W W := ⟨Nat.le_refl _, fun _ _ => rfl⟩
theorem KpS.trans {ks : List Nat} {A B C : World} (h : KpS ks A B) (k : KpS ks B C) : KpS ks A C := ⟨Nat.le_trans h.1 k.1, fun b hb => (k.2 b hb).trans (h.2 b hb)⟩
theorem KpS.two {W W' : World} {a b : Nat} (h : W.heap.size ≤ W'.heap.size) (h1 : W'.heap[a]? = W.heap[a]?) (h2 : W'.heap[b]? = W.heap[b]?) : KpS [a, b] W W' :=
 ⟨h, fun k hk => by
  rcases List.mem_cons.1 hk with rfl | hk
  ·exact h1
  ·rw [List.mem_singleton.1 hk]; exact h2⟩
theorem KpS.putObj {ks : List Nat} {W : World} {l B : Nat} {o o' : Go.Obj} (hl : B ≤ l) (h : W.heap[l]? = some o) (hks : ∀ k ∈ ks, k < B) : KpS ks W (W.putObj l o') :=
 ⟨by simp, fun b hb => World.putObj_heap_other (by have := hks b hb; omega)⟩
theorem region_end {F : Fence} {n : Nat} {P : Program} {c : Code} {Q : Exit → Act → World → Prop} {a : Act} {w : World} (a' : Act) (w' : World) (hk : Q .normal a' w') (h : ∀ Q' : Exit → Act → World → Prop, Q' .normal a' w' → c.wpIn F n P Q' a w) : c.wpIn F n P Q a w := h Q hk
def chunkV (b len k : Nat) : Value := .slice (some ⟨b, 32 * k, none⟩) (min 32 (len - 32 * k)) (min 32 (len - 32 * k))
def bodyOf (fn : Func) : Code :=
 match fn.body with
 | some c => c
 | none => .skip
theorem list_eq (l : List Value) {n : Nat} (h : l.length = n) : l = (List.range n).map fun i => l.getD i undef := by
 subst h
 apply List.ext_getElem
 ·simp
 ·intro i h1 h2
  simp [List.getD_eq_getElem?_getD, List.getElem?_eq_getElem h1]
section
variable {P : Program} {E : Env} {w w' : World} {σ σ' : Sg} {st st' : St E.T} {M : Nat → Prop}
variable {a : Act} {fr : Fr E.T}
def Exit.orElse (K : Act → World → Prop) (Q : Exit → Act → World → Prop) : Exit → Act → World → Prop
 | .normal, a, w => K a w
 | e, a, w => Q e a w
theorem dtake_ok (HS : Sound P E) (hmix : P.follows .mixedOrders = true) {S : FuncId → Option (Spec E)} (HC : CallOk P E S) {L : Nat → LoopInfo E} {N : Nat} : ∀ (m : Nat) (c : Code) (i : Nat) {fr : Fr E.T} {st : St E.T} {a : Act} {w : World} {σ : Sg} {out : CodeOut E} {Q : Exit → Act → World → Prop}, seqOk m c = true → LoopsOk S L N i c →
  StRep E σ st w → FrRep E σ st w fr a → (dcode E S L N i (seqTake m c) fr st).get = some out → PostC E σ st w (Exit.orElse (fun a w => (seqDrop m c).wp P Q a w) Q) out → c.wp P Q a w
 | 0, c, i, fr, st, a, w, σ, out, Q, hs, hL, hst, hfr, h, hp => by
  cases h
  exact hp σ w a _ (Mf.refl hst) hfr .normal
 | m + 1, .seq c1 c2, i, fr, st, a, w, σ, out, Q, hs, hL, hst, hfr, h, hp => by
  simp only [seqTake, dcode] at h
  obtain ⟨⟨e, fr1, st1⟩, h1, h2⟩ := Tree.get_bind_some h
  refine wp_seq (dcode_ok HS hmix HC c1 i hL.1 hst hfr h1 (fun σ' w' a' x m' hfr' hx => ?_))
  cases hx with
  | normal => exact dtake_ok HS hmix HC m c2 (i + nLoops c1) hs hL.2 m'.rep hfr' h2 (hp.later m')
  | exit id => cases h2; exact hp σ' w' a' _ m' hfr' (.exit id)
  | ret => cases h2; exact hp σ' w' a' _ m' hfr' .ret
  | panic v u hv => cases h2; exact hp σ' w' a' _ m' hfr' (.panic v u hv)
 | m + 1, .skip, i, fr, st, a, w, σ, out, Q, hs, hL, hst, hfr, h, hp => by cases hs
 | m + 1, .region .., i, fr, st, a, w, σ, out, Q, hs, hL, hst, hfr, h, hp => by cases hs
 | m + 1, .cond .., i, fr, st, a, w, σ, out, Q, hs, hL, hst, hfr, h, hp => by cases hs
 | m + 1, .block .., i, fr, st, a, w, σ, out, Q, hs, hL, hst, hfr, h, hp => by cases hs
 | m + 1, .loop .., i, fr, st, a, w, σ, out, Q, hs, hL, hst, hfr, h, hp => by cases hs
 | m + 1, .exit .., i, fr, st, a, w, σ, out, Q, hs, hL, hst, hfr, h, hp => by cases hs
 | m + 1, .ret, i, fr, st, a, w, σ, out, Q, hs, hL, hst, hfr, h, hp => by cases hs
 | m + 1, .scope .., i, fr, st, a, w, σ, out, Q, hs, hL, hst, hfr, h, hp => by cases hs
 | m + 1, .label .., i, fr, st, a, w, σ, out, Q, hs, hL, hst, hfr, h, hp => by cases hs
 | m + 1, .goto .., i, fr, st, a, w, σ, out, Q, hs, hL, hst, hfr, h, hp => by cases hs
 | m + 1, .rangeFunc .., i, fr, st, a, w, σ, out, Q, hs, hL, hst, hfr, h, hp => by cases hs
 | m + 1, .refuse .., i, fr, st, a, w, σ, out, Q, hs, hL, hst, hfr, h, hp => by cases hs
def TailPut (P : Program) (fn : Func) (c : Code) (q : Nat) (ts : TypeId) : Prop :=
 ∀ (a : Act) (w : World) (o : Option Addr) (b len cap : Nat) (bs : List UInt8), a.defers = [] → a.tmps.size = fn.ntmps → a.tmps[q]? = some (.slice o len cap) → bs.length = len → len ≤ 2147483648 → len ≤ cap → (0 < len → o = some ⟨b, 0, none⟩) → (0 < len → b < w.heap.size) →
  (∀ (j : Nat) x, bs[j]? = some x → w.cell? ⟨b, j, none⟩ = some (.int .u8 (x.toNat : Int))) →
  ∀ R : Ending → World → Prop, (∀ v W', W'.ownsRow w.heap.size ts 1 v ((len + 31) / 32) ((List.range ((len + 31) / 32)).map fun k => Value.string ⟨(chunkS bs k).toArray⟩) → Below w.heap.size w W' → R (.returned v) W') → c.wpIn .wide 3 P (bodyPostM .wide 3 P fn R) a w
def ownIn (q : Nat) (fr : Fr E.T) (st : St E.T) : Tree (List UInt8) :=
 match nth fr.s q .undef with
 | .own k => match nth? st k with
  | some (.arr _ e xs) => match tyEq e (.int .u8) with
   | some h => .ret (castI (T := E.T) (congrArg Ty.slice h.down) xs)
   | none => .fail
  | _ => .fail
 | _ => .fail
theorem ownIn_get {q : Nat} {bs : List UInt8} (h : (ownIn (E := E) q fr st).get = some bs) : ∃ k l, nth fr.s q .undef = .own k ∧ nth? st k = some (.arr l (.int .u8) bs) := by
 unfold ownIn at h
 split at h
 ·rename_i k hk
  split at h
  ·rename_i l e xs hx
   split at h
   ·rename_i he _
    cases he.down
    cases h
    exact ⟨k, l, hk, hx⟩
   ·cases h
  ·cases h
 ·cases h
def dbodyR (E : Env) (S : FuncId → Option (Spec E)) (L : Nat → LoopInfo E) (N m q : Nat) (fn : Func) (args : List (DVal E.T)) (st : St E.T) : Tree (Res E.T × St E.T) :=
 match st, fn.body with
 | [], some c => (dcode E S L N 0 (seqTake m c) (frame E fn args) []).bind fun p => match p.1, p.2.1.d with
  | .normal, [] => Tree.need (Nat.beq p.2.1.s.length fn.ntmps) ((ownIn q p.2.1 p.2.2).bind fun bs => .ret (.ret [.val (.slice .str) (chunkL bs)], []))
  | .ret, [] => ending E false 0 fn p.2.1 p.2.2 none
  | _, _ => .fail
 | _, _ => .fail
theorem bytes_cells {xs : List UInt8} {cs : List Value} (h : LRep E w M (.int .u8) xs cs) : ∀ (j : Nat) x, xs[j]? = some x → cs[j]? = some (.int .u8 (x.toNat : Int)) := by
 induction xs generalizing cs with
 | nil => intro j x hx; cases hx
 | cons y r ih =>
  cases h with
  | cons e x r c1 c2 h h' =>
   cases h
   intro j x hx
   cases j with
   | zero => cases hx; rfl
   | succ j => exact ih h' j x hx
theorem strs_rep : ∀ (l : List (List UInt8)), (∀ s ∈ l, s.length ≤ lim) → LRep E w M .str l (l.map fun s => Value.string ⟨s.toArray⟩)
 | [], _ => .nil _
 | s :: r, h => by
  have h1 : CRep E w M .str (ByteArray.mk s.toArray).data.toList [.string ⟨s.toArray⟩] := CRep.str _ (by simpa [ByteArray.size] using h s (by simp))
  have := LRep.cons (E := E) .str s r [Value.string ⟨s.toArray⟩] _ (by simpa using h1) (strs_rep r fun s hs => h s (by simp [hs]))
  simpa using this
theorem dbodyR_ok (HS : Sound P E) (hmix : P.follows .mixedOrders = true) {S : List (Nat × Spec E)} (hS : AllS P E S) {L : Nat → LoopInfo E} {N m q : Nat} {f : FuncId} {fn : Func} {c : Code} {ts : TypeId} (hf : P.funcs[f]? = some fn) (hb : fn.body = some c) (hs : seqOk m c = true)
  (h : ∀ k g, (L k).closed = some g → ∀ fr st out, (g fr st).get = some out → ∃ m fr', (loopT E (stepOf E S L N k fn) (L k).keep (L k).mvs st.length m fr st).get = some (out.1, fr', out.2.2) ∧ Weak out.2.1 fr')
  (ht : TailPut P fn (seqDrop m c) q ts) : FnOk P E f (dbodyR E (lookS S) L N m q fn) := by
 have hL : LoopsOk (lookS S) L N 0 c := loopsOk_of c 0 fun k cb hk f' hf' => by
  rw [Nat.zero_add] at hf' ⊢
  have := h k f' hf'
  unfold stepOf at this
  rw [hb] at this
  simp only [hk] at this
  exact this
 intro σ st w ds us r st' hst hds hr
 unfold dbodyR at hr
 rw [hb] at hr
 cases st with
 | cons _ _ => cases hr
 | nil =>
 simp only at hr
 obtain ⟨⟨e, fr, st1⟩, h1, h2⟩ := Tree.get_bind_some hr
 refine callsIn_wide.1 (callsIn_of_wp_marks (n := 3) hf hb trivial (wpIn_wide.2 ?_) rfl)
 refine dtake_ok HS hmix (callOk HS (lookS_ok hS)) m c 0 hs hL hst (frame_ok hds) h1 (fun σ' w' a' x m' hfr hx => ?_)
 simp only at h2 hfr m'
 split at h2
 ·rename_i hd
  cases hx
  obtain ⟨hn, h2⟩ := Tree.get_need h2
  obtain ⟨bs, hbs, h2⟩ := Tree.get_bind_some h2
  cases h2
  obtain ⟨k, l, hk, hkx⟩ := ownIn_get hbs
  have hdd := hfr.d
  rw [hd] at hdd
  have hdef : a'.defers = [] := by generalize a'.defers = dd at hdd; cases hdd; rfl
  have hsz : a'.tmps.size = fn.ntmps := by
   have := VReps.length hfr.s
   rw [Array.length_toList] at this
   rw [← this]; exact Nat.eq_of_beq_eq_true hn
  have hv := dget_ok hfr (.tmp q)
  simp only [dget] at hv
  rw [hk] at hv
  have hq : a'.eval (.tmp q) = σ' k := by
   generalize a'.eval (.tmp q) = uu at hv ⊢
   cases hv with
   | data t d cs hvt => cases hvt; rfl
  have hob := m'.rep.obj k _ hkx
  generalize hsk : σ' k = sk at hob hq
  cases hob with
  | arr l e xs v how =>
  obtain ⟨hll, hcase⟩ := how
  have hbl : ∀ b, MB σ' st1 b → b < w'.heap.size := fun b hb => MB_lt m'.rep hb
  have hrep0 : StRep E σ' (st1.take 0) w' := take_rep m'.rep (fun k hk => by simp [stRefs] at hk)
  have m0 : Mf σ σ' [] (st1.take ([] : St E.T).length) w w' := Mf.take m' hrep0
  have hst0 : (st1.take ([] : St E.T).length) = [] := rfl
  rw [hst0] at m0
  have hbs2 : bs.length ≤ 2147483648 := hll
  have hch : ∀ s ∈ chunkL bs, s.length ≤ lim := by
   intro s hs
   obtain ⟨k, _, rfl⟩ := List.mem_map.1 hs
   unfold chunkS lim
   rw [List.length_take]
   omega
  have hfin : ∀ (v : Value) (W' : World), W'.ownsRow w'.heap.size ts 1 v ((bs.length + 31) / 32) ((List.range ((bs.length + 31) / 32)).map fun k => Value.string ⟨(chunkS bs k).toArray⟩) → Below w'.heap.size w' W' → Back E σ [] [] w (.ret [.val (.slice .str) (chunkL bs)]) (.returned v) W' := by
   intro v W' hrow hbel
   refine ⟨σ', m0.trans (below_mf m0.rep hbel), ?_⟩
   show VRep E σ' [] W' (MB σ' ([] : St E.T)) (.val (.slice .str) (chunkL bs)) v
   have hlr : LRep E W' (MB σ' ([] : St E.T)) .str (chunkL bs) ((List.range ((bs.length + 31) / 32)).map fun k => Value.string ⟨(chunkS bs k).toArray⟩) := by
    have := strs_rep (E := E) (w := W') (M := MB σ' ([] : St E.T)) (chunkL bs) hch
    unfold chunkL at this ⊢
    rw [List.map_map] at this
    exact this
   have hlen : (chunkL bs).length = (bs.length + 31) / 32 := by simp [chunkL]
   obtain ⟨hl1, hor⟩ := hrow
   rcases hor with ⟨rfl, h0⟩ | ⟨g, cap, cur, rfl, hg, hh, hc1, hc2, hc3, hc4⟩
   ·have hnil : chunkL bs = [] := List.eq_nil_of_length_eq_zero (by rw [hlen]; exact h0)
    have := CRep.slice (E := E) (w := W') (M := MB σ' ([] : St E.T)) .str [] none 0 [] (.nil _) (.inl rfl) (Nat.zero_le _) (Nat.le_refl _)
    rw [hnil]
    exact .data _ _ _ (.val _ _ _ this)
   ·have := CRep.slice (E := E) (w := W') (M := MB σ' ([] : St E.T)) .str (chunkL bs) (some ⟨g, 0, none⟩) cap _ hlr (.inr ⟨g, 0, rfl, ?_, (Array.getElem?_eq_some_iff.1 hh).1, ?_⟩) (by rw [hlen]; unfold lim; omega) (by rw [hlen]; exact hc1)
    ·rw [hlen] at this
     exact .data _ _ _ (.val _ _ _ this)
    ·intro hb
     have : g < w'.heap.size := by
      rcases hb with hb | ⟨o, ob, ho, _⟩
      ·exact m0.rep.amb g hb
      ·cases ho
     omega
    ·intro j u hj
     rw [Nat.zero_add]
     have hj2 : (cur.toList.take ((bs.length + 31) / 32 * 1))[j]? = some u := by rw [hc4]; exact hj
     unfold World.cell?
     rw [hh]
     have hlt := (List.getElem?_eq_some_iff.1 hj2).1
     rw [List.getElem?_take_of_lt (by rw [List.length_take] at hlt; omega)] at hj2
     simpa using hj2
  have hget : ∀ u, a'.eval (.tmp q) = u → u ≠ undef → a'.tmps[q]? = some u := by
   intro u hu hne
   simp only [Act.eval, Array.getD_eq_getD_getElem?] at hu
   cases hc : a'.tmps[q]? with
   | none => rw [hc] at hu; exact absurd hu.symm hne
   | some x => rw [hc] at hu; rw [← hu]; rfl
  show (seqDrop m c).wp P (bodyPostM .wide 3 P fn (Back E σ [] [] w (.ret [.val (.slice .str) (chunkL bs)]))) a' w'
  refine (wpIn_wide (n := 3)).1 ?_
  rcases hcase with ⟨⟨ad, rfl⟩, rfl⟩ | ⟨g, cap, cur, el, fz, cs, rfl, hc1, hh, hz, hfz, hl, hcs, _⟩
  ·exact ht a' w' ad 0 0 0 [] hdef hsz (hget _ hq (by intro h; cases h)) rfl (by omega) (Nat.le_refl _) (fun h => by omega) (fun h => by omega) (fun j x hx => by cases hx) _ hfin
  ·refine ht a' w' (some ⟨g, 0, none⟩) g bs.length (cap + 1) bs hdef hsz (hget _ hq (by intro h; cases h)) rfl hbs2 hc1 (fun _ => rfl) (fun _ => (Array.getElem?_eq_some_iff.1 hh).1) (fun j x hx => ?_) _ hfin
   have := hcs j _ (bytes_cells hl j x hx)
   unfold World.cell?
   rw [hh]
   simpa using this
 ·rename_i hd
  cases hx
  have hdd := hfr.d
  rw [hd] at hdd
  have hdef : a'.defers = [] := by generalize a'.defers = dd at hdd; cases hdd; rfl
  have hend := ending_ok HS (keep := false) (fn := fn) m' hfr .none (r := r) (st' := st') h2
  show LeavesInM .wide 3 P fn a'.tmps _ a'.defers .returning w'
  rw [hdef]
  exact hend
 ·cases h2
end
open Go Go.RowKit
section
variable {P : Program} {E : Env} {w w' : World} {σ : Sg} {st : St E.T} {M : Nat → Prop}
def joinS (E : Env) : List (DVal E.T) → Tree (Res E.T)
 | [.val (.slice .str) l, .val .str e] => .ite (N.joinOk l e) (.ret (.ret [.val .str (N.joinL l e)])) .fail
 | _ => .fail
theorem strs_cells {l : List (List UInt8)} {cs : List Value} (h : LRep E w M .str l cs) : ∃ xs : List ByteArray, xs.map (fun b => b.data.toList) = l ∧ cs = xs.map Value.string ∧ ∀ b ∈ xs, b.size ≤ lim := by
 induction l generalizing cs with
 | nil => cases h; exact ⟨[], rfl, rfl, fun b hb => by cases hb⟩
 | cons y r ih =>
  cases h with
  | cons e x r c1 c2 h h' =>
   cases h with
   | str s hs =>
    obtain ⟨xs, h1, h2, h3⟩ := ih h'
    exact ⟨s :: xs, by simp [h1], by simp [h2], fun b hb => (List.mem_cons.1 hb).elim (fun e => by rw [e]; exact hs) (h3 b)⟩
theorem join_ok {f : FuncId} (hen : Enters P f)
  (h0 : ∀ (a : Option Addr) (c : Nat) (sep : ByteArray) (w : World), Calls P f #[.slice a 0 c, .string sep] w fun e w' => e = .returned (.string ⟨#[]⟩) ∧ w' = w)
  (h1 : ∀ (bk o c : Nat) (x sep : ByteArray) (w : World), w.cell? ⟨bk, o, none⟩ = some (.string x) → Calls P f #[.slice (some ⟨bk, o, none⟩) 1 c, .string sep] w fun e w' => e = .returned (.string x) ∧ w' = w)
  (h2 : ∀ (bk o c : Nat) (xs : List ByteArray) (sep : ByteArray) (w : World), (∀ (j : Nat) x, xs[j]? = some x → w.cell? ⟨bk, o + j, none⟩ = some (.string x)) → bk < w.heap.size → 2 ≤ xs.length → xs.length ≤ 140737488355328 → xs.length ≤ c →
   (Lib.join (xs.map (·.data.toList)) sep.data.toList).length ≤ 140737488355328 →
   Calls P f #[.slice (some ⟨bk, o, none⟩) xs.length c, .string sep] w fun e w' => e = .returned (.string ⟨(Lib.join (xs.map (·.data.toList)) sep.data.toList).toArray⟩) ∧ Below w.heap.size w w') :
  SpecOk P E f (.pure [.slice .str, .str] (joinS E)) := by
 refine ⟨hen, fun {σ w ds us r} hst hds hr => ?_⟩
 unfold joinS at hr
 split at hr
 ·rename_i l e
  simp only [Tree.get] at hr
  cases hk : N.joinOk l e with
  | false => rw [hk] at hr; cases hr
  | true =>
   rw [hk] at hr
   cases hr
   unfold N.joinOk at hk
   have hk := of_decide_eq_true hk
   cases hds with
   | cons v r u us hv h2' =>
    cases h2' with
    | cons v r u2 us he h3 =>
     cases h3
     obtain ⟨b, rfl, hb, _⟩ := strRep he
     cases hv with
     | data t d cs hvt =>
     cases hvt with
     | val t x cs hc =>
     cases hc with
     | slice e' xs a cap cs hl hm hn hcap =>
     obtain ⟨bs, hbs, hcs, _⟩ := strs_cells hl
     have hlen : l.length = bs.length := by rw [← hbs, List.length_map]
     show Calls P f #[.slice a l.length cap, .string b] w _
     have hst2 : ∀ s : List UInt8, s = N.joinL l e → ∀ (en : Ending) (w' : World), en = .returned (.string ⟨s.toArray⟩) → Below w.heap.size w w' → Back E σ [] [] w (.ret [.val .str (N.joinL l e)]) en w' := by
      intro s hs en w' he hbel
      subst hs
      exact ⟨σ, below_mf hst hbel, by rw [he]; exact str_val hk⟩
     match bs, hbs, hcs, hlen with
     | [], hbs, _, hlen =>
      have hnil : l = [] := by rw [← hbs]; rfl
      rw [hlen]
      refine (h0 a cap b w).mono fun en w' ⟨he, hw⟩ => hst2 [] (by rw [hnil]; rfl) en w' (by rw [he]) (by rw [hw]; exact Below.refl _ _)
     | [y], hbs, hcs, hlen =>
      have hl1 : l = [y.data.toList] := by rw [← hbs]; rfl
      rcases hm with h | ⟨bk, off, rfl, _, _, hcell⟩
      ·rw [h] at hlen; cases hlen
      ·rw [hlen]
       have hy : w.cell? ⟨bk, off, none⟩ = some (.string y) := by
        have := hcell 0 (.string y) (by rw [hcs]; rfl)
        simpa using this
       refine (h1 bk off cap y b w hy).mono fun en w' ⟨he, hw⟩ => hst2 y.data.toList (by rw [hl1]; simp [N.joinL, List.intercalate]) en w' (by rw [he]) (by rw [hw]; exact Below.refl _ _)
     | y :: z :: r, hbs, hcs, hlen =>
      rcases hm with h | ⟨bk, off, rfl, _, hlt, hcell⟩
      ·rw [h] at hlen; simp at hlen
      ·rw [hlen]
       have hj : N.joinL l e = Lib.join ((y :: z :: r).map (·.data.toList)) b.data.toList := by rw [hbs, hb]; rfl
       have hln : l.length ≤ 2147483648 := hn
       refine (h2 bk off cap (y :: z :: r) b w (fun j x hx => hcell j _ (by rw [hcs, List.getElem?_map, hx]; rfl)) hlt (by simp) (by omega) (by omega) (by rw [← hj]; unfold N.lim at hk; omega)).mono fun en w' ⟨he, hbel⟩ => hst2 _ hj.symm en w' he hbel
 ·cases hr
end
open Go
section
variable {P : Program} {E : Env} {w w' : World} {σ σ' : Sg} {st st' : St E.T} {M : Nat → Prop}
theorem run_copyN (w : World) (dT sT ty e : TypeId) (i : TypeInfo) (ht : P.underlying dT = some (.slice e)) (hi : P.info? e = some i) {b o dLen dCap sLen sCap m : Nat} {a : Addr} {c : Array Value} {el : TypeId} {fr : Nat × Nat} (hh : w.heap[b]? = some (.cells c el fr)) (cs : List Value)
  (hm : m = Nat.min sLen dLen) (hl : cs.length = m * i.size) (hsrc : ∀ j v, cs[j]? = some v → w.cell? (a.add j) = some v) (hfit : o + cs.length ≤ c.size) (hf : ∀ q, w.frozen? ⟨b, q, none⟩ = false) (h1 : ∀ v ∈ cs, oneC v = true) :
  (Builtin.copy_ #[dT, sT] ty #[.slice (some ⟨b, o, none⟩) dLen dCap, .slice (some a) sLen sCap]).run P w = .ok (goInt m) (putB w b (.cells (spl c o cs) el fr)) := by
 have hld := run_loadCells_list (P := P) w a cs hsrc
 have hst := run_store_list P b o el fr cs 0 w c hh (by simpa using hfit) h1 (fun q _ _ => hf q)
 simp only [Nat.add_zero] at hst
 simp [Builtin.copy_, run_underlying ht, Builtin.lenOf, Builtin.firstCells, sizeOf, typeInfo, hi, ← hm, ← hl, hld, hst]
theorem run_clearN (w : World) (t ty e : TypeId) (i : TypeInfo) (z : Value) (ht : P.underlying t = some (.slice e)) (hi : P.info? e = some i) (hz : i.zero = some z) {b o n cap : Nat} {c : Array Value} {el : TypeId} {fr : Nat × Nat} (hh : w.heap[b]? = some (.cells c el fr))
  (zs : List Value) (hzs : Builtin.zeroCells z.cells n = zs.toArray) (hfit : o + zs.length ≤ c.size) (hf : ∀ q, o ≤ q → q < o + zs.length → w.frozen? ⟨b, q, none⟩ = false) (h1 : ∀ v ∈ zs, oneC v = true) (h0 : n = 0 → zs = []) :
  (Builtin.clear_ #[t] ty #[.slice (some ⟨b, o, none⟩) n cap]).run P w = .ok (.tuple #[]) (putB w b (.cells (spl c o zs) el fr)) := by
 cases n with
 | zero =>
  rw [h0 rfl, spl, putB_same hh]
  simp [Builtin.clear_, run_underlying ht]
 | succ n =>
  have hst := run_store_list P b o el fr zs 0 w c hh (by simpa using hfit) h1 (by simpa using hf)
  simp only [Nat.add_zero] at hst
  simp [Builtin.clear_, run_underlying ht, zeroValue, typeInfo, hi, hz, hzs, hst]
theorem run_overlapN (w : World) (tS tR e : TypeId) (i : TypeInfo) (ht : P.underlying tS = some (.slice e)) (hi : P.info? e = some i) (a b : Addr) (la ca lb cb : Nat) (hne : a.block ≠ b.block) {cA cB : Array Value} {tA tB : TypeId} {fA fB : Nat × Nat}
  (ha : w.heap[a.block]? = some (.cells cA tA fA)) (hb : w.heap[b.block]? = some (.cells cB tB fB)) (hA : cA.size ≠ 0) (hsa : a.spot = none) (hsb : b.spot = none) (hf : ∀ q, w.frozen? ⟨b.block, q, none⟩ = false) :
  (Extern.SlicesOverlaps.overlaps #[tS, tS] #[tR] #[.slice (some a) la ca, .slice (some b) lb cb]).run P w = .ok (.bool false) w := by
 have hnb : (a.block != b.block) = true := by simpa using hne
 have hnb' : (a.block == b.block) = false := by simpa using hne
 have hsA : w.shape? a.block = some (tA, cA.size) := by unfold World.shape?; rw [ha]
 have hsB : w.shape? b.block = some (tB, cB.size) := by unfold World.shape?; rw [hb]
 have hfb : w.frozen? b = false := by
  obtain ⟨bb, bo, bs⟩ := b
  simp only at hsb
  subst hsb
  exact hf bo
 have hfe := hf cB.size
 change Sem.run P (α := Value) (do
  let some t := (#[tS, tS] : Array TypeId)[0]? | stuck "slices.overlaps: no parameter types"
  let .slice elem ← underlying t | stuck "slices.overlaps: slice type expected"
  let size ← sizeOf elem
  match (some a : Option Addr), (some b : Option Addr) with
  | some a, some b =>
   if la = 0 ∨ lb = 0 ∨ size = 0 then pure (Value.bool false)
   else if a.block != b.block && (← Go.frozen a) && (← Go.frozen b) then unsupported .addressObserved
   else do
    if a.block != b.block then do
     noView a; noView b
     if ← mayBeOne a b then return Value.bool ((← choose (.extern "sameAddr.stringBytes" 2)) == 1)
    pure (Value.bool (a.block == b.block && a.off < b.off + lb * size && b.off < a.off + la * size))
  | _, _ => pure (Value.bool false)) w = _
 by_cases h0 : la = 0 ∨ lb = 0 ∨ i.size = 0
 ·simp [run_underlying ht, sizeOf, typeInfo, hi, h0]
 ·obtain ⟨kA, hkA⟩ : ∃ kA, cA.size = kA + 1 := ⟨cA.size - 1, by omega⟩
  rw [hkA] at hsA
  cases hfA : w.frozen? a <;> cases hfE : w.frozen? { block := a.block, off := kA + 1 } <;>
   simp [run_underlying ht, sizeOf, typeInfo, hi, h0, hnb, hnb', Go.frozen, noView, viewAt, mayBeOne, stringish, shape, Sem.run, hsA, hsB, hfb, hfe, hfA, hfE]
theorem frozen_putB {w : World} {b : Nat} {c c' : Array Value} {el : TypeId} {fr : Nat × Nat} (hh : w.heap[b]? = some (.cells c el fr)) (q : Nat) : (putB w b (.cells c' el fr)).frozen? ⟨b, q, none⟩ = w.frozen? ⟨b, q, none⟩ := by
 unfold World.frozen?
 rw [putB_at (Array.getElem?_eq_some_iff.1 hh).1, hh]
theorem cell_putB_ne {w : World} {b b' q : Nat} {o : Go.Obj} (h : b ≠ b') : (putB w b o).cell? ⟨b', q, none⟩ = w.cell? ⟨b', q, none⟩ := cell_congr (putB_ne h)
end
open Go
section
variable {P : Program} {E : Env} {w w' : World} {σ σ' : Sg} {st st' : St E.T} {M : Nat → Prop}
structure InsRow (P : Program) (f : FuncId) (TL TE TI SZ : Nat) : Prop where
 ends : ∀ (base : Option Addr) (n c vb voff vc : Nat), n ≤ c → ∀ (w : World) (y : Value) (w' : World), (∀ ty, (Builtin.append_ #[TL, TL] ty #[.slice base n c, .slice (some ⟨vb, voff, none⟩) 1 vc]).run P w = .ok y w') →
  Calls P f #[.slice base n c, .int .i64 n, .slice (some ⟨vb, voff, none⟩) 1 vc] w fun e w'' => e = .returned y ∧ w'' = w'
 room : ∀ (g n c i vb voff vc : Nat), i < n → n + 1 ≤ c → n + 1 ≤ 2147483648 → vb ≠ g → ∀ (w W1 W2 : World) (k1 k2 : Nat) (cA cB : Array Value) (tA tB : TypeId) (fA fB : Nat × Nat),
  w.heap[vb]? = some (.cells cA tA fA) → w.heap[g]? = some (.cells cB tB fB) → cA.size ≠ 0 → (∀ q, w.frozen? ⟨g, q, none⟩ = false) →
  (∀ ty dc sc, (Builtin.copy_ #[TL, TL] ty #[.slice (some ⟨g, (i + 1) * SZ, none⟩) (n - i) dc, .slice (some ⟨g, i * SZ, none⟩) (n + 1 - i) sc]).run P w.drew = .ok (goInt k1) W1) →
  (∀ ty dc, (Builtin.copy_ #[TL, TL] ty #[.slice (some ⟨g, i * SZ, none⟩) (n + 1 - i) dc, .slice (some ⟨vb, voff, none⟩) 1 vc]).run P W1 = .ok (goInt k2) W2) →
  Calls P f #[.slice (some ⟨g, 0, none⟩) n c, .int .i64 i, .slice (some ⟨vb, voff, none⟩) 1 vc] w fun e w' => e = .returned (.slice (some ⟨g, 0, none⟩) (n + 1) c) ∧ w' = W2
 grow : ∀ (g G n c cp i vb voff vc : Nat), i < n → n ≤ c → c < n + 1 → n + 1 ≤ 2147483648 → n + 1 ≤ cp → ∀ (w W0 W1 W2 : World) (k1 k2 : Nat),
  (∀ ty, (Builtin.append_ #[TL, TI] ty #[.slice (some ⟨g, 0, none⟩) i c, .int .i64 ((n : Int) + 1 - (i : Int))]).run P w = .ok (.slice (some ⟨G, 0, none⟩) (n + 1) cp) W0) →
  (∀ ty dc, (Builtin.copy_ #[TL, TL] ty #[.slice (some ⟨G, i * SZ, none⟩) (n + 1 - i) dc, .slice (some ⟨vb, voff, none⟩) 1 vc]).run P W0 = .ok (goInt k1) W1) →
  (∀ ty dc sc, (Builtin.copy_ #[TL, TL] ty #[.slice (some ⟨G, (i + 1) * SZ, none⟩) (n - i) dc, .slice (some ⟨g, i * SZ, none⟩) (n - i) sc]).run P W1.drew = .ok (goInt k2) W2) →
  Calls P f #[.slice (some ⟨g, 0, none⟩) n c, .int .i64 i, .slice (some ⟨vb, voff, none⟩) 1 vc] w fun e w' => e = .returned (.slice (some ⟨G, 0, none⟩) (n + 1) cp) ∧ w' = W2
def insrtF (E : Env) (e : Ty) (ds : List (DVal E.T)) (st : St E.T) : Tree (Res E.T × St E.T) :=
 match ds, st with
 | [.own 0, .val (.int .i64) i, .val (.slice e1) vs], [.arr .live e2 xs] =>
  match tyEq e1 e, tyEq e2 e with
  | some h1, some h2 => .ite (N.insOk xs i vs) (.ret (.ret [.own 0], [.arr .live e (N.insL (castI (T := E.T) (congrArg Ty.slice h2.down) xs) i (castI (T := E.T) (congrArg Ty.slice h1.down) vs))])) .fail
  | _, _ => .fail
 | _, _ => .fail
theorem insOk_iff {α β : Type} {xs : List α} {i : Int} {vs : List β} (h : N.insOk xs i vs = true) : 0 ≤ i ∧ i ≤ xs.length ∧ vs.length = 1 ∧ xs.length + 1 ≤ lim := by
 unfold N.insOk at h
 simp only [Bool.and_eq_true, decide_eq_true_eq] at h
 exact ⟨h.1, h.2.1, h.2.2.1, h.2.2.2⟩
theorem get_part {l : List Value} {a b c : List Value} (h : l = a ++ (b ++ c)) : ∀ (q : Nat) (u : Value), l[q]? = some u → (if q < a.length then a[q]? else if q < a.length + b.length then b[q - a.length]? else c[q - a.length - b.length]?) = some u := by
 intro q u hq
 rw [h] at hq
 by_cases h1 : q < a.length
 ·rw [if_pos h1]; rwa [List.getElem?_append_left h1] at hq
 ·rw [if_neg h1]
  rw [List.getElem?_append_right (by omega)] at hq
  by_cases h2 : q < a.length + b.length
  ·rw [if_pos h2]; rwa [List.getElem?_append_left (by omega)] at hq
  ·rw [if_neg h2]; rwa [List.getElem?_append_right (by omega)] at hq
theorem ins_fn (HS : Sound P E) {f : FuncId} {TL TE TI : Nat} {e : Ty} (hTL : P.underlying TL = some (.slice TE)) (hTE : E.tk TE = .data e) (hTI : E.tk TI = .data (.int .i64)) (h8 : e ≠ .int .u8) {z0 : I E.T e} (hz0 : zeroI E depth e = some z0) (hpos : 0 < E.size e) (R : InsRow P f TL TE TI (E.size e)) : FnOk P E f (insrtF E e) := by
 intro σ st w ds us r st' hst hds hr
 unfold insrtF at hr
 split at hr
 ·rename_i i e1 vs e2 xs
  split at hr
  ·rename_i p1 p2 _ _
   cases p1 with | up p1 =>
   cases p2 with | up p2 =>
   have p1' := p1.symm
   have p2' := p2.symm
   subst p1'
   subst p2'
   obtain ⟨hok, hr⟩ : N.insOk xs i vs = true ∧ (Tree.ret (Res.ret [DVal.own 0], [Obj.arr RM.live e (N.insL xs i vs)]) : Tree (Res E.T × St E.T)).get = some (r, st') := by
    have hr' : (bif N.insOk xs i vs then (Tree.ret (Res.ret [DVal.own 0], [Obj.arr RM.live e (N.insL xs i vs)]) : Tree (Res E.T × St E.T)).get else none) = some (r, st') := hr
    cases hb : N.insOk xs i vs with
    | true => rw [hb] at hr'; exact ⟨rfl, hr'⟩
    | false => rw [hb] at hr'; cases hr'
   cases hr
   obtain ⟨hi0, hi1, hv1, hlim⟩ := insOk_iff hok
   obtain ⟨ti, hti, hsz, hby, hz⟩ := (HS.data _ _ hTE).info
   cases hds with
   | cons _ _ u0 _ hd0 hds =>
   cases hds with
   | cons _ _ u1 _ hd1 hds =>
   cases hds with
   | cons _ _ u2 _ hd2 hds =>
   cases hds
   have hu0 := ownRep hd0
   have hu1 := intRep hd1
   obtain ⟨va, vc, news, hu2, hln, hmn, hvl, hvc⟩ := sliceRep hd2
   subst hu0 hu1 hu2
   rw [hv1] at hvc ⊢
   rcases hmn with h | ⟨vb, voff, rfl, hvM, hvlt, hvcell⟩
   ·rw [h] at hv1; cases hv1
   obtain ⟨k, rfl⟩ : ∃ k : Nat, i = (k : Int) := ⟨Int.toNat i, (Int.toNat_of_nonneg hi0).symm⟩
   have hk : k ≤ xs.length := Int.ofNat_le.1 hi1
   have hob := hst.obj 0 _ rfl
   have hno : ∀ p ob, nth? [Obj.arr RM.live e xs] p = some ob → 0 ∉ objRefs E ob := by
    intro p ob hp
    cases p with
    | zero => cases hp; simp [objRefs]
    | succ p => cases hp
   have hnl := LRep.len HS.toEnvOk hln
   rw [hv1, Nat.one_mul] at hnl
   have hone : ∀ u ∈ news, oneC u = true := LRep.one hln
   have hil : (N.insL xs (k : Int) vs).length = xs.length + 1 := by
    unfold N.insL
    simp only [List.length_append, List.length_take, List.length_drop, Int.toNat_natCast]
    rw [hv1]; omega
   have fin : ∀ (y : Value) (w' : World), w'.os = w.os → w'.tape = w.tape → w'.output = w.output → w.heap.size ≤ w'.heap.size → (∀ b, b < w.heap.size → blk (σ 0) ≠ some b → w'.heap[b]? = w.heap[b]?) →
     (∀ b, blk y = some b → w.heap.size ≤ b ∨ blk (σ 0) = some b) → (∀ M', Kept (MB σ [Obj.arr RM.live e xs]) M' w w' → OwnRow E w' M' e (N.insL xs (k : Int) vs) y) →
     Back E σ [Obj.arr RM.live e xs] [Obj.arr RM.live e (N.insL xs (k : Int) vs)] w (.ret [.own 0]) (.returned y) w' := by
    intro y w' q1 q2 q3 q4 q5 q6 q7
    have m := MvX.swap hst (o := 0) rfl hno y q1 q2 q3 q4 q5 q6 (q7 _)
    refine ⟨_, m.f, ?_⟩
    have hv := VRep.data _ _ _ (VT.own (E := E) (σ := setN σ 0 y) (st := [Obj.arr RM.live e (N.insL xs (k : Int) vs)]) (w := w') (M := MB (setN σ 0 y) [Obj.arr RM.live e (N.insL xs (k : Int) vs)]) 0 .live e (N.insL xs (k : Int) vs) rfl)
    rw [setN_at] at hv
    exact hv
   have hsrc : SrcA P ti (toV e (zeroC E depth e)) TL (.slice (some ⟨vb, voff, none⟩) 1 vc) 1 news w := .src (Src.ofSlice w hTL ⟨vb, voff, none⟩ 1 vc news (by rw [hsz, hnl, Nat.one_mul]) (fun j v hv => by rw [addr_add]; exact hvcell j v hv) (fun u hu => by rw [← oneC_eq]; exact hone u hu))
   have hinsE : k = xs.length → N.insL xs (k : Int) vs = xs ++ vs := by
    intro h
    unfold N.insL
    rw [Int.toNat_natCast, h, List.take_length, List.drop_length, List.append_nil]
   generalize hσ : σ 0 = s at *
   cases hob with
   | arr _ _ _ _ hown =>
   rcases hown.2 with ⟨⟨a, rfl⟩, rfl⟩ | ⟨g, cap, c, el, fr, olds, rfl, hcap, hh, hcz, hfz, hlo, hq, hord⟩
   ·
    obtain rfl : k = 0 := by simpa using hk
    have hold : (Builtin.firstCells ti.size 0 (.slice a 0 0)).run P w.drew = .ok ([] : List Value).toArray w.drew := by
     cases a <;> simp [Builtin.firstCells, loadCells, loadCellsFrom]
    have hrun := fun ty => app_grow (P := P) TL ty TE hTL hti hz hby a hold hsrc (by omega) (by omega)
    have hge := grown_ge w (0 + 1) 0 TE
    generalize grownCap w (0 + 1) 0 TE = cp at *
    refine Calls.mono (R.ends a 0 0 vb voff vc (Nat.le_refl _) w _ _ hrun) (fun e w' hb => ?_)
    obtain ⟨rfl, rfl⟩ := hb
    refine fin _ _ rfl rfl rfl (by simp) (fun b hb _ => ?_) (fun b hb => .inl (by rw [blk_row hb]; exact Nat.le_refl _)) (fun M' hk => ?_)
    ·show (w.heap.push _)[b]? = w.heap[b]?
     simp [Array.getElem?_push, Nat.ne_of_lt hb]
    ·rw [hinsE rfl]
     exact grown_row HS hTE hst (LRep.append (.nil _) (LRep.keep hk hln)) (by simp; omega) (by simp [hv1]; omega) (by simpa [hv1] using heap_alloc_new w.drew _) (fun q => new_frozen (w := w.drew) q) (by simp [hv1])
   ·have hfr : ∀ q, w.frozen? ⟨g, q, none⟩ = false := fun q => hfz q (fun h => absurd h h8)
    have hll := LRep.len HS.toEnvOk hlo
    have hgM : MB σ [Obj.arr RM.live e xs] g := .inr ⟨0, _, rfl, rfl, by rw [hσ]; rfl⟩
    have hvg : vb ≠ g := fun h => hvM (h ▸ hgM)
    have hglt := (Array.getElem?_eq_some_iff.1 hh).1
    have holds : ∀ j v, olds[j]? = some v → w.cell? ⟨g, j, none⟩ = some v := fun j v hv => by simp [World.cell?, hh, hq j v hv]
    obtain ⟨o1, o2, hoe, hl1, hl2⟩ := LRep.cutAt HS.toEnvOk hlo k hk
    have hlo1 : o1.length = k * E.size e := by rw [LRep.len HS.toEnvOk hl1, List.length_take, Nat.min_eq_left hk]
    have hlo2 : o2.length = (xs.length - k) * E.size e := by rw [LRep.len HS.toEnvOk hl2, List.length_drop]
    have hone2 : ∀ u ∈ o2, oneC u = true := LRep.one hl2
    have ho1 : ∀ j v, o1[j]? = some v → w.cell? ⟨g, j, none⟩ = some v := fun j v hv => holds j v (by rw [hoe, List.getElem?_append_left (List.getElem?_eq_some_iff.1 hv).1]; exact hv)
    have ho2 : ∀ j v, o2[j]? = some v → w.cell? ⟨g, k * E.size e + j, none⟩ = some v := fun j v hv => holds _ v (by rw [hoe, List.getElem?_append_right (by omega), hlo1, Nat.add_sub_cancel_left]; exact hv)
    have hLR : ∀ (M' : Nat → Prop) (w' : World), Kept (MB σ [Obj.arr RM.live e xs]) M' w w' → LRep E w' M' e (N.insL xs (k : Int) vs) (o1 ++ (news ++ o2)) := by
     intro M' w' hk'
     unfold N.insL
     rw [Int.toNat_natCast, ← List.append_assoc, List.append_assoc, List.append_assoc]
     exact LRep.append (LRep.keep hk' hl1) (LRep.append (LRep.keep hk' hln) (LRep.keep hk' hl2))
    have hsum : k * E.size e + E.size e + (xs.length - k) * E.size e = (xs.length + 1) * E.size e := by
     rw [← Nat.succ_mul, ← Nat.add_mul]; congr 1; omega
    by_cases hend : k = xs.length
    ·
     subst hend
     have hold : (Builtin.firstCells ti.size xs.length (.slice (some ⟨g, 0, none⟩) xs.length (cap + 1))).run P w.drew = .ok olds.toArray w.drew :=
      run_firstCells_some (P := P) w.drew ti.size xs.length _ xs.length (cap + 1) olds (by rw [hll, hsz]) (fun j v hv => by
       rw [addr_add, Nat.zero_add]
       exact holds j v hv)
     by_cases hroom : xs.length + 1 ≤ cap + 1
     ·have hcz2 : (xs.length + 1) * E.size e ≤ c.size := Nat.le_trans (Nat.mul_le_mul_right _ hroom) hcz
      rw [Nat.add_mul, Nat.one_mul] at hcz2
      have hrun := fun ty => app_room (P := P) TL ty TE hTL hti hsrc hroom hh (off := 0) (by rw [hsz, hnl]; omega) (fun q _ _ => hfr q)
      refine Calls.mono (R.ends (some ⟨g, 0, none⟩) xs.length (cap + 1) vb voff vc hcap w _ _ hrun) (fun e' w' hb => ?_)
      obtain ⟨rfl, rfl⟩ := hb
      refine fin _ _ rfl rfl rfl (by rw [putB_size]; exact Nat.le_refl _) (fun b _ hne => putB_ne (fun h => hne (by rw [h]; rfl))) (fun b hb => .inr (by rw [blk_row hb]; rfl)) (fun M' hk' => ?_)
      rw [hinsE rfl]
      refine OwnRow.mk' E _ _ (by rw [List.length_append, hv1]; exact hlim) (by rw [List.length_append, hv1]; exact hroom) (putB_at hglt) (by rw [spl_size]; exact hcz) (fun q _ => by rw [frozen_putB hh]; exact hfr q) (LRep.append (LRep.keep hk' hlo) (LRep.keep hk' hln)) (fun q v hv => ?_) (by rw [List.length_append, hv1])
      rw [hsz, Nat.zero_add, spl_get _ _ _ _ (by rw [hnl]; omega)]
      by_cases hql : q < olds.length
      ·rw [if_neg (by omega)]
       rw [List.getElem?_append_left hql] at hv
       exact hq q v hv
      ·rw [List.getElem?_append_right (by omega)] at hv
       have := (List.getElem?_eq_some_iff.1 hv).1
       rw [if_pos (by omega), ← hll]; exact hv
     ·have hrun := fun ty => app_grow (P := P) TL ty TE hTL hti hz hby _ hold hsrc (by omega) hlim
      have hge := grown_ge w (xs.length + 1) (cap + 1) TE
      generalize grownCap w (xs.length + 1) (cap + 1) TE = cp at *
      refine Calls.mono (R.ends (some ⟨g, 0, none⟩) xs.length (cap + 1) vb voff vc hcap w _ _ hrun) (fun e' w' hb => ?_)
      obtain ⟨rfl, rfl⟩ := hb
      refine fin _ _ rfl rfl rfl (by simp) (fun b hb _ => ?_) (fun b hb => .inl (by rw [blk_row hb]; exact Nat.le_refl _)) (fun M' hk' => ?_)
      ·show (w.heap.push _)[b]? = w.heap[b]?
       simp [Array.getElem?_push, Nat.ne_of_lt hb]
      ·rw [hinsE rfl]
       have hlen : (xs ++ vs).length = xs.length + 1 := by rw [List.length_append, hv1]
       exact grown_row HS hTE hst (LRep.append (LRep.keep hk' hlo) (LRep.keep hk' hln)) (by rw [hlen]; exact hlim) (by rw [hlen]; exact hge) (by rw [hlen]; exact heap_alloc_new w.drew _) (fun q => new_frozen (w := w.drew) q) hlen.symm
    ·have hkn : k < xs.length := by omega
     have hone : ∀ u ∈ news, oneC u = true := LRep.one hln
     have hcA : ∃ cA tA fA, w.heap[vb]? = some (.cells cA tA fA) ∧ cA.size ≠ 0 := by
      have h0 : 0 < news.length := by rw [hnl]; exact hpos
      have := hvcell 0 news[0] (List.getElem?_eq_getElem h0)
      unfold World.cell? at this
      split at this
      ·rename_i cA tA fA hhA
       have := (Array.getElem?_eq_some_iff.1 this).1
       exact ⟨cA, tA, fA, hhA, by omega⟩
      ·cases this
     obtain ⟨cA, tA, fA, hhA, hA0⟩ := hcA
     by_cases hroom : xs.length + 1 ≤ cap + 1
     ·
      ·have hcz2 : (xs.length + 1) * E.size e ≤ c.size := Nat.le_trans (Nat.mul_le_mul_right _ hroom) hcz
       have hk1 : (k + 1) * E.size e = k * E.size e + E.size e := Nat.succ_mul _ _
       have hcp1 : ∀ ty dc sc, (Builtin.copy_ #[TL, TL] ty #[.slice (some ⟨g, (k + 1) * E.size e, none⟩) (xs.length - k) dc, .slice (some ⟨g, k * E.size e, none⟩) (xs.length + 1 - k) sc]).run P w.drew = .ok (goInt ((xs.length - k : Nat) : Int)) (putB w.drew g (.cells (spl c ((k + 1) * E.size e) o2) el fr)) := fun ty dc sc =>
        run_copyN w.drew TL TL ty TE ti hTL hti hh o2 (m := xs.length - k) (by simp only [Nat.min_def]; split <;> omega) (by rw [hlo2, hsz]) (fun j v hv => by rw [addr_add]; exact ho2 j v hv) (by rw [hlo2, hk1]; omega) hfr hone2
       have hh1 : (putB w.drew g (.cells (spl c ((k + 1) * E.size e) o2) el fr)).heap[g]? = some (.cells (spl c ((k + 1) * E.size e) o2) el fr) := putB_at hglt
       have hcp2 : ∀ ty dc, (Builtin.copy_ #[TL, TL] ty #[.slice (some ⟨g, k * E.size e, none⟩) (xs.length + 1 - k) dc, .slice (some ⟨vb, voff, none⟩) 1 vc]).run P (putB w.drew g (.cells (spl c ((k + 1) * E.size e) o2) el fr)) = .ok (goInt ((1 : Nat) : Int)) (putB (putB w.drew g (.cells (spl c ((k + 1) * E.size e) o2) el fr)) g (.cells (spl (spl c ((k + 1) * E.size e) o2) (k * E.size e) news) el fr)) := fun ty dc =>
        run_copyN _ TL TL ty TE ti hTL hti hh1 news (m := 1) (by simp only [Nat.min_def]; split <;> omega) (by rw [hnl, hsz, Nat.one_mul]) (fun j v hv => by rw [addr_add, cell_putB_ne (fun h => hvg h.symm)]; exact hvcell j v hv) (by rw [spl_size, hnl]; omega) (fun q => by rw [frozen_putB (w := w.drew) hh]; exact hfr q) hone
       refine Calls.mono (R.room g xs.length (cap + 1) k vb voff vc hkn hroom hlim hvg w _ _ _ _ cA c tA el fA fr hhA hh hA0 hfr hcp1 hcp2) (fun e' w' hb => ?_)
       obtain ⟨rfl, rfl⟩ := hb
       refine fin _ _ rfl rfl rfl (by rw [putB_size, putB_size]; exact Nat.le_refl _) (fun b _ hne => by
        have hbg : g ≠ b := fun h => hne (by rw [h]; rfl)
        rw [putB_ne hbg, putB_ne hbg]; rfl) (fun b hb => .inr (by rw [blk_row hb]; rfl)) (fun M' hk' => ?_)
       refine OwnRow.mk' E _ _ (by rw [hil]; exact hlim) (by rw [hil]; exact hroom) (putB_at (by rw [putB_size]; exact hglt)) (by rw [spl_size, spl_size]; exact hcz) (fun q _ => by rw [frozen_putB hh1, frozen_putB (w := w.drew) hh]; exact hfr q) (hLR M' _ hk') (fun q v hv => ?_) hil.symm
       have hp := get_part rfl q v hv
       rw [hlo1, hnl] at hp
       have hql : q < (xs.length + 1) * E.size e := by
        have := (List.getElem?_eq_some_iff.1 hv).1
        rw [List.length_append, List.length_append, hlo1, hlo2, hnl] at this
        omega
       rw [spl_get _ _ _ _ (by rw [spl_size, hnl]; omega), spl_get _ _ _ _ (by rw [hlo2, hk1]; omega), hnl, hlo2, hk1]
       by_cases c1 : q < k * E.size e
       ·rw [if_pos c1] at hp
        rw [if_neg (by omega), if_neg (by omega)]
        exact hq q v (by rw [hoe, List.getElem?_append_left (by omega)]; exact hp)
       ·rw [if_neg c1] at hp
        by_cases c2 : q < k * E.size e + E.size e
        ·rw [if_pos c2] at hp
         rw [if_pos (by omega)]
         exact hp
        ·rw [if_neg c2] at hp
         rw [if_neg (by omega), if_pos (by omega), show q - (k * E.size e + E.size e) = q - k * E.size e - E.size e by omega]
         exact hp
     ·
      have hnx : ¬ (xs.length + 1 ≤ cap + 1) := hroom
      obtain ⟨ys, cz, hyz, hlz, hsz0⟩ := appended_ok HS hst (tx := TI) hTE hti (x := .val (.int .i64) ((xs.length + 1 - k : Nat) : Int)) (u := .int .i64 ((xs.length + 1 - k : Nat) : Int)) (k := fun ys => .ret (.val (.slice e) ys, [])) (r := (.val (.slice e) (List.replicate (xs.length + 1 - k) z0), [])) (by
       unfold appended
       rw [show isNum E TI = true by unfold isNum; rw [hTI]]
       simp only [Tree.need]
       rw [hz0]
       show (bif decide (0 ≤ ((xs.length + 1 - k : Nat) : Int)) && decide (((xs.length + 1 - k : Nat) : Int) ≤ lim) then some _ else none) = some _
       rw [decide_eq_true (by omega), decide_eq_true (by have : xs.length + 1 ≤ lim := hlim; omega)]
       rfl) (.data _ _ _ (.val _ _ _ (.int .i64 _)))
      have hys : ys.length = xs.length + 1 - k := by
       have h2 : (DVal.val (T := E.T) (.slice e) ys, ([] : St E.T)) = (.val (.slice e) (List.replicate (xs.length + 1 - k) z0), []) := Option.some.inj hyz
       have h3 := congrArg Prod.fst h2
       injection h3 with _ h4
       rw [show ys = List.replicate (xs.length + 1 - k) z0 from h4, List.length_replicate]
      rw [hys] at hsz0
      have hczl : cz.length = (xs.length + 1 - k) * E.size e := by rw [LRep.len HS.toEnvOk hlz, hys]
      have hold1 : (Builtin.firstCells ti.size k (.slice (some ⟨g, 0, none⟩) k (cap + 1))).run P w.drew = .ok o1.toArray w.drew :=
       run_firstCells_some (P := P) w.drew ti.size k _ k (cap + 1) o1 (by rw [hlo1, hsz]) (fun j v hv => by
        rw [addr_add, Nat.zero_add]
        exact ho1 j v hv)
      have hkk : k + (xs.length + 1 - k) = xs.length + 1 := by omega
      have hap := fun ty => app_grow (P := P) TL ty TE hTL hti hz hby (some ⟨g, 0, none⟩) hold1 hsz0 (by omega) (by rw [hkk]; exact hlim)
      rw [hkk, show ((xs.length + 1 - k : Nat) : Int) = (xs.length : Int) + 1 - (k : Int) by omega] at hap
      have hge := grown_ge w (xs.length + 1) (cap + 1) TE
      generalize grownCap w (xs.length + 1) (cap + 1) TE = cp at *
      have hzc := zero_cells HS hTE hst
      have hzsz : (zeroC E depth e).length = E.size e := VT.len HS.toEnvOk (zeroD_ok (σ := σ) (st := [Obj.arr RM.live e xs]) (w := w) (M := MB σ [Obj.arr RM.live e xs]) HS.toEnvOk depth e (HS.data _ _ hTE).deep)
      obtain ⟨C0, hC0⟩ : ∃ C0, (o1 ++ cz).toArray ++ Builtin.zeroCells (toV e (zeroC E depth e)).cells (cp - (xs.length + 1)) = C0 := ⟨_, rfl⟩
      have hC0s : C0.size = cp * E.size e := by
       rw [← hC0, Array.size_append, size_zeroCells, hzc, List.size_toArray, List.size_toArray, List.length_append, hlo1, hczl, hzsz, ← Nat.add_mul, hkk, ← Nat.add_mul]
       congr 1; omega
      have hC0o : ∀ (q : Nat) (v : Value), o1[q]? = some v → C0[q]? = some v := by
       intro q v hv
       have hql := (List.getElem?_eq_some_iff.1 hv).1
       rw [← hC0, Array.getElem?_append_left (by simp; omega)]
       simp only [List.getElem?_toArray]
       rw [List.getElem?_append_left hql]; exact hv
      rw [hC0] at hap
      have hN : (w.drew.alloc (.cells C0 TE)).heap[w.heap.size]? = some (.cells C0 TE (0, 0)) := heap_alloc_new w.drew _
      have hNf : ∀ q, (w.drew.alloc (.cells C0 TE)).frozen? ⟨w.heap.size, q, none⟩ = false := fun q => new_frozen (w := w.drew) q
      have hNlt : w.heap.size < (w.drew.alloc (.cells C0 TE)).heap.size := (Array.getElem?_eq_some_iff.1 hN).1
      have hold2 : ∀ b q, b < w.heap.size → (w.drew.alloc (.cells C0 TE)).cell? ⟨b, q, none⟩ = w.cell? ⟨b, q, none⟩ := fun b q hb => cell_congr (by
       show (w.heap.push _)[b]? = w.heap[b]?
       simp [Array.getElem?_push, Nat.ne_of_lt hb])
      have hcz3 : (xs.length + 1) * E.size e ≤ cp * E.size e := Nat.mul_le_mul_right _ hge
      have hk1 : (k + 1) * E.size e = k * E.size e + E.size e := Nat.succ_mul _ _
      have hcpA : ∀ ty dc, (Builtin.copy_ #[TL, TL] ty #[.slice (some ⟨w.heap.size, k * E.size e, none⟩) (xs.length + 1 - k) dc, .slice (some ⟨vb, voff, none⟩) 1 vc]).run P (w.drew.alloc (.cells C0 TE)) = .ok (goInt ((1 : Nat) : Int)) (putB (w.drew.alloc (.cells C0 TE)) w.heap.size (.cells (spl C0 (k * E.size e) news) TE (0, 0))) := fun ty dc =>
       run_copyN _ TL TL ty TE ti hTL hti hN news (m := 1) (by simp only [Nat.min_def]; split <;> omega) (by rw [hnl, hsz, Nat.one_mul]) (fun j v hv => by rw [addr_add, hold2 _ _ hvlt]; exact hvcell j v hv) (by rw [hC0s, hnl]; omega) hNf hone
      have hN1 : (putB (w.drew.alloc (.cells C0 TE)) w.heap.size (.cells (spl C0 (k * E.size e) news) TE (0, 0))).drew.heap[w.heap.size]? = some (.cells (spl C0 (k * E.size e) news) TE (0, 0)) := putB_at hNlt
      have hcpB : ∀ ty dc sc, (Builtin.copy_ #[TL, TL] ty #[.slice (some ⟨w.heap.size, (k + 1) * E.size e, none⟩) (xs.length - k) dc, .slice (some ⟨g, k * E.size e, none⟩) (xs.length - k) sc]).run P (putB (w.drew.alloc (.cells C0 TE)) w.heap.size (.cells (spl C0 (k * E.size e) news) TE (0, 0))).drew = .ok (goInt ((xs.length - k : Nat) : Int)) (putB (putB (w.drew.alloc (.cells C0 TE)) w.heap.size (.cells (spl C0 (k * E.size e) news) TE (0, 0))).drew w.heap.size (.cells (spl (spl C0 (k * E.size e) news) ((k + 1) * E.size e) o2) TE (0, 0))) := fun ty dc sc =>
       run_copyN _ TL TL ty TE ti hTL hti hN1 o2 (m := xs.length - k) (by simp only [Nat.min_def]; split <;> omega) (by rw [hlo2, hsz]) (fun j v hv => by
        rw [addr_add]
        have : (putB (w.drew.alloc (.cells C0 TE)) w.heap.size (.cells (spl C0 (k * E.size e) news) TE (0, 0))).drew.cell? ⟨g, k * E.size e + j, none⟩ = (w.drew.alloc (.cells C0 TE)).cell? ⟨g, k * E.size e + j, none⟩ := cell_putB_ne (Nat.ne_of_gt hglt)
        rw [this, hold2 _ _ hglt]
        exact ho2 j v hv) (by rw [spl_size, hC0s, hlo2, hk1]; omega) (fun q => by
        have : (putB (w.drew.alloc (.cells C0 TE)) w.heap.size (.cells (spl C0 (k * E.size e) news) TE (0, 0))).drew.frozen? ⟨w.heap.size, q, none⟩ = (w.drew.alloc (.cells C0 TE)).frozen? ⟨w.heap.size, q, none⟩ := frozen_putB hN q
        rw [this]; exact hNf q) hone2
      refine Calls.mono (R.grow g w.heap.size xs.length (cap + 1) cp k vb voff vc hkn hcap (by omega) hlim hge w _ _ _ _ _ hap hcpA hcpB) (fun e' w' hb => ?_)
      obtain ⟨rfl, rfl⟩ := hb
      refine fin _ _ rfl rfl rfl (by rw [putB_size]; show _ ≤ (putB _ _ _).heap.size; rw [putB_size]; simp) (fun b hb _ => ?_) (fun b hb => .inl (by rw [blk_row hb]; exact Nat.le_refl _)) (fun M' hk' => ?_)
      ·have hbn : w.heap.size ≠ b := Nat.ne_of_gt hb
       rw [putB_ne hbn]
       show (putB _ _ _).heap[b]? = _
       rw [putB_ne hbn]
       show (w.heap.push _)[b]? = w.heap[b]?
       simp [Array.getElem?_push, Nat.ne_of_lt hb]
      ·have hh3 : (putB (putB (w.drew.alloc (.cells C0 TE)) w.heap.size (.cells (spl C0 (k * E.size e) news) TE (0, 0))).drew w.heap.size (.cells (spl (spl C0 (k * E.size e) news) ((k + 1) * E.size e) o2) TE (0, 0))).heap[w.heap.size]? = some (.cells (spl (spl C0 (k * E.size e) news) ((k + 1) * E.size e) o2) TE (0, 0)) := putB_at (Array.getElem?_eq_some_iff.1 hN1).1
       refine OwnRow.mk' E _ _ (by rw [hil]; exact hlim) (by rw [hil]; exact hge) hh3 (by rw [spl_size, spl_size, hC0s]; exact Nat.le_refl _) (fun q _ => ?_) (hLR M' _ hk') (fun q v hv => ?_) hil.symm
       ·unfold World.frozen?
        rw [hh3]
        simp
       ·have hp := get_part rfl q v hv
        rw [hlo1, hnl] at hp
        have hql : q < (xs.length + 1) * E.size e := by
         have := (List.getElem?_eq_some_iff.1 hv).1
         rw [List.length_append, List.length_append, hlo1, hlo2, hnl] at this
         omega
        rw [spl_get _ _ _ _ (by rw [spl_size, hC0s, hlo2, hk1]; omega), spl_get _ _ _ _ (by rw [hC0s, hnl]; omega), hnl, hlo2, hk1]
        by_cases c1 : q < k * E.size e
        ·rw [if_pos c1] at hp
         rw [if_neg (by omega), if_neg (by omega)]
         exact hC0o q v hp
        ·rw [if_neg c1] at hp
         by_cases c2 : q < k * E.size e + E.size e
         ·rw [if_pos c2] at hp
          rw [if_neg (by omega), if_pos (by omega)]
          exact hp
         ·rw [if_neg c2] at hp
          rw [if_pos (by omega), show q - (k * E.size e + E.size e) = q - k * E.size e - E.size e by omega]
          exact hp
  ·cases hr
 ·cases hr
end
open Go
def DelRow (P : Program) (fn : Func) (m TL SZ : Nat) : Prop :=
 ∀ (a : Act) (w w' : World) (g nn cap i : Nat) (R : Ending → World → Prop), a.defers = [] → a.tmps.size = fn.ntmps → a.tmps[0]? = some (.slice (some ⟨g, 0, none⟩) nn cap) → a.tmps[5]? = some (.int .i64 (i : Int)) → i < nn → nn ≤ cap →
  (∀ ty cc, (Builtin.clear_ #[TL] ty #[.slice (some ⟨g, i * SZ, none⟩) (nn - i) cc]).run P w = .ok (.tuple #[]) w') → R (.returned (.slice (some ⟨g, 0, none⟩) i cap)) w' → (seqDrop m (bodyOf fn)).wp P (bodyPostD P fn R) a w
section
variable {P : Program} {E : Env} {w w' : World} {σ σ' : Sg} {st st' : St E.T} {M : Nat → Prop}
def cutEnd (E : Env) (e : Ty) (fr : Fr E.T) (st : St E.T) : Tree (Res E.T × St E.T) :=
 match nth fr.s 0 .undef, nth fr.s 5 .undef with
 | .own k, .val (.int .i64) i => match nth? st k with
  | some (.arr .live e' xs) => match tyEq e' e with
   | some h => .ite (N.inR i xs.length) (.ret (.ret [.own k], upd (st.map (killObj E st [k])) k (.arr .live e (N.cutL (castI (T := E.T) (congrArg Ty.slice h.down) xs) 0 i)))) .fail
   | none => .fail
  | _ => .fail
 | _, _ => .fail
def dbodyK (E : Env) (S : FuncId → Option (Spec E)) (L : Nat → LoopInfo E) (m : Nat) (e : Ty) (fn : Func) (args : List (DVal E.T)) (st : St E.T) : Tree (Res E.T × St E.T) :=
 match fn.body with
 | some c => (dcode E S L 0 0 (seqTake m c) (frame E fn args) st).bind fun p => match p.1, p.2.1.d with
  | .normal, [] => Tree.need (Nat.beq p.2.1.s.length fn.ntmps) (cutEnd E e p.2.1 p.2.2)
  | .ret, _ => leave E (fun _ => none) true st.length fn p.2.1 p.2.2 none
  | _, _ => .fail
 | none => .fail
theorem dbodyK_ok (HS : Sound P E) (hmix : P.follows .mixedOrders = true) {S : List (Nat × Spec E)} (hS : AllS P E S) {L : Nat → LoopInfo E} {m TL TE : Nat} {e : Ty} {f : FuncId} {fn : Func} {c : Code} (hf : P.funcs[f]? = some fn) (hb : fn.body = some c) (hs : seqOk m c = true)
  (h : ∀ k g, (L k).closed = some g → ∀ fr st out, (g fr st).get = some out → ∃ m fr', (loopT E (stepOf E S L 0 k fn) (L k).keep (L k).mvs st.length m fr st).get = some (out.1, fr', out.2.2) ∧ Weak out.2.1 fr')
  (hTL : P.underlying TL = some (.slice TE)) (hTE : E.tk TE = .data e) (h8 : e ≠ .int .u8) (ht : DelRow P fn m TL (E.size e)) : FnOk P E f (dbodyK E (lookS S) L m e fn) := by
 have hL : LoopsOk (lookS S) L 0 0 c := loopsOk_of c 0 fun k cb hk f' hf' => by
  rw [Nat.zero_add] at hf' ⊢
  have := h k f' hf'
  unfold stepOf at this
  rw [hb] at this
  simp only [hk] at this
  exact this
 intro σ st w ds us r st' hst hds hr
 unfold dbodyK at hr
 rw [hb] at hr
 simp only at hr
 obtain ⟨⟨x, fr, st1⟩, h1, h2⟩ := Tree.get_bind_some hr
 refine calls_of_wp_defers hf hb ?_
 refine dtake_ok HS hmix (callOk HS (lookS_ok hS)) m c 0 hs hL hst (frame_ok hds) h1 (fun σ' w' a' x m' hfr hx => ?_)
 simp only at h2 hfr m'
 split at h2
 ·rename_i hd
  cases hx
  obtain ⟨hn, h2⟩ := Tree.get_need h2
  have hdd := hfr.d
  rw [hd] at hdd
  have hdef : a'.defers = [] := by generalize a'.defers = dd at hdd; cases hdd; rfl
  have hsz : a'.tmps.size = fn.ntmps := by
   have := VReps.length hfr.s
   rw [Array.length_toList] at this
   rw [← this]; exact Nat.eq_of_beq_eq_true hn
  unfold cutEnd at h2
  split at h2
  ·rename_i k i hk hi5
   split at h2
   ·rename_i e' xs hkx
    split at h2
    ·rename_i p _
     cases p with | up p =>
     have p' := p.symm
     subst p'
     obtain ⟨hin, h2⟩ : N.inR i xs.length = true ∧ (Tree.ret (Res.ret [DVal.own k], upd (st1.map (killObj E st1 [k])) k (.arr .live e (N.cutL xs 0 i))) : Tree (Res E.T × St E.T)).get = some (r, st') := by
      have h2' : (bif N.inR i xs.length then (Tree.ret (Res.ret [DVal.own k], upd (st1.map (killObj E st1 [k])) k (.arr .live e (N.cutL xs 0 i))) : Tree (Res E.T × St E.T)).get else none) = some (r, st') := h2
      cases hc : N.inR i xs.length with
      | true => rw [hc] at h2'; exact ⟨rfl, h2'⟩
      | false => rw [hc] at h2'; cases h2'
     cases h2
     unfold N.inR at hin
     simp only [Bool.and_eq_true, decide_eq_true_eq] at hin
     obtain ⟨hi0, hi1⟩ := hin
     obtain ⟨q, rfl⟩ : ∃ q : Nat, i = (q : Int) := ⟨Int.toNat i, (Int.toNat_of_nonneg hi0).symm⟩
     have hqn : q < xs.length := Int.ofNat_lt.1 hi1
     obtain ⟨u0, hu0, hr0⟩ := VReps.get hfr.s (t := 0) (v := .own k) (by
      rw [nth?_eq, ← hk, nth_eq, List.getD_eq_getElem?_getD]
      cases hg : fr.s[0]? with
      | none => rw [nth_eq, List.getD_eq_getElem?_getD, hg] at hk; cases hk
      | some v => rfl)
     obtain ⟨u5, hu5, hr5⟩ := VReps.get hfr.s (t := 5) (v := .val (.int .i64) ((q : Nat) : Int)) (by
      rw [nth?_eq, ← hi5, nth_eq, List.getD_eq_getElem?_getD]
      cases hg : fr.s[5]? with
      | none => rw [nth_eq, List.getD_eq_getElem?_getD, hg] at hi5; cases hi5
      | some v => rfl)
     have hu0' := ownRep hr0
     have hu5' := intRep hr5
     subst hu0' hu5'
     have m0 := Mv.kill m'.rep [k]
     have ho1 : nth? (st1.map (killObj E st1 [k])) k = some (.arr .live e xs) := by rw [nth?_map, hkx]; rfl
     have hno : ∀ p ob, nth? (st1.map (killObj E st1 [k])) p = some ob → k ∉ objRefs E ob := by
      intro p ob hp
      rw [nth?_map] at hp
      obtain ⟨q0, _, rfl⟩ := Option.map_eq_some_iff.1 hp
      cases q0 with
      | box ro c => intro hk; exact (refs_kill [k] c k hk).2 (by simp)
      | arr l e zs => simp [killObj, objRefs]
      | dead => simp [killObj, objRefs]
     have hob := m0.rep.obj k _ ho1
     generalize hst1 : st1.map (killObj E st1 [k]) = s1 at *
     have ho1' := ho1
     generalize hσ : σ' k = s at *
     cases hob with
     | arr _ _ _ _ hown =>
     rcases hown.2 with ⟨_, h0⟩ | ⟨g, cap, cc, el, frz, olds, rfl, hcap, hh, hcz, hfz, hlo, hq, hord⟩
     ·rw [h0] at hqn; cases hqn
     ·obtain ⟨ti, hti, hszE, hby, hz⟩ := (HS.data _ _ hTE).info
      have hfr' : ∀ q, w'.frozen? ⟨g, q, none⟩ = false := fun q => hfz q (fun h => absurd h h8)
      have hll := LRep.len HS.toEnvOk hlo
      have hglt := (Array.getElem?_eq_some_iff.1 hh).1
      obtain ⟨o1, o2, hoe, hl1, hl2⟩ := LRep.cutAt HS.toEnvOk hlo q (Nat.le_of_lt hqn)
      have hlo1 : o1.length = q * E.size e := by rw [LRep.len HS.toEnvOk hl1, List.length_take, Nat.min_eq_left (Nat.le_of_lt hqn)]
      have hzc := zero_cells HS hTE hst
      have hdeep := (HS.data _ _ hTE).deep
      have hzv := zeroD_ok (σ := σ') (st := s1) (w := w') (M := MB σ' s1) HS.toEnvOk depth e hdeep
      have hzsz : (zeroC E depth e).length = E.size e := VT.len HS.toEnvOk hzv
      obtain ⟨zs, hzs⟩ : ∃ zs : List Value, Builtin.zeroCells (toV e (zeroC E depth e)).cells (xs.length - q) = zs.toArray := ⟨_, (Array.toArray_toList).symm⟩
      have hzl : zs.length = (xs.length - q) * E.size e := by
       have := congrArg Array.size hzs
       rw [size_zeroCells, hzc, List.size_toArray, List.size_toArray, hzsz] at this
       exact this.symm
      have hzone : ∀ v ∈ zs, oneC v = true := by
       intro v hv
       have hmem : v ∈ Builtin.zeroCells (toV e (zeroC E depth e)).cells (xs.length - q) := by rw [hzs]; simpa using hv
       rw [hzc] at hmem
       unfold Builtin.zeroCells at hmem
       have h1 : ∀ v ∈ zeroC E depth e, oneC v = true := fun v hv => VT.one m0.rep hzv v hv
       simp only [Array.mem_map] at hmem
       obtain ⟨j, hj, rfl⟩ := hmem
       simp only [Array.mem_range, List.size_toArray] at hj
       have hpos : 0 < (zeroC E depth e).length := Nat.pos_of_ne_zero (fun h0 => by rw [h0] at hj; simp at hj)
       apply h1
       have hlt : j % (zeroC E depth e).length < (zeroC E depth e).length := Nat.mod_lt _ hpos
       simp [hlt]
      have hfit : q * E.size e + zs.length ≤ cc.size := by
       rw [hzl, ← Nat.add_mul]
       exact Nat.le_trans (Nat.mul_le_mul_right _ (by omega)) hcz
      have hrun := fun ty ccap => run_clearN (P := P) w' TL ty TE ti _ hTL hti hz (o := q * E.size e) (n := xs.length - q) (cap := ccap) hh zs hzs hfit (fun j _ _ => hfr' j) hzone (fun h0 => by omega)
      have hcut : N.cutL xs 0 ((q : Nat) : Int) = xs.take q := by unfold N.cutL; simp
      have hgo : c = bodyOf fn := by unfold bodyOf; rw [hb]
      show Code.wp P (seqDrop m c) (bodyPostD P fn _) a' w'
      rw [hgo]
      refine ht a' w' _ g xs.length (cap + 1) q _ hdef hsz (by rw [← Array.getElem?_toList]; exact hu0) (by rw [← Array.getElem?_toList]; exact hu5) hqn hcap hrun ?_
      have mx := MvX.swap m0.rep (o := k) (xs' := N.cutL xs 0 ((q : Nat) : Int)) ho1 hno (.slice (some ⟨g, 0, none⟩) q (cap + 1)) (w' := putB w' g (.cells (spl cc (q * E.size e) zs) el frz)) rfl rfl rfl (by rw [putB_size]; exact Nat.le_refl _) (fun b _ hne => putB_ne (fun h => hne (by rw [hσ, ← h]; rfl))) (fun b hb => .inr (by rw [hσ, blk_row hb]; rfl)) (fun hk' => by
       rw [hcut]
       refine OwnRow.mk' E _ _ (by rw [List.length_take]; have := hown.1; omega) (by rw [List.length_take]; omega) (putB_at hglt) (by rw [spl_size]; exact hcz) (fun j _ => by rw [frozen_putB hh]; exact hfr' j) (LRep.keep hk' hl1) (fun j v hv => ?_) (by rw [List.length_take, Nat.min_eq_left (Nat.le_of_lt hqn)])
       have hj := (List.getElem?_eq_some_iff.1 hv).1
       rw [spl_get _ _ _ _ hfit, if_neg (by omega)]
       exact hq j v (by rw [hoe, List.getElem?_append_left hj]; exact hv))
      refine ⟨_, m'.trans (m0.f.trans mx.f), ?_⟩
      have hv := VRep.data _ _ _ (VT.own (E := E) (σ := setN σ' k (.slice (some ⟨g, 0, none⟩) q (cap + 1))) (st := upd s1 k (.arr .live e (N.cutL xs 0 ((q : Nat) : Int)))) (w := putB w' g (.cells (spl cc (q * E.size e) zs) el frz)) (M := MB (setN σ' k (.slice (some ⟨g, 0, none⟩) q (cap + 1))) (upd s1 k (.arr .live e (N.cutL xs 0 ((q : Nat) : Int))))) k .live e (N.cutL xs 0 ((q : Nat) : Int)) (by rw [nth?_upd, if_pos ⟨rfl, nth?_lt ho1⟩]))
      rw [setN_at] at hv
      exact hv
    ·cases h2
   ·cases h2
  ·cases h2
 ·cases hx with
  | ret => exact leave_ok HS (fun _ _ h => by cases h) m' hfr .none (fun v h => by cases h) h2
 ·cases h2
end
open Go
section
variable {P : Program} {E : Env} {w w' : World} {σ σ' : Sg} {st st' : St E.T} {M : Nat → Prop}
theorem step_append_runI {ops : Array Oper} {o : Oper} {a : Act} {w : World} {K : Act → World → Prop} {Q : Exit → Act → World → Prop} {R : Prop}
  (hg : o.guard = none) (d x : Operand) (dT sT : TypeId) (hop : o.op = Op.call { callee := Callee.builtin Builtin.append, args := #[d, x], argTypes := #[dT, sT] })
  (v u : Value) (hd : a.eval d = v) (hx : a.eval x = u) {v' : Value} {w' : World} (hr : (Builtin.append_ #[dT, sT] o.type #[v, u]).run P w = .ok v' w') (hK : K (a.put o.dst v') w') :
  if Region.wanted o (yielded ops a.tmps) = true then Oper.wp P o a w K Q else R := by
 have hw : Region.wanted o (yielded ops a.tmps) = true := by simp [Region.wanted, hg]
 rw [if_pos hw]
 unfold Oper.wp
 simp [execOp, hop, resolve, invoke, builtin, hd, hx, hr, Result.andThen]
 exact hK
structure DelFn (P : Program) (f : FuncId) (TL SZ : Nat) : Prop where
 same : ∀ (base : Option Addr) (n c i : Nat), i ≤ n → n ≤ c → ∀ w : World, Calls P f #[.slice base n c, .int .i64 i, .int .i64 i] w fun e w' => e = .returned (.slice base n c) ∧ w' = w
 cut : ∀ (g n c i j : Nat), i < j → j ≤ n → n ≤ c → n ≤ 2147483648 → ∀ (w W1 W2 : World),
  (∀ ty, (Builtin.append_ #[TL, TL] ty #[.slice (some ⟨g, 0, none⟩) i c, .slice (some (if c = j then ⟨g, 0, none⟩ else ⟨g, j * SZ, none⟩)) (n - j) (c - j)]).run P w.drew = .ok (.slice (some ⟨g, 0, none⟩) (i + (n - j)) c) W1) →
  (∀ ty cc, (Builtin.clear_ #[TL] ty #[.slice (some ⟨g, (i + (n - j)) * SZ, none⟩) (n - (i + (n - j))) cc]).run P W1 = .ok (.tuple #[]) W2) →
  Calls P f #[.slice (some ⟨g, 0, none⟩) n c, .int .i64 i, .int .i64 j] w fun e w' => e = .returned (.slice (some ⟨g, 0, none⟩) (i + (n - j)) c) ∧ w' = W2
def delF (E : Env) (e : Ty) (ds : List (DVal E.T)) (st : St E.T) : Tree (Res E.T × St E.T) :=
 match ds, st with
 | [.own 0, .val (.int .i64) i, .val (.int .i64) j], [.arr .live e2 xs] =>
  match tyEq e2 e with
  | some h2 => .ite (N.cutOk i j xs.length) (.ret (.ret [.own 0], [.arr .live e (N.delL (castI (T := E.T) (congrArg Ty.slice h2.down) xs) i j)])) .fail
  | _ => .fail
 | _, _ => .fail
theorem del_fn (HS : Sound P E) {f : FuncId} {TL TE : Nat} {e : Ty} (hTL : P.underlying TL = some (.slice TE)) (hTE : E.tk TE = .data e) (h8 : e ≠ .int .u8) (R : DelFn P f TL (E.size e)) : FnOk P E f (delF E e) := by
 intro σ st w ds us r st' hst hds hr
 unfold delF at hr
 split at hr
 ·rename_i i j e2 xs
  split at hr
  ·rename_i p2 _
   cases p2 with | up p2 =>
   have p2' := p2.symm
   subst p2'
   obtain ⟨hok, hr⟩ : N.cutOk i j xs.length = true ∧ (Tree.ret (Res.ret [DVal.own 0], [Obj.arr RM.live e (N.delL xs i j)]) : Tree (Res E.T × St E.T)).get = some (r, st') := by
    have hr' : (bif N.cutOk i j xs.length then (Tree.ret (Res.ret [DVal.own 0], [Obj.arr RM.live e (N.delL xs i j)]) : Tree (Res E.T × St E.T)).get else none) = some (r, st') := hr
    cases hb : N.cutOk i j xs.length with
    | true => rw [hb] at hr'; exact ⟨rfl, hr'⟩
    | false => rw [hb] at hr'; cases hr'
   cases hr
   unfold N.cutOk at hok
   simp only [Bool.and_eq_true, decide_eq_true_eq] at hok
   obtain ⟨hi0, hij, hjn⟩ := hok
   obtain ⟨ti, hti, hsz, hby, hz⟩ := (HS.data _ _ hTE).info
   cases hds with
   | cons _ _ u0 _ hd0 hds =>
   cases hds with
   | cons _ _ u1 _ hd1 hds =>
   cases hds with
   | cons _ _ u2 _ hd2 hds =>
   cases hds
   have hu0 := ownRep hd0
   have hu1 := intRep hd1
   have hu2 := intRep hd2
   subst hu0 hu1 hu2
   obtain ⟨a, rfl⟩ : ∃ k : Nat, i = (k : Int) := ⟨Int.toNat i, (Int.toNat_of_nonneg hi0).symm⟩
   obtain ⟨b, rfl⟩ : ∃ k : Nat, j = (k : Int) := ⟨Int.toNat j, (Int.toNat_of_nonneg (by omega)).symm⟩
   have hab : a ≤ b := Int.ofNat_le.1 hij
   have hbn : b ≤ xs.length := Int.ofNat_le.1 hjn
   have hob := hst.obj 0 _ rfl
   have hno : ∀ p ob, nth? [Obj.arr RM.live e xs] p = some ob → 0 ∉ objRefs E ob := by
    intro p ob hp
    cases p with
    | zero => cases hp; simp [objRefs]
    | succ p => cases hp
   have hdel : N.delL xs ((a : Nat) : Int) ((b : Nat) : Int) = xs.take a ++ xs.drop b := by unfold N.delL; simp
   have hdl : (xs.take a ++ xs.drop b).length = a + (xs.length - b) := by simp; omega
   have fin : ∀ (y : Value) (w' : World), w'.os = w.os → w'.tape = w.tape → w'.output = w.output → w.heap.size ≤ w'.heap.size → (∀ b, b < w.heap.size → blk (σ 0) ≠ some b → w'.heap[b]? = w.heap[b]?) →
     (∀ b, blk y = some b → w.heap.size ≤ b ∨ blk (σ 0) = some b) → (∀ M', Kept (MB σ [Obj.arr RM.live e xs]) M' w w' → OwnRow E w' M' e (N.delL xs (a : Int) (b : Int)) y) →
     Back E σ [Obj.arr RM.live e xs] [Obj.arr RM.live e (N.delL xs (a : Int) (b : Int))] w (.ret [.own 0]) (.returned y) w' := by
    intro y w' q1 q2 q3 q4 q5 q6 q7
    have m := MvX.swap hst (o := 0) rfl hno y q1 q2 q3 q4 q5 q6 (q7 _)
    refine ⟨_, m.f, ?_⟩
    have hv := VRep.data _ _ _ (VT.own (E := E) (σ := setN σ 0 y) (st := [Obj.arr RM.live e (N.delL xs (a : Int) (b : Int))]) (w := w') (M := MB (setN σ 0 y) [Obj.arr RM.live e (N.delL xs (a : Int) (b : Int))]) 0 .live e (N.delL xs (a : Int) (b : Int)) rfl)
    rw [setN_at] at hv
    exact hv
   generalize hσ : σ 0 = s at *
   cases hob with
   | arr _ _ _ _ hown =>
   by_cases heq : a = b
   ·subst heq
    have hxx : N.delL xs (a : Int) (a : Int) = xs := by rw [hdel, List.take_append_drop]
    rcases id hown.2 with ⟨⟨base, rfl⟩, h0⟩ | ⟨g, cap, c, el, fr, olds, rfl, hcap, hh, hcz, hfz, hlo, hq, hord⟩
    ·have h00 : xs.length = 0 := by rw [h0]; rfl
     refine Calls.mono (R.same base 0 0 a (by omega) (Nat.le_refl _) w) (fun e' w' hb => ?_)
     obtain ⟨rfl, rfl⟩ := hb
     refine fin _ _ rfl rfl rfl (Nat.le_refl _) (fun _ _ _ => rfl) (fun b hb => .inr hb) (fun M' hk => ?_)
     rw [hxx]
     exact OwnRow.keep hk (fun _ _ => rfl) hown
    ·refine Calls.mono (R.same (some ⟨g, 0, none⟩) xs.length (cap + 1) a hbn hcap w) (fun e' w' hb => ?_)
     obtain ⟨rfl, rfl⟩ := hb
     refine fin _ _ rfl rfl rfl (Nat.le_refl _) (fun _ _ _ => rfl) (fun b hb => .inr hb) (fun M' hk => ?_)
     rw [hxx]
     exact OwnRow.keep hk (fun _ _ => rfl) hown
   ·have hlt : a < b := by omega
    rcases hown.2 with ⟨_, h0⟩ | ⟨g, cap, c, el, fr, olds, rfl, hcap, hh, hcz, hfz, hlo, hq, hord⟩
    ·rw [h0] at hbn; simp at hbn; omega
    ·have hfr : ∀ q, w.frozen? ⟨g, q, none⟩ = false := fun q => hfz q (fun h => absurd h h8)
     have hll := LRep.len HS.toEnvOk hlo
     have hglt := (Array.getElem?_eq_some_iff.1 hh).1
     obtain ⟨o1, o2, hoe, hl1, hl2⟩ := LRep.cutAt HS.toEnvOk hlo a (by omega)
     obtain ⟨p1, p2, hpe, hm1, hm2⟩ := LRep.cutAt HS.toEnvOk hlo b hbn
     have hlo1 : o1.length = a * E.size e := by rw [LRep.len HS.toEnvOk hl1, List.length_take, Nat.min_eq_left (by omega)]
     have hlp1 : p1.length = b * E.size e := by rw [LRep.len HS.toEnvOk hm1, List.length_take, Nat.min_eq_left hbn]
     have hlp2 : p2.length = (xs.length - b) * E.size e := by rw [LRep.len HS.toEnvOk hm2, List.length_drop]
     have hpone : ∀ u ∈ p2, oneC u = true := LRep.one hm2
     obtain ⟨A, hA⟩ : ∃ A : Addr, (if cap + 1 = b then (⟨g, 0, none⟩ : Addr) else ⟨g, b * E.size e, none⟩) = A := ⟨_, rfl⟩
     have hcell : ∀ q v, p2[q]? = some v → w.drew.cell? (A.add q) = some v := by
      intro q v hv
      have hql := (List.getElem?_eq_some_iff.1 hv).1
      rw [hlp2] at hql
      have hbl : b < xs.length := by
       rcases Nat.lt_or_ge b xs.length with h | h
       ·exact h
       ·rw [Nat.sub_eq_zero_of_le h, Nat.zero_mul] at hql; omega
      rw [if_neg (by omega)] at hA
      subst hA
      rw [addr_add]
      show w.cell? _ = _
      have : olds[b * E.size e + q]? = some v := by rw [hpe, List.getElem?_append_right (by omega), hlp1, Nat.add_sub_cancel_left]; exact hv
      simp [World.cell?, hh, hq _ v this]
     have hsrc : SrcA P ti (toV e (zeroC E depth e)) TL (.slice (some A) (xs.length - b) (cap + 1 - b)) (xs.length - b) p2 w.drew := .src (Src.ofSlice w.drew hTL A (xs.length - b) (cap + 1 - b) p2 (by rw [hsz, hlp2]) hcell (fun u hu => by rw [← oneC_eq]; exact hpone u hu))
     have hmul : a * E.size e + (xs.length - b) * E.size e ≤ c.size := by
      rw [← Nat.add_mul]; exact Nat.le_trans (Nat.mul_le_mul_right _ (by omega)) hcz
     have hrun := fun ty => app_room (P := P) (w := w.drew) TL ty TE hTL hti hsrc (b := g) (off := 0) (sLen := a) (sCap := cap + 1) (by omega) hh (by rw [hsz, hlp2]; omega) (fun q _ _ => hfr q)
     rw [hsz, Nat.zero_add] at hrun
     have hzc := zero_cells HS hTE hst
     have hdeep := (HS.data _ _ hTE).deep
     have hzv := zeroD_ok (σ := σ) (st := [Obj.arr RM.live e xs]) (w := w) (M := MB σ [Obj.arr RM.live e xs]) HS.toEnvOk depth e hdeep
     have hzsz : (zeroC E depth e).length = E.size e := VT.len HS.toEnvOk hzv
     obtain ⟨zs, hzs⟩ : ∃ zs : List Value, Builtin.zeroCells (toV e (zeroC E depth e)).cells (xs.length - (a + (xs.length - b))) = zs.toArray := ⟨_, (Array.toArray_toList).symm⟩
     have hzl : zs.length = (xs.length - (a + (xs.length - b))) * E.size e := by
      have := congrArg Array.size hzs
      rw [size_zeroCells, hzc, List.size_toArray, List.size_toArray, hzsz] at this
      exact this.symm
     have hzone : ∀ v ∈ zs, oneC v = true := by
      intro v hv
      have hmem : v ∈ Builtin.zeroCells (toV e (zeroC E depth e)).cells (xs.length - (a + (xs.length - b))) := by rw [hzs]; simpa using hv
      rw [hzc] at hmem
      unfold Builtin.zeroCells at hmem
      have h1 : ∀ v ∈ zeroC E depth e, oneC v = true := fun v hv => VT.one hst hzv v hv
      simp only [Array.mem_map] at hmem
      obtain ⟨j, hj, rfl⟩ := hmem
      simp only [Array.mem_range, List.size_toArray] at hj
      have hpos : 0 < (zeroC E depth e).length := Nat.pos_of_ne_zero (fun h0 => by rw [h0] at hj; simp at hj)
      apply h1
      have hlt : j % (zeroC E depth e).length < (zeroC E depth e).length := Nat.mod_lt _ hpos
      simp [hlt]
     have hfit2 : (a + (xs.length - b)) * E.size e + zs.length ≤ c.size := by
      rw [hzl, ← Nat.add_mul]
      exact Nat.le_trans (Nat.mul_le_mul_right _ (by omega)) hcz
     have hh1 : (putB w.drew g (.cells (spl c (a * E.size e) p2) el fr)).heap[g]? = some (.cells (spl c (a * E.size e) p2) el fr) := putB_at (w := w.drew) hglt
     have hfr1 : ∀ q, (putB w.drew g (.cells (spl c (a * E.size e) p2) el fr)).frozen? ⟨g, q, none⟩ = false := fun q => by rw [frozen_putB (w := w.drew) hh]; exact hfr q
     have hrun2 := fun ty ccap => run_clearN (P := P) (putB w.drew g (.cells (spl c (a * E.size e) p2) el fr)) TL ty TE ti _ hTL hti hz (o := (a + (xs.length - b)) * E.size e) (n := xs.length - (a + (xs.length - b))) (cap := ccap) hh1 zs hzs (by rw [spl_size]; exact hfit2) (fun j _ _ => hfr1 j) hzone (fun h0 => by omega)
     subst hA
     refine Calls.mono (R.cut g xs.length (cap + 1) a b hlt hbn hcap hown.1 w _ _ hrun hrun2) (fun e' w' hb => ?_)
     obtain ⟨rfl, rfl⟩ := hb
     refine fin _ _ rfl rfl rfl (by rw [putB_size, putB_size]; exact Nat.le_refl _) (fun q _ hne => by rw [putB_ne (fun h => hne (by rw [h]; rfl)), putB_ne (fun h => hne (by rw [h]; rfl))]; rfl) (fun q hq => .inr (by rw [blk_row hq]; rfl)) (fun M' hk' => ?_)
     rw [hdel]
     refine OwnRow.mk' E _ _ (by rw [hdl]; have := hown.1; omega) (by rw [hdl]; omega) (putB_at (by rw [putB_size]; exact hglt)) (by rw [spl_size, spl_size]; exact hcz) (fun q _ => by rw [frozen_putB hh1]; exact hfr1 q) (LRep.append (LRep.keep hk' hl1) (LRep.keep hk' hm2)) (fun q v hv => ?_) hdl.symm
     have hqv := (List.getElem?_eq_some_iff.1 hv).1
     rw [List.length_append, hlo1, hlp2, ← Nat.add_mul] at hqv
     rw [spl_get _ _ _ _ (by rw [spl_size]; exact hfit2), if_neg (by omega), spl_get _ _ _ _ (by rw [hlp2]; exact hmul)]
     by_cases hqa : q < o1.length
     ·rw [if_neg (by omega)]
      rw [List.getElem?_append_left hqa] at hv
      exact hq q v (by rw [hoe, List.getElem?_append_left hqa]; exact hv)
     ·rw [List.getElem?_append_right (by omega)] at hv
      have := (List.getElem?_eq_some_iff.1 hv).1
      rw [if_pos (by omega), ← hlo1]; exact hv
  ·cases hr
 ·cases hr
end
end Go.Proofs.YthgefhjknifehaaGreatDoor.D

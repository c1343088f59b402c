/- Instances: what a function comes to where its arguments, and the objects that they lead to, are of some shape. Loops by their rounds. Records of the program, as Lean has them. Functions of the library by contracts that are given: strings.Repeat. -/
import Derived.Test.YthabbcjjecpbmaaGreatBase5
import Derived.Below
import Derived.Lib.Repeat
set_option linter.unusedVariables false
set_option linter.unusedSimpArgs false
namespace Go.Proofs.YthabbcjjecpbmaaGreat.D
open Go

/-! ### Shapes -/
inductive PS where
  | fld (i j : Nat)
  | idx (e : Ty) (n : Nat)
  | at_ (e : Ty)

inductive Sh where
  | v (t : Ty)
  | str (s : List UInt8)
  | nils
  | own (k : Nat)
  | ptr (o : Nat) (p : List PS)
  | nilptr
  | rptr (t : Ty)
  | agg (i : Nat) (l : List Sh)
  | fn (f : FuncId) (l : List Sh)
  | nilfn
  | ifc (t : TypeId) (s : Sh)
  | nilifc
  | undef

inductive ShO where
  | box (ro : Bool) (s : Sh)
  | arr (l : RM) (e : Ty)
  | dead

section
variable (E : Env)

@[reducible] def PS.Fn : List PS → Type 1 → Type 1
  | [], A => A
  | .at_ _ :: p, A => Nat → PS.Fn p A
  | _ :: p, A => PS.Fn p A

mutual
@[reducible] def Sh.Fn : Sh → Type 1 → Type 1
  | .v t, A => I E.T t → A
  | .ptr _ p, A => PS.Fn p A
  | .rptr t, A => I E.T t → A
  | .agg _ l, A => Sh.FnL l A
  | .fn _ l, A => Sh.FnL l A
  | .ifc _ s, A => Sh.Fn s A
  | _, A => A
termination_by structural x => x
@[reducible] def Sh.FnL : List Sh → Type 1 → Type 1
  | [], A => A
  | s :: r, A => Sh.Fn s (Sh.FnL r A)
termination_by structural x => x
end

@[reducible] def ShO.Fn : ShO → Type 1 → Type 1
  | .box _ s, A => Sh.Fn E s A
  | .arr _ e, A => List (I E.T e) → A
  | .dead, A => A

@[reducible] def ShO.FnL : List ShO → Type 1 → Type 1
  | [], A => A
  | s :: r, A => ShO.Fn E s (ShO.FnL r A)

def PS.dec {A : Type 1} : (q : List PS) → List Step → PS.Fn q A → Option A
  | [], [], k => some k
  | .fld i j :: q, .fld i' j' :: p, k => bif Nat.beq i i' && Nat.beq j j' then PS.dec q p k else none
  | .idx e n :: q, .idx e' n' :: p, k => bif tyEqb e e' && Nat.beq n n' then PS.dec q p k else none
  | .at_ e :: q, .idx e' n' :: p, k => bif tyEqb e e' then PS.dec q p (k n') else none
  | _, _, _ => none

mutual
def Sh.dec : (s : Sh) → {A : Type 1} → DVal E.T → Sh.Fn E s A → Option A
  | .v t, _, d, k => match valOf E t d with
    | some x => some (k x)
    | none => none
  | .str s, _, .val .str x, k => bif x == s then some k else none
  | .nils, _, .nils, k => some k
  | .own n, _, .own m, k => bif Nat.beq n m then some k else none
  | .ptr o p, _, .ptr o' p', k => bif Nat.beq o o' then PS.dec p p' k else none
  | .nilptr, _, .nilptr, k => some k
  | .rptr t, _, .rptr t' x, k => match tyEq t' t with
    | some h => some (k (castI h.down x))
    | none => none
  | .agg i l, _, .agg i' ds, k => bif Nat.beq i i' then Sh.decL l ds k else none
  | .fn f l, _, .fn f' ds, k => bif Nat.beq f f' then Sh.decL l ds k else none
  | .nilfn, _, .nilfn, k => some k
  | .ifc t s, _, .ifc t' d, k => bif Nat.beq t t' then Sh.dec s d k else none
  | .nilifc, _, .nilifc, k => some k
  | _, _, _, _ => none
termination_by structural x => x
def Sh.decL : (l : List Sh) → {A : Type 1} → List (DVal E.T) → Sh.FnL E l A → Option A
  | [], _, [], k => some k
  | s :: r, _, d :: ds, k => match Sh.dec s d k with
    | some k' => Sh.decL r ds k'
    | none => none
  | _, _, _, _ => none
termination_by structural x => x
end

def RM.eqb : RM → RM → Bool
  | .froz, .froz => true
  | .fix, .fix => true
  | .live, .live => true
  | _, _ => false

def ShO.dec : (s : ShO) → {A : Type 1} → Obj E.T → ShO.Fn E s A → Option A
  | .box ro s, _, .box ro' d, k => bif ro == ro' then Sh.dec E s d k else none
  | .arr l e, _, .arr l' e' xs, k => match tyEq (.slice e') (.slice e) with
    | some h => bif RM.eqb l l' then some (k (castI (T := E.T) h.down xs)) else none
    | none => none
  | .dead, _, .dead, k => some k
  | _, _, _, _ => none

def ShO.decL : (l : List ShO) → {A : Type 1} → St E.T → ShO.FnL E l A → Option A
  | [], _, [], k => some k
  | s :: r, _, d :: ds, k => match ShO.dec E s d k with
    | some k' => ShO.decL r ds k'
    | none => none
  | _, _, _, _ => none

/-! What is said of all values of a shape -/
def PS.Rel {A : Type 1} : (q : List PS) → PS.Fn q A → (List Step → A → Prop) → Prop
  | [], k, P => P [] k
  | .fld i j :: q, k, P => PS.Rel q k fun p a => P (.fld i j :: p) a
  | .idx e n :: q, k, P => PS.Rel q k fun p a => P (.idx e n :: p) a
  | .at_ e :: q, k, P => ∀ n, PS.Rel q (k n) fun p a => P (.idx e n :: p) a

mutual
def Sh.Rel : (s : Sh) → {A : Type 1} → Sh.Fn E s A → (DVal E.T → A → Prop) → Prop
  | .v t, _, k, P => ∀ x, P (.val t x) (k x)
  | .str s, _, k, P => P (.val .str s) k
  | .nils, _, k, P => P .nils k
  | .own n, _, k, P => P (.own n) k
  | .ptr o p, _, k, P => PS.Rel p k fun p a => P (.ptr o p) a
  | .nilptr, _, k, P => P .nilptr k
  | .rptr t, _, k, P => ∀ x, P (.rptr t x) (k x)
  | .agg i l, _, k, P => Sh.RelL l k fun ds a => P (.agg i ds) a
  | .fn f l, _, k, P => Sh.RelL l k fun ds a => P (.fn f ds) a
  | .nilfn, _, k, P => P .nilfn k
  | .ifc t s, _, k, P => Sh.Rel s k fun d a => P (.ifc t d) a
  | .nilifc, _, k, P => P .nilifc k
  | .undef, _, _, _ => True
termination_by structural x => x
def Sh.RelL : (l : List Sh) → {A : Type 1} → Sh.FnL E l A → (List (DVal E.T) → A → Prop) → Prop
  | [], _, k, P => P [] k
  | s :: r, _, k, P => Sh.Rel s k fun d k' => Sh.RelL r k' fun ds a => P (d :: ds) a
termination_by structural x => x
end

def ShO.Rel : (s : ShO) → {A : Type 1} → ShO.Fn E s A → (Obj E.T → A → Prop) → Prop
  | .box ro s, _, k, P => Sh.Rel E s k fun d a => P (.box ro d) a
  | .arr l e, _, k, P => ∀ xs, P (.arr l e xs) (k xs)
  | .dead, _, k, P => P .dead k

def ShO.RelL : (l : List ShO) → {A : Type 1} → ShO.FnL E l A → (St E.T → A → Prop) → Prop
  | [], _, k, P => P [] k
  | s :: r, _, k, P => ShO.Rel E s k fun d k' => ShO.RelL r k' fun ds a => P (d :: ds) a
end

section
variable {E : Env}

theorem PS.dec_rel {A : Type 1} : ∀ (q : List PS) (p : List Step) (k : PS.Fn q A) {a : A} {P : List Step → A → Prop}, PS.dec q p k = some a → PS.Rel q k P → P p a
  | [], [], k, a, P, h, hr => by cases h; exact hr
  | .fld i j :: q, .fld i' j' :: p, k, a, P, h, hr => by
    simp only [PS.dec] at h
    cases hb : Nat.beq i i' && Nat.beq j j' with
    | false => rw [hb] at h; cases h
    | true =>
      rw [hb] at h
      rw [Bool.and_eq_true] at hb
      have h1 := Nat.eq_of_beq_eq_true hb.1
      have h2 := Nat.eq_of_beq_eq_true hb.2
      subst h1; subst h2
      exact PS.dec_rel q p k h hr
  | .idx e n :: q, .idx e' n' :: p, k, a, P, h, hr => by
    simp only [PS.dec] at h
    cases hb : tyEqb e e' && Nat.beq n n' with
    | false => rw [hb] at h; cases h
    | true =>
      rw [hb] at h
      rw [Bool.and_eq_true] at hb
      have h1 := tyEqb_eq hb.1
      have h2 := Nat.eq_of_beq_eq_true hb.2
      subst h1; subst h2
      exact PS.dec_rel q p k h hr
  | .at_ e :: q, .idx e' n' :: p, k, a, P, h, hr => by
    simp only [PS.dec] at h
    cases hb : tyEqb e e' with
    | false => rw [hb] at h; cases h
    | true =>
      rw [hb] at h
      have h1 := tyEqb_eq hb
      subst h1
      exact PS.dec_rel q p (k n') h (hr n')
  | [], _ :: _, k, a, P, h, hr => by cases h
  | .fld i j :: q, [], k, a, P, h, hr => by cases h
  | .fld i j :: q, .idx _ _ :: p, k, a, P, h, hr => by cases h
  | .idx e n :: q, [], k, a, P, h, hr => by cases h
  | .idx e n :: q, .fld _ _ :: p, k, a, P, h, hr => by cases h
  | .at_ e :: q, [], k, a, P, h, hr => by cases h
  | .at_ e :: q, .fld _ _ :: p, k, a, P, h, hr => by cases h

theorem valOf_eq {t : Ty} {d : DVal E.T} {x : I E.T t} (h : valOf E t d = some x) : d = .val t x := by
  cases d with
  | val t' y =>
    simp only [valOf] at h
    split at h
    · rename_i p _
      cases p with | up p =>
      cases p
      cases h
      rfl
    · cases h
  | _ => cases h

mutual
theorem Sh.dec_rel : ∀ (s : Sh) {A : Type 1} (d : DVal E.T) (k : Sh.Fn E s A) {a : A} {P : DVal E.T → A → Prop}, Sh.dec E s d k = some a → Sh.Rel E s k P → P d a
  | .v t, A, d, k, a, P, h, hr => by
    simp only [Sh.dec] at h
    split at h
    · rename_i x hx
      cases h
      rw [valOf_eq hx]
      exact hr x
    · cases h
  | .str s, A, d, k, a, P, h, hr => by
    cases d <;> try (simp only [Sh.dec] at h; cases h)
    rename_i t x
    cases t <;> try (simp only [Sh.dec] at h; cases h)
    simp only [Sh.dec] at h
    cases hb : (x == s) with
    | false => rw [hb] at h; cases h
    | true => rw [hb] at h; cases h; have := eq_of_beq hb; subst this; exact hr
  | .nils, A, d, k, a, P, h, hr => by cases d <;> first | (cases h; exact hr) | (simp only [Sh.dec] at h; cases h)
  | .own n, A, d, k, a, P, h, hr => by
    cases d <;> try (simp only [Sh.dec] at h; cases h)
    rename_i m
    simp only [Sh.dec] at h
    cases hb : Nat.beq n m with
    | false => rw [hb] at h; cases h
    | true => rw [hb] at h; cases h; have := Nat.eq_of_beq_eq_true hb; subst this; exact hr
  | .ptr o p, A, d, k, a, P, h, hr => by
    cases d <;> try (simp only [Sh.dec] at h; cases h)
    rename_i o' p'
    simp only [Sh.dec] at h
    cases hb : Nat.beq o o' with
    | false => rw [hb] at h; cases h
    | true => rw [hb] at h; have := Nat.eq_of_beq_eq_true hb; subst this; exact PS.dec_rel p p' k h hr
  | .nilptr, A, d, k, a, P, h, hr => by cases d <;> first | (cases h; exact hr) | (simp only [Sh.dec] at h; cases h)
  | .rptr t, A, d, k, a, P, h, hr => by
    cases d <;> try (simp only [Sh.dec] at h; cases h)
    rename_i t' x
    simp only [Sh.dec] at h
    split at h
    · rename_i p _
      cases p with | up p =>
      cases p
      cases h
      exact hr x
    · cases h
  | .agg i l, A, d, k, a, P, h, hr => by
    cases d <;> try (simp only [Sh.dec] at h; cases h)
    rename_i i' ds
    simp only [Sh.dec] at h
    cases hb : Nat.beq i i' with
    | false => rw [hb] at h; cases h
    | true => rw [hb] at h; have := Nat.eq_of_beq_eq_true hb; subst this; exact Sh.decL_rel l ds k h hr
  | .fn f l, A, d, k, a, P, h, hr => by
    cases d <;> try (simp only [Sh.dec] at h; cases h)
    rename_i f' ds
    simp only [Sh.dec] at h
    cases hb : Nat.beq f f' with
    | false => rw [hb] at h; cases h
    | true => rw [hb] at h; have := Nat.eq_of_beq_eq_true hb; subst this; exact Sh.decL_rel l ds k h hr
  | .nilfn, A, d, k, a, P, h, hr => by cases d <;> first | (cases h; exact hr) | (simp only [Sh.dec] at h; cases h)
  | .ifc t s, A, d, k, a, P, h, hr => by
    cases d <;> try (simp only [Sh.dec] at h; cases h)
    rename_i t' d
    simp only [Sh.dec] at h
    cases hb : Nat.beq t t' with
    | false => rw [hb] at h; cases h
    | true => rw [hb] at h; have := Nat.eq_of_beq_eq_true hb; subst this; exact Sh.dec_rel s d k h hr
  | .nilifc, A, d, k, a, P, h, hr => by cases d <;> first | (cases h; exact hr) | (simp only [Sh.dec] at h; cases h)
  | .undef, A, d, k, a, P, h, hr => by cases d <;> (simp only [Sh.dec] at h; cases h)
theorem Sh.decL_rel : ∀ (l : List Sh) {A : Type 1} (ds : List (DVal E.T)) (k : Sh.FnL E l A) {a : A} {P : List (DVal E.T) → A → Prop}, Sh.decL E l ds k = some a → Sh.RelL E l k P → P ds a
  | [], A, [], k, a, P, h, hr => by simp only [Sh.decL, Option.some.injEq] at h; subst h; exact hr
  | [], A, _ :: _, k, a, P, h, hr => by simp only [Sh.decL] at h; cases h
  | s :: r, A, [], k, a, P, h, hr => by simp only [Sh.decL] at h; cases h
  | s :: r, A, d :: ds, k, a, P, h, hr => by
    simp only [Sh.decL] at h
    split at h
    · rename_i k' hk
      exact Sh.decL_rel r ds k' (P := fun ds a => P (d :: ds) a) h (Sh.dec_rel s d k (P := fun d k' => Sh.RelL E r k' fun ds a => P (d :: ds) a) hk hr)
    · cases h
end

theorem ShO.dec_rel (s : ShO) {A : Type 1} (d : Obj E.T) (k : ShO.Fn E s A) {a : A} {P : Obj E.T → A → Prop} (h : ShO.dec E s d k = some a) (hr : ShO.Rel E s k P) : P d a := by
  cases s with
  | box ro s =>
    cases d <;> try (simp only [ShO.dec] at h; cases h)
    rename_i ro' d
    simp only [ShO.dec] at h
    cases hb : (ro == ro') with
    | false => rw [hb] at h; cases h
    | true => rw [hb] at h; have := eq_of_beq hb; subst this; exact Sh.dec_rel s d k h hr
  | arr l e =>
    cases d <;> try (simp only [ShO.dec] at h; cases h)
    rename_i l' e' xs
    simp only [ShO.dec] at h
    split at h
    · rename_i p _
      cases p with | up p =>
      cases p
      cases hb : RM.eqb l l' with
      | false => rw [hb] at h; cases h
      | true =>
        rw [hb] at h
        cases h
        have : l = l' := by cases l <;> cases l' <;> first | rfl | cases hb
        subst this
        exact hr xs
    · cases h
  | dead => cases d <;> first | (cases h; exact hr) | (simp only [ShO.dec] at h; cases h)

theorem ShO.decL_rel : ∀ (l : List ShO) {A : Type 1} (ds : St E.T) (k : ShO.FnL E l A) {a : A} {P : St E.T → A → Prop}, ShO.decL E l ds k = some a → ShO.RelL E l k P → P ds a
  | [], A, [], k, a, P, h, hr => by simp only [ShO.decL, Option.some.injEq] at h; subst h; exact hr
  | [], A, _ :: _, k, a, P, h, hr => by simp only [ShO.decL] at h; cases h
  | s :: r, A, [], k, a, P, h, hr => by simp only [ShO.decL] at h; cases h
  | s :: r, A, d :: ds, k, a, P, h, hr => by
    simp only [ShO.decL] at h
    split at h
    · rename_i k' hk
      exact ShO.decL_rel r ds k' (P := fun ds a => P (d :: ds) a) h (ShO.dec_rel s d k (P := fun d k' => ShO.RelL E r k' fun ds a => P (d :: ds) a) hk hr)
    · cases h

/-! ### Instances -/
structure Ins (E : Env) (X : Type) where
  args : List Sh
  objs : List ShO
  k : Sh.FnL E args (ShO.FnL E objs (Tree X))

def Ins.dec {X : Type} (i : Ins E X) (ds : List (DVal E.T)) (st : St E.T) : Option (Tree X) :=
  match Sh.decL E i.args ds i.k with
  | some k' => ShO.decL E i.objs st k'
  | none => none

/-- What is said of an instance at all values. -/
def Ins.Rel {X : Type} (i : Ins E X) (P : List (DVal E.T) → St E.T → Tree X → Prop) : Prop := Sh.RelL E i.args i.k fun ds k' => ShO.RelL E i.objs k' fun st t => P ds st t

theorem Ins.dec_rel {X : Type} {i : Ins E X} {ds : List (DVal E.T)} {st : St E.T} {t : Tree X} {P : List (DVal E.T) → St E.T → Tree X → Prop} (h : i.dec ds st = some t) (hr : i.Rel P) : P ds st t := by
  unfold Ins.dec at h
  split at h
  · rename_i k' hk
    exact ShO.decL_rel i.objs st k' (P := fun st t => P ds st t) h (Sh.decL_rel i.args ds i.k (P := fun ds k' => ShO.RelL E i.objs k' fun st t => P ds st t) hk hr)
  · cases h

def insF {X : Type} : List (Ins E X) → List (DVal E.T) → St E.T → Tree X
  | [], _, _ => .fail
  | i :: r, ds, st => match i.dec ds st with
    | some t => t
    | none => insF r ds st

def altT {α β : Type} {X : Type} (s : α ⊕ β) (f : α → Tree X) (g : β → Tree X) : Tree X := .ite s.isLeft (.opt s.getLeft? f) (.opt s.getRight? g)

variable {P : Program}

/-- An instance says what the function comes to. -/
def InsOk (P : Program) (f : FuncId) (i : Ins E (Res E.T × St E.T)) : Prop :=
  ∃ B, FnOk P E f B ∧ i.Rel fun ds st t => ∀ out, t.get = some out → (B ds st).get = some out

def AllI (P : Program) (f : FuncId) : List (Ins E (Res E.T × St E.T)) → Prop
  | [] => True
  | i :: r => InsOk P f i ∧ AllI P f r

theorem insF_ok {f : FuncId} : ∀ {l : List (Ins E (Res E.T × St E.T))}, AllI P f l → FnOk P E f (insF l)
  | [], _ => fun _ _ h => by cases h
  | i :: r, hl => fun hst hds h => by
    simp only [insF] at h
    split at h
    · rename_i t ht
      obtain ⟨B, hB, hr⟩ := hl.1
      exact hB hst hds (Ins.dec_rel ht hr _ h)
    · exact insF_ok hl.2 hst hds h

/-- Values and objects told anew ahead. -/
theorem dat_fn (ok : EnvOk E) {f : FuncId} {B : List (DVal E.T) → St E.T → Tree (Res E.T × St E.T)} (h : FnOk P E f B) : FnOk P E f fun ds st => B (datL E st st.length ds) (datSt E st st.length) := by
  intro σ st w ds us q st' hst hds hg
  have m := Mv.dat ok hst st.length
  have hd := VReps.dat ok hst st.length hds
  refine Calls.mono (h m.rep (m.vreps hd) hg) (fun e w' hb => ?_)
  obtain ⟨σ', m', hr⟩ := hb
  exact ⟨σ', m.f.trans m', hr⟩

def fullF (l : List (Ins E (Res E.T × St E.T))) (ds : List (DVal E.T)) (st : St E.T) : Tree (Res E.T × St E.T) := insF l (datL E st st.length ds) (datSt E st st.length)

theorem fullI_ok (ok : EnvOk E) {f : FuncId} {ps : List TK} {flat : Bool} {l : List (Ins E (Res E.T × St E.T))} (hen : Enters P f) (h : AllI P f l) : SpecOk P E f (.full ps flat (fullF l)) :=
  ⟨hen, dat_fn ok (insF_ok h)⟩

def pureF (l : List (Ins E (Res E.T × St E.T))) (ds : List (DVal E.T)) : Tree (Res E.T) := (insF l ds []).bind fun p => match p.2 with
  | [] => .ret p.1
  | _ => .fail

theorem pureI_ok {f : FuncId} {ps : List Ty} {l : List (Ins E (Res E.T × St E.T))} (hen : Enters P f) (h : AllI P f l) : SpecOk P E f (.pure ps (pureF l)) := by
  refine ⟨hen, pure_ok (insF_ok h) fun ds r hg => ?_⟩
  unfold pureF at hg
  obtain ⟨p, h1, h2⟩ := Tree.get_bind_some hg
  obtain ⟨r', s⟩ := p
  cases s with
  | nil => cases h2; exact h1
  | cons _ _ => cases h2

theorem dfullD_ok {P : Program} (HS : Sound P E) (hmix : P.follows .mixedOrders = true) {S : List (Nat × Spec E)} (hS : AllS P E S) {L : Nat → LoopInfo E} (hL : ∀ i, (L i).closed = none) {N : Nat} {f : FuncId} {fn : Func} {c : Code}
    (hen : Enters P f) (hf : P.funcs[f]? = some fn) (hb : fn.body = some c) : DSpecOk P E f (dbodyD E (lookS S) L N fn) :=
  dbodyD_ok HS hmix (callOk HS (lookS_ok hS)) hf hb (loopsOk_open hL c 0) hen

/-! ### Loops by their rounds -/
theorem iter_loop {V X : Type} {step : V → Option (V ⊕ X)} {stp : Fr E.T → St E.T → Tree (CodeOut E)} {ks rs : List Nat} {mvs : List (Nat × Nat)} {n : Nat} {hd : V → Fr E.T} {sv : V → St E.T} {ex : X → Tree (CodeOut E)}
    (h : ∀ v, ((stp (hd v) (sv v)).bind (nx E ks mvs rs n)).get = (step v).bind fun s => N.alt s (fun v' => some (.inl (hd v', sv v'))) fun x => (ex x).get.map Sum.inr) :
    ∀ (m : Nat) (v : V) {x : X} {out : CodeOut E}, N.iter step m v = some x → (ex x).get = some out → LoopTo stp ks mvs n (hd v) (sv v) out
  | 0, v, x, out, hi, ho => by cases hi
  | m + 1, v, x, out, hi, ho => by
    rw [N.iter_succ] at hi
    have hv := h v
    cases hst : step v with
    | none => rw [hst] at hi; cases hi
    | some s =>
      rw [hst] at hi hv
      cases s with
      | inl v' => exact LoopTo.next hv (iter_loop h m v' hi ho)
      | inr y =>
        have : y = x := Option.some.inj hi
        subst this
        refine LoopTo.stop (rs := rs) ?_
        rw [hv]
        show (ex y).get.map Sum.inr = _
        rw [ho]
        rfl

/-- A loop's closed form by instances. -/
def InsLp (n : Nat) (ks : List Nat) (mvs : List (Nat × Nat)) (d : List (FuncId × List (DVal E.T))) (stp : Fr E.T → St E.T → Tree (CodeOut E)) (i : Ins E (CodeOut E)) : Prop :=
  i.Rel fun vals st t => ∀ out, t.get = some out → LoopTo stp ks mvs st.length (ofSlots E n d ks vals) st out

def AllLp (n : Nat) (ks : List Nat) (mvs : List (Nat × Nat)) (d : List (FuncId × List (DVal E.T))) (stp : Fr E.T → St E.T → Tree (CodeOut E)) : List (Ins E (CodeOut E)) → Prop
  | [] => True
  | i :: r => InsLp n ks mvs d stp i ∧ AllLp n ks mvs d stp r

theorem allLp_nil {n : Nat} {ks : List Nat} {mvs : List (Nat × Nat)} {d : List (FuncId × List (DVal E.T))} {stp : Fr E.T → St E.T → Tree (CodeOut E)} : AllLp n ks mvs d stp [] := trivial

theorem allLp_cons {n : Nat} {ks : List Nat} {mvs : List (Nat × Nat)} {d : List (FuncId × List (DVal E.T))} {stp : Fr E.T → St E.T → Tree (CodeOut E)} {i : Ins E (CodeOut E)} {l : List (Ins E (CodeOut E))} (h : InsLp n ks mvs d stp i) (h' : AllLp n ks mvs d stp l) : AllLp n ks mvs d stp (i :: l) := ⟨h, h'⟩

theorem insLp_ok {n : Nat} {ks : List Nat} {mvs : List (Nat × Nat)} {d : List (FuncId × List (DVal E.T))} {stp : Fr E.T → St E.T → Tree (CodeOut E)} : ∀ {l : List (Ins E (CodeOut E))}, AllLp n ks mvs d stp l → ∀ vals st out, (insF l vals st).get = some out → LoopTo stp ks mvs st.length (ofSlots E n d ks vals) st out
  | [], _, vals, st, out, h => by cases h
  | i :: r, hl, vals, st, out, h => by
    simp only [insF] at h
    split at h
    · rename_i t ht
      exact Ins.dec_rel ht hl.1 out h
    · exact insLp_ok hl.2 vals st out h

theorem lp_ok {n : Nat} {ks : List Nat} {mvs : List (Nat × Nat)} {d : List (FuncId × List (DVal E.T))} {stp : Fr E.T → St E.T → Tree (CodeOut E)} {l : List (Ins E (CodeOut E))} (h : AllLp n ks mvs d stp l) (fr : Fr E.T) (st : St E.T) (out : CodeOut E)
    (hc : (closedOf E n ks mvs d (insF l) fr st).get = some out) : ∃ m fr', (loopT E stp ks mvs st.length m fr st).get = some (out.1, fr', out.2.2) ∧ Weak out.2.1 fr' :=
  closed_ok (insLp_ok h) fr st out hc

/-! ### What a function leaves: records joined, what nobody reaches any more forgotten -/
def datRes (st : St E.T) : Res E.T → Res E.T
  | .ret vs => .ret (datL E st st.length vs)
  | .panic v => .panic v

def resRefs : Res E.T → List Nat
  | .ret vs => refsL vs
  | .panic v => refs v

def keepO (R : List Nat) : Nat → St E.T → St E.T
  | _, [] => []
  | i, o :: r => (bif memB R i then o else .dead) :: keepO R (i + 1) r

def tidyF (B : List (DVal E.T) → St E.T → Tree (Res E.T × St E.T)) (ds : List (DVal E.T)) (st : St E.T) : Tree (Res E.T × St E.T) :=
  (B ds st).bind fun p =>
    let s1 := datSt E p.2 p.2.length
    let r1 := datRes p.2 p.1
    let R := reach E s1 1000 (List.range st.length ++ resRefs r1) []
    Tree.need (R.all (fun k => (objAt E s1 k).all (memB R)) && ((List.range st.length).all (memB R) && (resRefs r1).all (memB R))) (.ret (r1, keepO R 0 s1))

theorem keepO_len (R : List Nat) : ∀ (i : Nat) (l : St E.T), (keepO R i l).length = l.length
  | _, [] => rfl
  | i, o :: r => by simp [keepO, keepO_len R (i + 1) r]

theorem keepO_at (R : List Nat) : ∀ (i : Nat) (l : St E.T) (j : Nat), nth? (keepO R i l) j = if i + j ∈ R then nth? l j else (nth? l j).map fun _ => .dead
  | i, [], j => by simp [keepO, nth?]
  | i, o :: r, 0 => by
    simp only [keepO, nth?, Nat.add_zero]
    by_cases h : i ∈ R
    · rw [if_pos h, (memB_iff R i).2 h]; rfl
    · have : memB R i = false := by
        cases hb : memB R i with
        | false => rfl
        | true => exact absurd ((memB_iff R i).1 hb) h
      rw [if_neg h, this]; rfl
  | i, o :: r, j + 1 => by
    simp only [keepO, nth?]
    rw [keepO_at R (i + 1) r j, show i + 1 + j = i + (j + 1) by omega]

section
variable {σ σ' : Sg} {st st' : St E.T} {w w' : World} {R : List Nat}

theorem keepO_MB {b : Nat} (h : MB σ (keepO R 0 st) b) : MB σ st b := by
  rcases h with h | ⟨o, ob, ho, hm, hb⟩
  · exact .inl h
  · rw [keepO_at, Nat.zero_add] at ho
    split at ho
    · exact .inr ⟨o, ob, ho, hm, hb⟩
    · obtain ⟨q, _, rfl⟩ := Option.map_eq_some_iff.1 ho
      cases hm

theorem keepO_same {k : Nat} (hk : k ∈ R) : Same σ σ st (keepO R 0 st) k :=
  ⟨rfl, fun l e xs h => ⟨l, xs, by rw [keepO_at, Nat.zero_add, if_pos hk]; exact h⟩, fun h => by rw [keepO_len]; exact h⟩

theorem keepO_rep (hst : StRep E σ st w) (hc : ∀ k ∈ R, ∀ ob, nth? st k = some ob → ∀ j ∈ objRefs E ob, j ∈ R) : StRep E σ (keepO R 0 st) w := by
  have hat : ∀ {o ob}, nth? (keepO R 0 st) o = some ob → isDead ob = false → o ∈ R ∧ nth? st o = some ob := by
    intro o ob ho hd
    rw [keepO_at, Nat.zero_add] at ho
    split at ho
    · rename_i h; exact ⟨h, ho⟩
    · obtain ⟨q, _, rfl⟩ := Option.map_eq_some_iff.1 ho
      cases hd
  refine ⟨fun o ob ho => ?_, fun o o' ob ob' b hne ho ho' hm hd hb1 hb2 => ?_, hst.amb, fun o ob b ho hd hb => hst.out o ob b (hat ho hd).2 hd hb⟩
  · cases hd : isDead ob with
    | true => cases ob <;> first | exact .dead _ | cases hd
    | false =>
      obtain ⟨h1, h2⟩ := hat ho hd
      exact ObRep.keep (Kept.weaken fun b hb => keepO_MB hb) (fun _ _ => rfl) (fun k hk => keepO_same (hc o h1 ob h2 k hk)) (hst.obj o ob h2)
  · exact hst.apart o o' ob ob' b hne (hat ho (by cases ob <;> first | rfl | cases hm)).2 (hat ho' hd).2 hm hd hb1 hb2

theorem tidy_fn (ok : EnvOk E) {f : FuncId} {B : List (DVal E.T) → St E.T → Tree (Res E.T × St E.T)} (h : FnOk P E f B) : FnOk P E f (tidyF B) := by
  intro σ st w ds us q st' hst hds hg
  unfold tidyF at hg
  obtain ⟨p, hp, hg⟩ := Tree.get_bind_some hg
  obtain ⟨r, s⟩ := p
  simp only at hg
  generalize hR : reach E (datSt E s s.length) 1000 (List.range st.length ++ resRefs (datRes s r)) [] = R at hg
  obtain ⟨hb, hg⟩ := Tree.get_need hg
  cases hg
  simp only [Bool.and_eq_true, List.all_eq_true] at hb
  obtain ⟨h1, h2, h3⟩ := hb
  refine Calls.mono (h hst hds hp) (fun e w' hb => ?_)
  obtain ⟨σ', m, hr⟩ := hb
  have md := Mv.dat ok m.rep s.length
  have m1 := m.trans md.f
  have hcl : ∀ k ∈ R, ∀ ob, nth? (datSt E s s.length) k = some ob → ∀ j ∈ objRefs E ob, j ∈ R := by
    intro k hk ob ho j hj
    have := h1 k hk
    simp only [objAt, ho] at this
    exact (memB_iff R j).1 (this j hj)
  have hrep := keepO_rep m1.rep hcl
  have hkp : Kept (MB σ' (datSt E s s.length)) (MB σ' (keepO R 0 (datSt E s s.length))) w' w' := Kept.weaken fun b hb => keepO_MB hb
  refine ⟨σ', ⟨hrep, ⟨m1.keep.os, m1.keep.tape, m1.keep.output, m1.keep.size, m1.keep.block, fun b hb h => m1.keep.may b hb (keepO_MB h)⟩, ⟨m1.stay.same, fun o ob ho => ?_⟩, m1.amb⟩, ?_⟩
  · obtain ⟨ob', h4, h5, h6⟩ := m1.stay.kind o ob ho
    have : o ∈ R := (memB_iff R o).1 (h2 o (List.mem_range.2 (nth?_lt ho)))
    exact ⟨ob', by rw [keepO_at, Nat.zero_add, if_pos this]; exact h4, h5, h6⟩
  · have h3' : ∀ k ∈ resRefs (datRes s r), k ∈ R := fun k hk => (memB_iff R k).1 (h3 k hk)
    cases r with
    | panic v =>
      cases e with
      | returned _ => exact hr.elim
      | outgrown => exact hr.elim
      | panicked ch =>
        obtain ⟨u, hu, hv⟩ := hr
        exact ⟨u, hu, VRep.keep hkp (md.vrep hv) (fun k hk => keepO_same (h3' k hk))⟩
    | ret vs =>
      cases e with
      | panicked ch => exact hr.elim
      | outgrown => exact hr.elim
      | returned v =>
        have key : ∀ us : List Value, VReps E σ' s w' (MB σ' s) vs us → VReps E σ' (keepO R 0 (datSt E s s.length)) w' (MB σ' (keepO R 0 (datSt E s s.length))) (datL E s s.length vs) us :=
          fun us hv => VReps.keep hkp (md.vreps (VReps.dat ok m.rep s.length hv)) (fun k hk => keepO_same (h3' k hk))
        show VRep E σ' _ w' _ (resVal E (datL E s s.length vs)) v
        have hr' : VRep E σ' s w' (MB σ' s) (resVal E vs) v := hr
        match vs, hr', key with
        | [], hr', key =>
          cases hr' with
          | data t d cs hv => cases hv
          | tup vs us h => exact .tup _ us (key us h)
        | [x], hr', key =>
          have := key [v] (.cons x [] v [] hr' .nil)
          cases this with
          | cons _ _ _ _ h _ => exact h
        | x :: y :: r, hr', key =>
          cases hr' with
          | data t d cs hv => cases hv
          | tup vs us h => exact .tup _ us (key us h)
end
end
end Go.Proofs.YthabbcjjecpbmaaGreat.D

set_option linter.unusedVariables false
namespace Go.Proofs.YthabbcjjecpbmaaGreat.N

structure TPut where
  At : Int
  B : List UInt8

def TPut.eqb (x y : TPut) : Bool := ((x.At == y.At) && ((x.B == y.B) && true))

structure TDisk where
  Last : List (List UInt8)
  Wait : List TPut
  Arm : Int
  Down : Bool

def TDisk.eqb (x y : TDisk) : Bool := (false && (false && ((x.Arm == y.Arm) && ((x.Down == y.Down) && true))))

structure TFile where
  Name : List UInt8
  Ver : Int
  Body : List UInt8

def TFile.eqb (x y : TFile) : Bool := ((x.Name == y.Name) && ((x.Ver == y.Ver) && ((x.Body == y.Body) && true)))

structure TMark where
  Seq : Int
  Err : Int
  File : Int
  Ver : Int

def TMark.eqb (x y : TMark) : Bool := ((x.Seq == y.Seq) && ((x.Err == y.Err) && ((x.File == y.File) && ((x.Ver == y.Ver) && true))))

structure TState where
  Files : List TFile
  Marks : List TMark
  Epoch : Int

def TState.eqb (x y : TState) : Bool := (false && (false && ((x.Epoch == y.Epoch) && true)))

structure TStore where
  D : TDisk
  S : TState

def TStore.eqb (x y : TStore) : Bool := (TDisk.eqb x.D y.D && (TState.eqb x.S y.S && true))

structure TLease where
  Client : Int
  File : Int
  Mode : Int
  Until : Int

def TLease.eqb (x y : TLease) : Bool := ((x.Client == y.Client) && ((x.File == y.File) && ((x.Mode == y.Mode) && ((x.Until == y.Until) && true))))

structure TWait where
  Client : Int
  Seq : Int
  File : Int
  Mode : Int

def TWait.eqb (x y : TWait) : Bool := ((x.Client == y.Client) && ((x.Seq == y.Seq) && ((x.File == y.File) && ((x.Mode == y.Mode) && true))))

structure TDesk where
  Leases : List TLease
  Line : List TWait

def TDesk.eqb (x y : TDesk) : Bool := (false && (false && true))

structure TTell where
  Kind : Int
  To : Int
  Epoch : Int
  Seq : Int
  Err : Int
  File : Int
  Mode : Int
  Ver : Int
  Body : List UInt8

def TTell.eqb (x y : TTell) : Bool := ((x.Kind == y.Kind) && ((x.To == y.To) && ((x.Epoch == y.Epoch) && ((x.Seq == y.Seq) && ((x.Err == y.Err) && ((x.File == y.File) && ((x.Mode == y.Mode) && ((x.Ver == y.Ver) && ((x.Body == y.Body) && true)))))))))

structure TServer where
  Store : TStore
  Desk : TDesk
  Seen : List Int
  Told : List TTell
  Now : Int
  Hush : Int
  Bad : Int
  Live : Bool
  Recalled : Int

def TServer.eqb (x y : TServer) : Bool := (TStore.eqb x.Store y.Store && (TDesk.eqb x.Desk y.Desk && (false && (false && ((x.Now == y.Now) && ((x.Hush == y.Hush) && ((x.Bad == y.Bad) && ((x.Live == y.Live) && ((x.Recalled == y.Recalled) && true)))))))))

structure TWrite where
  Off : Int
  B : List UInt8

def TWrite.eqb (x y : TWrite) : Bool := ((x.Off == y.Off) && ((x.B == y.B) && true))

structure TCache where
  Mode : Int
  Until : Int
  Ver : Int
  Body : List UInt8
  Dirty : List TWrite
  Sent : Int
  Called : Bool
  Lost : Bool

def TCache.eqb (x y : TCache) : Bool := ((x.Mode == y.Mode) && ((x.Until == y.Until) && ((x.Ver == y.Ver) && ((x.Body == y.Body) && (false && ((x.Sent == y.Sent) && ((x.Called == y.Called) && ((x.Lost == y.Lost) && true))))))))

structure TAsk where
  Kind : Int
  From : Int
  Epoch : Int
  Seq : Int
  Name : List UInt8
  File : Int
  Mode : Int
  Writes : List TWrite

def TAsk.eqb (x y : TAsk) : Bool := ((x.Kind == y.Kind) && ((x.From == y.From) && ((x.Epoch == y.Epoch) && ((x.Seq == y.Seq) && ((x.Name == y.Name) && ((x.File == y.File) && ((x.Mode == y.Mode) && (false && true))))))))

structure TOut where
  Is : Bool
  Ask : TAsk
  First : Int
  Last : Int

def TOut.eqb (x y : TOut) : Bool := ((x.Is == y.Is) && (TAsk.eqb x.Ask y.Ask && ((x.First == y.First) && ((x.Last == y.Last) && true))))

structure TClient where
  ID : Int
  Now : Int
  Epoch : Int
  Seq : Int
  Files : List TCache
  Names : List (List UInt8)
  Out : TOut
  Bad : Int
  Hits : Int
  Asks : Int

def TClient.eqb (x y : TClient) : Bool := ((x.ID == y.ID) && ((x.Now == y.Now) && ((x.Epoch == y.Epoch) && ((x.Seq == y.Seq) && (false && (false && (TOut.eqb x.Out y.Out && ((x.Bad == y.Bad) && ((x.Hits == y.Hits) && ((x.Asks == y.Asks) && true))))))))))

structure TGram where
  To : Int
  B : List UInt8
  Turned : Bool

def TGram.eqb (x y : TGram) : Bool := ((x.To == y.To) && ((x.B == y.B) && ((x.Turned == y.Turned) && true)))

structure TWorld where
  Real : Int
  S : TServer
  Clients : List TClient
  Fly : List TGram

def TWorld.eqb (x y : TWorld) : Bool := ((x.Real == y.Real) && (TServer.eqb x.S y.S && (false && (false && true))))

structure TAns where
  Err : Int
  File : Int
  Body : List UInt8

def TAns.eqb (x y : TAns) : Bool := ((x.Err == y.Err) && ((x.File == y.File) && ((x.Body == y.Body) && true)))

structure TStep where
  Kind : Int
  R : Int
  By : Int
  File : Int
  Off : Int
  I : Int
  To : Int
  Text : List UInt8
  Gains : List Int

def TStep.eqb (x y : TStep) : Bool := ((x.Kind == y.Kind) && ((x.R == y.R) && ((x.By == y.By) && ((x.File == y.File) && ((x.Off == y.Off) && ((x.I == y.I) && ((x.To == y.To) && ((x.Text == y.Text) && (false && true)))))))))

structure Ttenancymade_Picks where
  l : List UInt8
  n : Int

def Ttenancymade_Picks.eqb (x y : Ttenancymade_Picks) : Bool := (false && ((x.n == y.n) && true))

structure Tworld_refused where
  e : Int

def Tworld_refused.eqb (x y : Tworld_refused) : Bool := ((x.e == y.e) && true)

structure Tworld_host where
  World : TWorld
  a : TAns

def Tworld_host.eqb (x y : Tworld_host) : Bool := (TWorld.eqb x.World y.World && (TAns.eqb x.a y.a && true))

structure Ttruth_held where
  client : Int
  file : Int
  mode : Int
  c : TCache

def Ttruth_held.eqb (x y : Ttruth_held) : Bool := ((x.client == y.client) && ((x.file == y.file) && ((x.mode == y.mode) && (TCache.eqb x.c y.c && true))))

structure Ttenancyref13_Reader where
  B : List UInt8
  Bad : Bool

def Ttenancyref13_Reader.eqb (x y : Ttenancyref13_Reader) : Bool := (false && ((x.Bad == y.Bad) && true))

structure Tops_reader where
  b : List UInt8

def Tops_reader.eqb (x y : Tops_reader) : Bool := (false && true)

structure TNil0 where

def TNil0.eqb (x y : TNil0) : Bool := true

structure Tserver_host where
  Server : TServer
  told : List TTell

def Tserver_host.eqb (x y : Tserver_host) : Bool := (TServer.eqb x.Server y.Server && (false && true))

structure Tclient_work where
  Client : TClient
  asked : List TAsk

def Tclient_work.eqb (x y : Tclient_work) : Bool := (TClient.eqb x.Client y.Client && (false && true))

structure Tdisk_lasting where
  d : TDisk

def Tdisk_lasting.eqb (x y : Tdisk_lasting) : Bool := (TDisk.eqb x.d y.d && true)

structure Tclient_told where
  a : TAns

def Tclient_told.eqb (x y : Tclient_told) : Bool := (TAns.eqb x.a y.a && true)

structure Tmsg_reader where
  b : List UInt8

def Tmsg_reader.eqb (x y : Tmsg_reader) : Bool := (false && true)

structure Tjrnl_writer where
  d : TDisk

def Tjrnl_writer.eqb (x y : Tjrnl_writer) : Bool := (TDisk.eqb x.d y.d && true)

structure Timage_reader where
  b : List UInt8

def Timage_reader.eqb (x y : Timage_reader) : Bool := (false && true)

structure Tstate_refused where
  e : Int

def Tstate_refused.eqb (x y : Tstate_refused) : Bool := ((x.e == y.e) && true)

structure Tutf8_acceptRange where
  lo : UInt8
  hi : UInt8

def Tutf8_acceptRange.eqb (x y : Tutf8_acceptRange) : Bool := ((i8 x.lo == i8 y.lo) && ((i8 x.hi == i8 y.hi) && true))

end Go.Proofs.YthabbcjjecpbmaaGreat.N

set_option linter.unusedVariables false
set_option linter.unusedSimpArgs false
namespace Go.Proofs.YthabbcjjecpbmaaGreat.D
open Go Go.RowKit

section
variable {P : Program} {E : Env} {w w' : World} {σ : Sg} {st : St E.T} {M : Nat → Prop}

theorem below_mf (hst : StRep E σ st w) (h : Below w.heap.size w w') : Mf σ σ st st w w' := (Mv.still hst h.os h.tape h.output h.size h.block).f

theorem str_val {s : List UInt8} (h : s.length ≤ lim) : VRep E σ st w M (.val .str s) (.string ⟨s.toArray⟩) := by
  have h1 : CRep E w M .str (ByteArray.mk s.toArray).data.toList [.string ⟨s.toArray⟩] := CRep.str _ (by simpa [ByteArray.size] using h)
  exact .data .str _ _ (.val .str _ _ h1)

/-- strings.Repeat -/
def repS (E : Env) : List (DVal E.T) → Tree (Res E.T)
  | [.val .str s, .val (.int .i64) n] => .ite (N.repOk (α := UInt8) s n) (.ret (.ret [.val .str (N.repL (α := UInt8) s n)])) .fail
  | _ => .fail

theorem repeatL_eq (l : List UInt8) : ∀ c, Lib.repeatL l c = (List.replicate c l).flatten
  | 0 => rfl
  | c + 1 => by rw [Lib.repeatL, List.replicate_succ, List.flatten_cons, repeatL_eq l c]

theorem rep_ok {f : FuncId} (hen : Enters P f)
    (hc : ∀ (s : ByteArray) (c : Nat) (w : World), c ≤ 9223372036854775807 → s.size * c ≤ 140737488355328 → Calls P f #[.string s, .int .i64 c] w fun e w' => e = .returned (.string ⟨(Lib.repeatL s.data.toList c).toArray⟩) ∧ Below w.heap.size w w') :
    SpecOk P E f (.pure [.str, .int .i64] (repS E)) := by
  refine ⟨hen, fun {σ w ds us r} hst hds hr => ?_⟩
  unfold repS at hr
  split at hr
  · rename_i s n
    simp only [Tree.get] at hr
    cases hk : N.repOk (α := UInt8) s n with
    | false => rw [hk] at hr; cases hr
    | true =>
      rw [hk] at hr
      cases hr
      cases hds with
      | cons v r u us h1 h2 =>
        cases h2 with
        | cons v r u2 us h2 h3 =>
          cases h3
          obtain ⟨b, rfl, hb, _⟩ := strRep h1
          have := intRep h2; subst this
          unfold N.repOk at hk
          simp only [Bool.and_eq_true, decide_eq_true_eq] at hk
          obtain ⟨k1, k2, k3⟩ := hk
          obtain ⟨c, hn⟩ : ∃ c : Nat, n = ((c : Nat) : Int) := ⟨Int.toNat n, (Int.toNat_of_nonneg k1).symm⟩
          subst hn
          rw [Int.toNat_natCast] at k3
          have hsz : b.size = s.length := by rw [← hb]; exact Array.length_toList.symm
          have k2' : c ≤ 2147483648 := Int.ofNat_le.1 k2
          have k3' : s.length * c ≤ 2147483648 := k3
          have hcall := hc b c w (by omega) (by rw [hsz]; omega)
          refine hcall.mono fun e w' ⟨he, hbel⟩ => ⟨σ, below_mf hst hbel, ?_⟩
          rw [he, hb, repeatL_eq]
          have hl : (List.replicate c s).flatten.length ≤ lim := by
            rw [List.length_flatten, List.map_replicate, List.sum_replicate_nat, Nat.mul_comm]
            exact k3'
          exact str_val hl
  · cases hr
end
end Go.Proofs.YthabbcjjecpbmaaGreat.D

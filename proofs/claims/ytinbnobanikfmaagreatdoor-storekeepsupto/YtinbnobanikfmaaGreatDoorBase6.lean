/- Instances: what a function comes to where its arguments, and the objects that they lead to, are of some shape. Loops by their rounds. Functions of the library by contracts that are given: strings.Repeat. A body whose last part ranges over the chunks of a row of bytes. strings.Join, by its contract. -/
import Derived.Test.YtinbnobanikfmaaGreatDoorBase5
import Derived.Below
import Derived.Lib.Repeat
import Derived.RangeFuncLeaves
import Derived.RangeFuncBox
import Derived.Lib.Join
set_option linter.unusedVariables false
set_option linter.unusedSimpArgs false
namespace Go.Proofs.YtinbnobanikfmaaGreatDoor.D
open Go
inductive PS where
  | fld (i j : Nat)
  | idx (e : Ty) (n : Nat)
  | at_ (e : Ty)
inductive Sh where
  | v (t : Ty)
  | str (s : List UInt8)
  | nils
  | own (k : Nat)
  | ptr (o : Nat) (p : List PS)
  | nilptr
  | rptr (t : Ty)
  | agg (i : Nat) (l : List Sh)
  | fn (f : FuncId) (l : List Sh)
  | nilfn
  | ifc (t : TypeId) (s : Sh)
  | nilifc
  | undef
inductive ShO where
  | box (ro : Bool) (s : Sh)
  | arr (l : RM) (e : Ty)
  | dead
section
variable (E : Env)
@[reducible] def PS.Fn : List PS → Type 1 → Type 1
  | [], A => A
  | .at_ _ :: p, A => Nat → PS.Fn p A
  | _ :: p, A => PS.Fn p A
mutual
@[reducible] def Sh.Fn : Sh → Type 1 → Type 1
  | .v t, A => I E.T t → A
  | .ptr _ p, A => PS.Fn p A
  | .rptr t, A => I E.T t → A
  | .agg _ l, A => Sh.FnL l A
  | .fn _ l, A => Sh.FnL l A
  | .ifc _ s, A => Sh.Fn s A
  | _, A => A
termination_by structural x => x
@[reducible] def Sh.FnL : List Sh → Type 1 → Type 1
  | [], A => A
  | s :: r, A => Sh.Fn s (Sh.FnL r A)
termination_by structural x => x
end
@[reducible] def ShO.Fn : ShO → Type 1 → Type 1
  | .box _ s, A => Sh.Fn E s A
  | .arr _ e, A => List (I E.T e) → A
  | .dead, A => A
@[reducible] def ShO.FnL : List ShO → Type 1 → Type 1
  | [], A => A
  | s :: r, A => ShO.Fn E s (ShO.FnL r A)
def PS.dec {A : Type 1} : (q : List PS) → List Step → PS.Fn q A → Option A
  | [], [], k => some k
  | .fld i j :: q, .fld i' j' :: p, k => bif Nat.beq i i' && Nat.beq j j' then PS.dec q p k else none
  | .idx e n :: q, .idx e' n' :: p, k => bif tyEqb e e' && Nat.beq n n' then PS.dec q p k else none
  | .at_ e :: q, .idx e' n' :: p, k => bif tyEqb e e' then PS.dec q p (k n') else none
  | _, _, _ => none
mutual
def Sh.dec : (s : Sh) → {A : Type 1} → DVal E.T → Sh.Fn E s A → Option A
  | .v t, _, d, k => match valOf E t d with
    | some x => some (k x)
    | none => none
  | .str s, _, .val .str x, k => bif x == s then some k else none
  | .nils, _, .nils, k => some k
  | .own n, _, .own m, k => bif Nat.beq n m then some k else none
  | .ptr o p, _, .ptr o' p', k => bif Nat.beq o o' then PS.dec p p' k else none
  | .nilptr, _, .nilptr, k => some k
  | .rptr t, _, .rptr t' x, k => match tyEq t' t with
    | some h => some (k (castI h.down x))
    | none => none
  | .agg i l, _, .agg i' ds, k => bif Nat.beq i i' then Sh.decL l ds k else none
  | .fn f l, _, .fn f' ds, k => bif Nat.beq f f' then Sh.decL l ds k else none
  | .nilfn, _, .nilfn, k => some k
  | .ifc t s, _, .ifc t' d, k => bif Nat.beq t t' then Sh.dec s d k else none
  | .nilifc, _, .nilifc, k => some k
  | _, _, _, _ => none
termination_by structural x => x
def Sh.decL : (l : List Sh) → {A : Type 1} → List (DVal E.T) → Sh.FnL E l A → Option A
  | [], _, [], k => some k
  | s :: r, _, d :: ds, k => match Sh.dec s d k with
    | some k' => Sh.decL r ds k'
    | none => none
  | _, _, _, _ => none
termination_by structural x => x
end
def RM.eqb : RM → RM → Bool
  | .froz, .froz => true
  | .fix, .fix => true
  | .live, .live => true
  | _, _ => false
def ShO.dec : (s : ShO) → {A : Type 1} → Obj E.T → ShO.Fn E s A → Option A
  | .box ro s, _, .box ro' d, k => bif ro == ro' then Sh.dec E s d k else none
  | .arr l e, _, .arr l' e' xs, k => match tyEq (.slice e') (.slice e) with
    | some h => bif RM.eqb l l' then some (k (castI (T := E.T) h.down xs)) else none
    | none => none
  | .dead, _, .dead, k => some k
  | _, _, _, _ => none
def ShO.decL : (l : List ShO) → {A : Type 1} → St E.T → ShO.FnL E l A → Option A
  | [], _, [], k => some k
  | s :: r, _, d :: ds, k => match ShO.dec E s d k with
    | some k' => ShO.decL r ds k'
    | none => none
  | _, _, _, _ => none
def PS.Rel {A : Type 1} : (q : List PS) → PS.Fn q A → (List Step → A → Prop) → Prop
  | [], k, P => P [] k
  | .fld i j :: q, k, P => PS.Rel q k fun p a => P (.fld i j :: p) a
  | .idx e n :: q, k, P => PS.Rel q k fun p a => P (.idx e n :: p) a
  | .at_ e :: q, k, P => ∀ n, PS.Rel q (k n) fun p a => P (.idx e n :: p) a
mutual
def Sh.Rel : (s : Sh) → {A : Type 1} → Sh.Fn E s A → (DVal E.T → A → Prop) → Prop
  | .v t, _, k, P => ∀ x, P (.val t x) (k x)
  | .str s, _, k, P => P (.val .str s) k
  | .nils, _, k, P => P .nils k
  | .own n, _, k, P => P (.own n) k
  | .ptr o p, _, k, P => PS.Rel p k fun p a => P (.ptr o p) a
  | .nilptr, _, k, P => P .nilptr k
  | .rptr t, _, k, P => ∀ x, P (.rptr t x) (k x)
  | .agg i l, _, k, P => Sh.RelL l k fun ds a => P (.agg i ds) a
  | .fn f l, _, k, P => Sh.RelL l k fun ds a => P (.fn f ds) a
  | .nilfn, _, k, P => P .nilfn k
  | .ifc t s, _, k, P => Sh.Rel s k fun d a => P (.ifc t d) a
  | .nilifc, _, k, P => P .nilifc k
  | .undef, _, _, _ => True
termination_by structural x => x
def Sh.RelL : (l : List Sh) → {A : Type 1} → Sh.FnL E l A → (List (DVal E.T) → A → Prop) → Prop
  | [], _, k, P => P [] k
  | s :: r, _, k, P => Sh.Rel s k fun d k' => Sh.RelL r k' fun ds a => P (d :: ds) a
termination_by structural x => x
end
def ShO.Rel : (s : ShO) → {A : Type 1} → ShO.Fn E s A → (Obj E.T → A → Prop) → Prop
  | .box ro s, _, k, P => Sh.Rel E s k fun d a => P (.box ro d) a
  | .arr l e, _, k, P => ∀ xs, P (.arr l e xs) (k xs)
  | .dead, _, k, P => P .dead k
def ShO.RelL : (l : List ShO) → {A : Type 1} → ShO.FnL E l A → (St E.T → A → Prop) → Prop
  | [], _, k, P => P [] k
  | s :: r, _, k, P => ShO.Rel E s k fun d k' => ShO.RelL r k' fun ds a => P (d :: ds) a
end
section
variable {E : Env}
theorem PS.dec_rel {A : Type 1} : ∀ (q : List PS) (p : List Step) (k : PS.Fn q A) {a : A} {P : List Step → A → Prop}, PS.dec q p k = some a → PS.Rel q k P → P p a
  | [], [], k, a, P, h, hr => by cases h; exact hr
  | .fld i j :: q, .fld i' j' :: p, k, a, P, h, hr => by
    simp only [PS.dec] at h
    cases hb : Nat.beq i i' && Nat.beq j j' with
    | false => rw [hb] at h; cases h
    | true =>
      rw [hb] at h
      rw [Bool.and_eq_true] at hb
      have h1 := Nat.eq_of_beq_eq_true hb.1
      have h2 := Nat.eq_of_beq_eq_true hb.2
      subst h1; subst h2
      exact PS.dec_rel q p k h hr
  | .idx e n :: q, .idx e' n' :: p, k, a, P, h, hr => by
    simp only [PS.dec] at h
    cases hb : tyEqb e e' && Nat.beq n n' with
    | false => rw [hb] at h; cases h
    | true =>
      rw [hb] at h
      rw [Bool.and_eq_true] at hb
      have h1 := tyEqb_eq hb.1
      have h2 := Nat.eq_of_beq_eq_true hb.2
      subst h1; subst h2
      exact PS.dec_rel q p k h hr
  | .at_ e :: q, .idx e' n' :: p, k, a, P, h, hr => by
    simp only [PS.dec] at h
    cases hb : tyEqb e e' with
    | false => rw [hb] at h; cases h
    | true =>
      rw [hb] at h
      have h1 := tyEqb_eq hb
      subst h1
      exact PS.dec_rel q p (k n') h (hr n')
  | [], _ :: _, k, a, P, h, hr => by cases h
  | .fld i j :: q, [], k, a, P, h, hr => by cases h
  | .fld i j :: q, .idx _ _ :: p, k, a, P, h, hr => by cases h
  | .idx e n :: q, [], k, a, P, h, hr => by cases h
  | .idx e n :: q, .fld _ _ :: p, k, a, P, h, hr => by cases h
  | .at_ e :: q, [], k, a, P, h, hr => by cases h
  | .at_ e :: q, .fld _ _ :: p, k, a, P, h, hr => by cases h
theorem valOf_eq {t : Ty} {d : DVal E.T} {x : I E.T t} (h : valOf E t d = some x) : d = .val t x := by
  cases d with
  | val t' y =>
    simp only [valOf] at h
    split at h
    · rename_i p _
      cases p with | up p =>
      cases p
      cases h
      rfl
    · cases h
  | _ => cases h
mutual
theorem Sh.dec_rel : ∀ (s : Sh) {A : Type 1} (d : DVal E.T) (k : Sh.Fn E s A) {a : A} {P : DVal E.T → A → Prop}, Sh.dec E s d k = some a → Sh.Rel E s k P → P d a
  | .v t, A, d, k, a, P, h, hr => by
    simp only [Sh.dec] at h
    split at h
    · rename_i x hx
      cases h
      rw [valOf_eq hx]
      exact hr x
    · cases h
  | .str s, A, d, k, a, P, h, hr => by
    cases d <;> try (simp only [Sh.dec] at h; cases h)
    rename_i t x
    cases t <;> try (simp only [Sh.dec] at h; cases h)
    simp only [Sh.dec] at h
    cases hb : (x == s) with
    | false => rw [hb] at h; cases h
    | true => rw [hb] at h; cases h; have := eq_of_beq hb; subst this; exact hr
  | .nils, A, d, k, a, P, h, hr => by cases d <;> first | (cases h; exact hr) | (simp only [Sh.dec] at h; cases h)
  | .own n, A, d, k, a, P, h, hr => by
    cases d <;> try (simp only [Sh.dec] at h; cases h)
    rename_i m
    simp only [Sh.dec] at h
    cases hb : Nat.beq n m with
    | false => rw [hb] at h; cases h
    | true => rw [hb] at h; cases h; have := Nat.eq_of_beq_eq_true hb; subst this; exact hr
  | .ptr o p, A, d, k, a, P, h, hr => by
    cases d <;> try (simp only [Sh.dec] at h; cases h)
    rename_i o' p'
    simp only [Sh.dec] at h
    cases hb : Nat.beq o o' with
    | false => rw [hb] at h; cases h
    | true => rw [hb] at h; have := Nat.eq_of_beq_eq_true hb; subst this; exact PS.dec_rel p p' k h hr
  | .nilptr, A, d, k, a, P, h, hr => by cases d <;> first | (cases h; exact hr) | (simp only [Sh.dec] at h; cases h)
  | .rptr t, A, d, k, a, P, h, hr => by
    cases d <;> try (simp only [Sh.dec] at h; cases h)
    rename_i t' x
    simp only [Sh.dec] at h
    split at h
    · rename_i p _
      cases p with | up p =>
      cases p
      cases h
      exact hr x
    · cases h
  | .agg i l, A, d, k, a, P, h, hr => by
    cases d <;> try (simp only [Sh.dec] at h; cases h)
    rename_i i' ds
    simp only [Sh.dec] at h
    cases hb : Nat.beq i i' with
    | false => rw [hb] at h; cases h
    | true => rw [hb] at h; have := Nat.eq_of_beq_eq_true hb; subst this; exact Sh.decL_rel l ds k h hr
  | .fn f l, A, d, k, a, P, h, hr => by
    cases d <;> try (simp only [Sh.dec] at h; cases h)
    rename_i f' ds
    simp only [Sh.dec] at h
    cases hb : Nat.beq f f' with
    | false => rw [hb] at h; cases h
    | true => rw [hb] at h; have := Nat.eq_of_beq_eq_true hb; subst this; exact Sh.decL_rel l ds k h hr
  | .nilfn, A, d, k, a, P, h, hr => by cases d <;> first | (cases h; exact hr) | (simp only [Sh.dec] at h; cases h)
  | .ifc t s, A, d, k, a, P, h, hr => by
    cases d <;> try (simp only [Sh.dec] at h; cases h)
    rename_i t' d
    simp only [Sh.dec] at h
    cases hb : Nat.beq t t' with
    | false => rw [hb] at h; cases h
    | true => rw [hb] at h; have := Nat.eq_of_beq_eq_true hb; subst this; exact Sh.dec_rel s d k h hr
  | .nilifc, A, d, k, a, P, h, hr => by cases d <;> first | (cases h; exact hr) | (simp only [Sh.dec] at h; cases h)
  | .undef, A, d, k, a, P, h, hr => by cases d <;> (simp only [Sh.dec] at h; cases h)
theorem Sh.decL_rel : ∀ (l : List Sh) {A : Type 1} (ds : List (DVal E.T)) (k : Sh.FnL E l A) {a : A} {P : List (DVal E.T) → A → Prop}, Sh.decL E l ds k = some a → Sh.RelL E l k P → P ds a
  | [], A, [], k, a, P, h, hr => by simp only [Sh.decL, Option.some.injEq] at h; subst h; exact hr
  | [], A, _ :: _, k, a, P, h, hr => by simp only [Sh.decL] at h; cases h
  | s :: r, A, [], k, a, P, h, hr => by simp only [Sh.decL] at h; cases h
  | s :: r, A, d :: ds, k, a, P, h, hr => by
    simp only [Sh.decL] at h
    split at h
    · rename_i k' hk
      exact Sh.decL_rel r ds k' (P := fun ds a => P (d :: ds) a) h (Sh.dec_rel s d k (P := fun d k' => Sh.RelL E r k' fun ds a => P (d :: ds) a) hk hr)
    · cases h
end
theorem ShO.dec_rel (s : ShO) {A : Type 1} (d : Obj E.T) (k : ShO.Fn E s A) {a : A} {P : Obj E.T → A → Prop} (h : ShO.dec E s d k = some a) (hr : ShO.Rel E s k P) : P d a := by
  cases s with
  | box ro s =>
    cases d <;> try (simp only [ShO.dec] at h; cases h)
    rename_i ro' d
    simp only [ShO.dec] at h
    cases hb : (ro == ro') with
    | false => rw [hb] at h; cases h
    | true => rw [hb] at h; have := eq_of_beq hb; subst this; exact Sh.dec_rel s d k h hr
  | arr l e =>
    cases d <;> try (simp only [ShO.dec] at h; cases h)
    rename_i l' e' xs
    simp only [ShO.dec] at h
    split at h
    · rename_i p _
      cases p with | up p =>
      cases p
      cases hb : RM.eqb l l' with
      | false => rw [hb] at h; cases h
      | true =>
        rw [hb] at h
        cases h
        have : l = l' := by cases l <;> cases l' <;> first | rfl | cases hb
        subst this
        exact hr xs
    · cases h
  | dead => cases d <;> first | (cases h; exact hr) | (simp only [ShO.dec] at h; cases h)
theorem ShO.decL_rel : ∀ (l : List ShO) {A : Type 1} (ds : St E.T) (k : ShO.FnL E l A) {a : A} {P : St E.T → A → Prop}, ShO.decL E l ds k = some a → ShO.RelL E l k P → P ds a
  | [], A, [], k, a, P, h, hr => by simp only [ShO.decL, Option.some.injEq] at h; subst h; exact hr
  | [], A, _ :: _, k, a, P, h, hr => by simp only [ShO.decL] at h; cases h
  | s :: r, A, [], k, a, P, h, hr => by simp only [ShO.decL] at h; cases h
  | s :: r, A, d :: ds, k, a, P, h, hr => by
    simp only [ShO.decL] at h
    split at h
    · rename_i k' hk
      exact ShO.decL_rel r ds k' (P := fun ds a => P (d :: ds) a) h (ShO.dec_rel s d k (P := fun d k' => ShO.RelL E r k' fun ds a => P (d :: ds) a) hk hr)
    · cases h
structure Ins (E : Env) (X : Type) where
  args : List Sh
  objs : List ShO
  k : Sh.FnL E args (ShO.FnL E objs (Tree X))
def Ins.dec {X : Type} (i : Ins E X) (ds : List (DVal E.T)) (st : St E.T) : Option (Tree X) :=
  match Sh.decL E i.args ds i.k with
  | some k' => ShO.decL E i.objs st k'
  | none => none
def Ins.Rel {X : Type} (i : Ins E X) (P : List (DVal E.T) → St E.T → Tree X → Prop) : Prop := Sh.RelL E i.args i.k fun ds k' => ShO.RelL E i.objs k' fun st t => P ds st t
theorem Ins.dec_rel {X : Type} {i : Ins E X} {ds : List (DVal E.T)} {st : St E.T} {t : Tree X} {P : List (DVal E.T) → St E.T → Tree X → Prop} (h : i.dec ds st = some t) (hr : i.Rel P) : P ds st t := by
  unfold Ins.dec at h
  split at h
  · rename_i k' hk
    exact ShO.decL_rel i.objs st k' (P := fun st t => P ds st t) h (Sh.decL_rel i.args ds i.k (P := fun ds k' => ShO.RelL E i.objs k' fun st t => P ds st t) hk hr)
  · cases h
def insF {X : Type} : List (Ins E X) → List (DVal E.T) → St E.T → Tree X
  | [], _, _ => .fail
  | i :: r, ds, st => match i.dec ds st with
    | some t => t
    | none => insF r ds st
variable {P : Program}
def InsOk (P : Program) (f : FuncId) (i : Ins E (Res E.T × St E.T)) : Prop :=
  ∃ B, FnOk P E f B ∧ i.Rel fun ds st t => ∀ out, t.get = some out → (B ds st).get = some out
def AllI (P : Program) (f : FuncId) : List (Ins E (Res E.T × St E.T)) → Prop
  | [] => True
  | i :: r => InsOk P f i ∧ AllI P f r
theorem insF_ok {f : FuncId} : ∀ {l : List (Ins E (Res E.T × St E.T))}, AllI P f l → FnOk P E f (insF l)
  | [], _ => fun _ _ h => by cases h
  | i :: r, hl => fun hst hds h => by
    simp only [insF] at h
    split at h
    · rename_i t ht
      obtain ⟨B, hB, hr⟩ := hl.1
      exact hB hst hds (Ins.dec_rel ht hr _ h)
    · exact insF_ok hl.2 hst hds h
theorem dat_fn (ok : EnvOk E) {f : FuncId} {B : List (DVal E.T) → St E.T → Tree (Res E.T × St E.T)} (h : FnOk P E f B) : FnOk P E f fun ds st => B (datL E st st.length ds) (datSt E st st.length) := by
  intro σ st w ds us q st' hst hds hg
  have m := Mv.dat ok hst st.length
  have hd := VReps.dat ok hst st.length hds
  refine Calls.mono (h m.rep (m.vreps hd) hg) (fun e w' hb => ?_)
  obtain ⟨σ', m', hr⟩ := hb
  exact ⟨σ', m.f.trans m', hr⟩
def fullF (l : List (Ins E (Res E.T × St E.T))) (ds : List (DVal E.T)) (st : St E.T) : Tree (Res E.T × St E.T) := insF l (datL E st st.length ds) (datSt E st st.length)
theorem fullI_ok (ok : EnvOk E) {f : FuncId} {ps : List TK} {flat : Bool} {l : List (Ins E (Res E.T × St E.T))} (hen : Enters P f) (h : AllI P f l) : SpecOk P E f (.full ps flat (fullF l)) :=
  ⟨hen, dat_fn ok (insF_ok h)⟩
def pureF (l : List (Ins E (Res E.T × St E.T))) (ds : List (DVal E.T)) : Tree (Res E.T) := (insF l ds []).bind fun p => match p.2 with
  | [] => .ret p.1
  | _ => .fail
theorem pureI_ok {f : FuncId} {ps : List Ty} {l : List (Ins E (Res E.T × St E.T))} (hen : Enters P f) (h : AllI P f l) : SpecOk P E f (.pure ps (pureF l)) := by
  refine ⟨hen, pure_ok (insF_ok h) fun ds r hg => ?_⟩
  unfold pureF at hg
  obtain ⟨p, h1, h2⟩ := Tree.get_bind_some hg
  obtain ⟨r', s⟩ := p
  cases s with
  | nil => cases h2; exact h1
  | cons _ _ => cases h2
theorem dfullD_ok {P : Program} (HS : Sound P E) (hmix : P.follows .mixedOrders = true) {S : List (Nat × Spec E)} (hS : AllS P E S) {L : Nat → LoopInfo E} (hL : ∀ i, (L i).closed = none) {N : Nat} {f : FuncId} {fn : Func} {c : Code}
    (hen : Enters P f) (hf : P.funcs[f]? = some fn) (hb : fn.body = some c) : DSpecOk P E f (dbodyD E (lookS S) L N fn) :=
  dbodyD_ok HS hmix (callOk HS (lookS_ok hS)) hf hb (loopsOk_open hL c 0) hen
theorem iter_loop {V X : Type} {step : V → Option (V ⊕ X)} {stp : Fr E.T → St E.T → Tree (CodeOut E)} {ks rs : List Nat} {mvs : List (Nat × Nat)} {n : Nat} {hd : V → Fr E.T} {sv : V → St E.T} {ex : X → Tree (CodeOut E)}
    (h : ∀ v, ((stp (hd v) (sv v)).bind (nx E ks mvs rs n)).get = (step v).bind fun s => N.alt s (fun v' => some (.inl (hd v', sv v'))) fun x => (ex x).get.map Sum.inr) :
    ∀ (m : Nat) (v : V) {x : X} {out : CodeOut E}, N.iter step m v = some x → (ex x).get = some out → LoopTo stp ks mvs n (hd v) (sv v) out
  | 0, v, x, out, hi, ho => by cases hi
  | m + 1, v, x, out, hi, ho => by
    rw [N.iter_succ] at hi
    have hv := h v
    cases hst : step v with
    | none => rw [hst] at hi; cases hi
    | some s =>
      rw [hst] at hi hv
      cases s with
      | inl v' => exact LoopTo.next hv (iter_loop h m v' hi ho)
      | inr y =>
        have : y = x := Option.some.inj hi
        subst this
        refine LoopTo.stop (rs := rs) ?_
        rw [hv]
        show (ex y).get.map Sum.inr = _
        rw [ho]
        rfl
def InsLp (n : Nat) (ks : List Nat) (mvs : List (Nat × Nat)) (d : List (FuncId × List (DVal E.T))) (stp : Fr E.T → St E.T → Tree (CodeOut E)) (i : Ins E (CodeOut E)) : Prop :=
  i.Rel fun vals st t => ∀ out, t.get = some out → LoopTo stp ks mvs st.length (ofSlots E n d ks vals) st out
def AllLp (n : Nat) (ks : List Nat) (mvs : List (Nat × Nat)) (d : List (FuncId × List (DVal E.T))) (stp : Fr E.T → St E.T → Tree (CodeOut E)) : List (Ins E (CodeOut E)) → Prop
  | [] => True
  | i :: r => InsLp n ks mvs d stp i ∧ AllLp n ks mvs d stp r
theorem allLp_nil {n : Nat} {ks : List Nat} {mvs : List (Nat × Nat)} {d : List (FuncId × List (DVal E.T))} {stp : Fr E.T → St E.T → Tree (CodeOut E)} : AllLp n ks mvs d stp [] := trivial
theorem allLp_cons {n : Nat} {ks : List Nat} {mvs : List (Nat × Nat)} {d : List (FuncId × List (DVal E.T))} {stp : Fr E.T → St E.T → Tree (CodeOut E)} {i : Ins E (CodeOut E)} {l : List (Ins E (CodeOut E))} (h : InsLp n ks mvs d stp i) (h' : AllLp n ks mvs d stp l) : AllLp n ks mvs d stp (i :: l) := ⟨h, h'⟩
theorem insLp_ok {n : Nat} {ks : List Nat} {mvs : List (Nat × Nat)} {d : List (FuncId × List (DVal E.T))} {stp : Fr E.T → St E.T → Tree (CodeOut E)} : ∀ {l : List (Ins E (CodeOut E))}, AllLp n ks mvs d stp l → ∀ vals st out, (insF l vals st).get = some out → LoopTo stp ks mvs st.length (ofSlots E n d ks vals) st out
  | [], _, vals, st, out, h => by cases h
  | i :: r, hl, vals, st, out, h => by
    simp only [insF] at h
    split at h
    · rename_i t ht
      exact Ins.dec_rel ht hl.1 out h
    · exact insLp_ok hl.2 vals st out h
theorem lp_ok {n : Nat} {ks : List Nat} {mvs : List (Nat × Nat)} {d : List (FuncId × List (DVal E.T))} {stp : Fr E.T → St E.T → Tree (CodeOut E)} {l : List (Ins E (CodeOut E))} (h : AllLp n ks mvs d stp l) (fr : Fr E.T) (st : St E.T) (out : CodeOut E)
    (hc : (closedOf E n ks mvs d (insF l) fr st).get = some out) : ∃ m fr', (loopT E stp ks mvs st.length m fr st).get = some (out.1, fr', out.2.2) ∧ Weak out.2.1 fr' :=
  closed_ok (insLp_ok h) fr st out hc
def datRes (st : St E.T) : Res E.T → Res E.T
  | .ret vs => .ret (datL E st st.length vs)
  | .panic v => .panic v
def resRefs : Res E.T → List Nat
  | .ret vs => refsL vs
  | .panic v => refs v
def keepO (R : List Nat) : Nat → St E.T → St E.T
  | _, [] => []
  | i, o :: r => (bif memB R i then o else .dead) :: keepO R (i + 1) r
def tidyF (B : List (DVal E.T) → St E.T → Tree (Res E.T × St E.T)) (ds : List (DVal E.T)) (st : St E.T) : Tree (Res E.T × St E.T) :=
  (B ds st).bind fun p =>
    let s1 := datSt E p.2 p.2.length
    let r1 := datRes p.2 p.1
    let R := reach E s1 1000 (List.range st.length ++ resRefs r1) []
    Tree.need (R.all (fun k => (objAt E s1 k).all (memB R)) && ((List.range st.length).all (memB R) && (resRefs r1).all (memB R))) (.ret (r1, keepO R 0 s1))
theorem keepO_len (R : List Nat) : ∀ (i : Nat) (l : St E.T), (keepO R i l).length = l.length
  | _, [] => rfl
  | i, o :: r => by simp [keepO, keepO_len R (i + 1) r]
theorem keepO_at (R : List Nat) : ∀ (i : Nat) (l : St E.T) (j : Nat), nth? (keepO R i l) j = if i + j ∈ R then nth? l j else (nth? l j).map fun _ => .dead
  | i, [], j => by simp [keepO, nth?]
  | i, o :: r, 0 => by
    simp only [keepO, nth?, Nat.add_zero]
    by_cases h : i ∈ R
    · rw [if_pos h, (memB_iff R i).2 h]; rfl
    · have : memB R i = false := by
        cases hb : memB R i with
        | false => rfl
        | true => exact absurd ((memB_iff R i).1 hb) h
      rw [if_neg h, this]; rfl
  | i, o :: r, j + 1 => by
    simp only [keepO, nth?]
    rw [keepO_at R (i + 1) r j, show i + 1 + j = i + (j + 1) by omega]
section
variable {σ σ' : Sg} {st st' : St E.T} {w w' : World} {R : List Nat}
theorem keepO_MB {b : Nat} (h : MB σ (keepO R 0 st) b) : MB σ st b := by
  rcases h with h | ⟨o, ob, ho, hm, hb⟩
  · exact .inl h
  · rw [keepO_at, Nat.zero_add] at ho
    split at ho
    · exact .inr ⟨o, ob, ho, hm, hb⟩
    · obtain ⟨q, _, rfl⟩ := Option.map_eq_some_iff.1 ho
      cases hm
theorem keepO_same {k : Nat} (hk : k ∈ R) : Same σ σ st (keepO R 0 st) k :=
  ⟨rfl, fun l e xs h => ⟨l, xs, by rw [keepO_at, Nat.zero_add, if_pos hk]; exact h⟩, fun h => by rw [keepO_len]; exact h⟩
theorem keepO_rep (hst : StRep E σ st w) (hc : ∀ k ∈ R, ∀ ob, nth? st k = some ob → ∀ j ∈ objRefs E ob, j ∈ R) : StRep E σ (keepO R 0 st) w := by
  have hat : ∀ {o ob}, nth? (keepO R 0 st) o = some ob → isDead ob = false → o ∈ R ∧ nth? st o = some ob := by
    intro o ob ho hd
    rw [keepO_at, Nat.zero_add] at ho
    split at ho
    · rename_i h; exact ⟨h, ho⟩
    · obtain ⟨q, _, rfl⟩ := Option.map_eq_some_iff.1 ho
      cases hd
  refine ⟨fun o ob ho => ?_, fun o o' ob ob' b hne ho ho' hm hd hb1 hb2 => ?_, hst.amb, fun o ob b ho hd hb => hst.out o ob b (hat ho hd).2 hd hb⟩
  · cases hd : isDead ob with
    | true => cases ob <;> first | exact .dead _ | cases hd
    | false =>
      obtain ⟨h1, h2⟩ := hat ho hd
      exact ObRep.keep (Kept.weaken fun b hb => keepO_MB hb) (fun _ _ => rfl) (fun k hk => keepO_same (hc o h1 ob h2 k hk)) (hst.obj o ob h2)
  · exact hst.apart o o' ob ob' b hne (hat ho (by cases ob <;> first | rfl | cases hm)).2 (hat ho' hd).2 hm hd hb1 hb2
theorem tidy_fn (ok : EnvOk E) {f : FuncId} {B : List (DVal E.T) → St E.T → Tree (Res E.T × St E.T)} (h : FnOk P E f B) : FnOk P E f (tidyF B) := by
  intro σ st w ds us q st' hst hds hg
  unfold tidyF at hg
  obtain ⟨p, hp, hg⟩ := Tree.get_bind_some hg
  obtain ⟨r, s⟩ := p
  simp only at hg
  generalize hR : reach E (datSt E s s.length) 1000 (List.range st.length ++ resRefs (datRes s r)) [] = R at hg
  obtain ⟨hb, hg⟩ := Tree.get_need hg
  cases hg
  simp only [Bool.and_eq_true, List.all_eq_true] at hb
  obtain ⟨h1, h2, h3⟩ := hb
  refine Calls.mono (h hst hds hp) (fun e w' hb => ?_)
  obtain ⟨σ', m, hr⟩ := hb
  have md := Mv.dat ok m.rep s.length
  have m1 := m.trans md.f
  have hcl : ∀ k ∈ R, ∀ ob, nth? (datSt E s s.length) k = some ob → ∀ j ∈ objRefs E ob, j ∈ R := by
    intro k hk ob ho j hj
    have := h1 k hk
    simp only [objAt, ho] at this
    exact (memB_iff R j).1 (this j hj)
  have hrep := keepO_rep m1.rep hcl
  have hkp : Kept (MB σ' (datSt E s s.length)) (MB σ' (keepO R 0 (datSt E s s.length))) w' w' := Kept.weaken fun b hb => keepO_MB hb
  refine ⟨σ', ⟨hrep, ⟨m1.keep.os, m1.keep.tape, m1.keep.output, m1.keep.size, m1.keep.block, fun b hb h => m1.keep.may b hb (keepO_MB h)⟩, ⟨m1.stay.same, fun o ob ho => ?_⟩, m1.amb⟩, ?_⟩
  · obtain ⟨ob', h4, h5, h6⟩ := m1.stay.kind o ob ho
    have : o ∈ R := (memB_iff R o).1 (h2 o (List.mem_range.2 (nth?_lt ho)))
    exact ⟨ob', by rw [keepO_at, Nat.zero_add, if_pos this]; exact h4, h5, h6⟩
  · have h3' : ∀ k ∈ resRefs (datRes s r), k ∈ R := fun k hk => (memB_iff R k).1 (h3 k hk)
    cases r with
    | panic v =>
      cases e with
      | returned _ => exact hr.elim
      | outgrown => exact hr.elim
      | panicked ch =>
        obtain ⟨u, hu, hv⟩ := hr
        exact ⟨u, hu, VRep.keep hkp (md.vrep hv) (fun k hk => keepO_same (h3' k hk))⟩
    | ret vs =>
      cases e with
      | panicked ch => exact hr.elim
      | outgrown => exact hr.elim
      | returned v =>
        have key : ∀ us : List Value, VReps E σ' s w' (MB σ' s) vs us → VReps E σ' (keepO R 0 (datSt E s s.length)) w' (MB σ' (keepO R 0 (datSt E s s.length))) (datL E s s.length vs) us :=
          fun us hv => VReps.keep hkp (md.vreps (VReps.dat ok m.rep s.length hv)) (fun k hk => keepO_same (h3' k hk))
        show VRep E σ' _ w' _ (resVal E (datL E s s.length vs)) v
        have hr' : VRep E σ' s w' (MB σ' s) (resVal E vs) v := hr
        match vs, hr', key with
        | [], hr', key =>
          cases hr' with
          | data t d cs hv => cases hv
          | tup vs us h => exact .tup _ us (key us h)
        | [x], hr', key =>
          have := key [v] (.cons x [] v [] hr' .nil)
          cases this with
          | cons _ _ _ _ h _ => exact h
        | x :: y :: r, hr', key =>
          cases hr' with
          | data t d cs hv => cases hv
          | tup vs us h => exact .tup _ us (key us h)
end
end
open Go Go.RowKit
section
variable {P : Program} {E : Env} {w w' : World} {σ : Sg} {st : St E.T} {M : Nat → Prop}
theorem below_mf (hst : StRep E σ st w) (h : Below w.heap.size w w') : Mf σ σ st st w w' := (Mv.still hst h.os h.tape h.output h.size h.block).f
theorem str_val {s : List UInt8} (h : s.length ≤ lim) : VRep E σ st w M (.val .str s) (.string ⟨s.toArray⟩) := by
  have h1 : CRep E w M .str (ByteArray.mk s.toArray).data.toList [.string ⟨s.toArray⟩] := CRep.str _ (by simpa [ByteArray.size] using h)
  exact .data .str _ _ (.val .str _ _ h1)
def repS (E : Env) : List (DVal E.T) → Tree (Res E.T)
  | [.val .str s, .val (.int .i64) n] => .ite (N.repOk (α := UInt8) s n) (.ret (.ret [.val .str (N.repL (α := UInt8) s n)])) .fail
  | _ => .fail
theorem repeatL_eq (l : List UInt8) : ∀ c, Lib.repeatL l c = (List.replicate c l).flatten
  | 0 => rfl
  | c + 1 => by rw [Lib.repeatL, List.replicate_succ, List.flatten_cons, repeatL_eq l c]
theorem rep_ok {f : FuncId} (hen : Enters P f)
    (hc : ∀ (s : ByteArray) (c : Nat) (w : World), c ≤ 9223372036854775807 → s.size * c ≤ 140737488355328 → Calls P f #[.string s, .int .i64 c] w fun e w' => e = .returned (.string ⟨(Lib.repeatL s.data.toList c).toArray⟩) ∧ Below w.heap.size w w') :
    SpecOk P E f (.pure [.str, .int .i64] (repS E)) := by
  refine ⟨hen, fun {σ w ds us r} hst hds hr => ?_⟩
  unfold repS at hr
  split at hr
  · rename_i s n
    simp only [Tree.get] at hr
    cases hk : N.repOk (α := UInt8) s n with
    | false => rw [hk] at hr; cases hr
    | true =>
      rw [hk] at hr
      cases hr
      cases hds with
      | cons v r u us h1 h2 =>
        cases h2 with
        | cons v r u2 us h2 h3 =>
          cases h3
          obtain ⟨b, rfl, hb, _⟩ := strRep h1
          have := intRep h2; subst this
          unfold N.repOk at hk
          simp only [Bool.and_eq_true, decide_eq_true_eq] at hk
          obtain ⟨k1, k2, k3⟩ := hk
          obtain ⟨c, hn⟩ : ∃ c : Nat, n = ((c : Nat) : Int) := ⟨Int.toNat n, (Int.toNat_of_nonneg k1).symm⟩
          subst hn
          rw [Int.toNat_natCast] at k3
          have hsz : b.size = s.length := by rw [← hb]; exact Array.length_toList.symm
          have k2' : c ≤ 2147483648 := Int.ofNat_le.1 k2
          have k3' : s.length * c ≤ 2147483648 := k3
          have hcall := hc b c w (by omega) (by rw [hsz]; omega)
          refine hcall.mono fun e w' ⟨he, hbel⟩ => ⟨σ, below_mf hst hbel, ?_⟩
          rw [he, hb, repeatL_eq]
          have hl : (List.replicate c s).flatten.length ≤ lim := by
            rw [List.length_flatten, List.map_replicate, List.sum_replicate_nat, Nat.mul_comm]
            exact k3'
          exact str_val hl
  · cases hr
end
open Go Go.RowKit
def seqDrop : Nat → Code → Code
  | 0, c => c
  | n + 1, .seq _ b => seqDrop n b
  | _ + 1, _ => .skip
def seqTake : Nat → Code → Code
  | 0, _ => .skip
  | n + 1, .seq a b => .seq a (seqTake n b)
  | _ + 1, c => c
def seqOk : Nat → Code → Bool
  | 0, _ => true
  | n + 1, .seq _ b => seqOk n b
  | _ + 1, _ => false
open Go.Proofs.YtinbnobanikfmaaGreatDoor.N (chunkS chunkL)
def KpS (ks : List Nat) (W W' : World) : Prop := W.heap.size ≤ W'.heap.size ∧ ∀ b ∈ ks, W'.heap[b]? = W.heap[b]?
theorem KpS.cell {ks : List Nat} {W W' : World} (h : KpS ks W W') {p : Addr} (hp : p.block ∈ ks) : W'.cell? p = W.cell? p := World.cell?_of_block (h.2 _ hp)
theorem KpS.refl (ks : List Nat) (W : World) : KpS ks W W := ⟨Nat.le_refl _, fun _ _ => rfl⟩
theorem KpS.trans {ks : List Nat} {A B C : World} (h : KpS ks A B) (k : KpS ks B C) : KpS ks A C := ⟨Nat.le_trans h.1 k.1, fun b hb => (k.2 b hb).trans (h.2 b hb)⟩
theorem KpS.two {W W' : World} {a b : Nat} (h : W.heap.size ≤ W'.heap.size) (h1 : W'.heap[a]? = W.heap[a]?) (h2 : W'.heap[b]? = W.heap[b]?) : KpS [a, b] W W' :=
  ⟨h, fun k hk => by
    rcases List.mem_cons.1 hk with rfl | hk
    · exact h1
    · rw [List.mem_singleton.1 hk]; exact h2⟩
theorem KpS.putObj {ks : List Nat} {W : World} {l B : Nat} {o o' : Go.Obj} (hl : B ≤ l) (h : W.heap[l]? = some o) (hks : ∀ k ∈ ks, k < B) : KpS ks W (W.putObj l o') :=
  ⟨by simp, fun b hb => World.putObj_heap_other (by have := hks b hb; omega)⟩
theorem region_end {F : Fence} {n : Nat} {P : Program} {c : Code} {Q : Exit → Act → World → Prop} {a : Act} {w : World} (a' : Act) (w' : World) (hk : Q .normal a' w') (h : ∀ Q' : Exit → Act → World → Prop, Q' .normal a' w' → c.wpIn F n P Q' a w) : c.wpIn F n P Q a w := h Q hk
def chunkV (b len k : Nat) : Value := .slice (some ⟨b, 32 * k, none⟩) (min 32 (len - 32 * k)) (min 32 (len - 32 * k))
def bodyOf (fn : Func) : Code :=
  match fn.body with
  | some c => c
  | none => .skip
theorem list_eq (l : List Value) {n : Nat} (h : l.length = n) : l = (List.range n).map fun i => l.getD i undef := by
  subst h
  apply List.ext_getElem
  · simp
  · intro i h1 h2
    simp [List.getD_eq_getElem?_getD, List.getElem?_eq_getElem h1]
section
variable {P : Program} {E : Env} {w w' : World} {σ σ' : Sg} {st st' : St E.T} {M : Nat → Prop}
variable {a : Act} {fr : Fr E.T}
def Exit.orElse (K : Act → World → Prop) (Q : Exit → Act → World → Prop) : Exit → Act → World → Prop
  | .normal, a, w => K a w
  | e, a, w => Q e a w
theorem dtake_ok (HS : Sound P E) (hmix : P.follows .mixedOrders = true) {S : FuncId → Option (Spec E)} (HC : CallOk P E S) {L : Nat → LoopInfo E} {N : Nat} : ∀ (m : Nat) (c : Code) (i : Nat) {fr : Fr E.T} {st : St E.T} {a : Act} {w : World} {σ : Sg} {out : CodeOut E} {Q : Exit → Act → World → Prop}, seqOk m c = true → LoopsOk S L N i c →
    StRep E σ st w → FrRep E σ st w fr a → (dcode E S L N i (seqTake m c) fr st).get = some out → PostC E σ st w (Exit.orElse (fun a w => (seqDrop m c).wp P Q a w) Q) out → c.wp P Q a w
  | 0, c, i, fr, st, a, w, σ, out, Q, hs, hL, hst, hfr, h, hp => by
    cases h
    exact hp σ w a _ (Mf.refl hst) hfr .normal
  | m + 1, .seq c1 c2, i, fr, st, a, w, σ, out, Q, hs, hL, hst, hfr, h, hp => by
    simp only [seqTake, dcode] at h
    obtain ⟨⟨e, fr1, st1⟩, h1, h2⟩ := Tree.get_bind_some h
    refine wp_seq (dcode_ok HS hmix HC c1 i hL.1 hst hfr h1 (fun σ' w' a' x m' hfr' hx => ?_))
    cases hx with
    | normal => exact dtake_ok HS hmix HC m c2 (i + nLoops c1) hs hL.2 m'.rep hfr' h2 (hp.later m')
    | exit id => cases h2; exact hp σ' w' a' _ m' hfr' (.exit id)
    | ret => cases h2; exact hp σ' w' a' _ m' hfr' .ret
    | panic v u hv => cases h2; exact hp σ' w' a' _ m' hfr' (.panic v u hv)
  | m + 1, .skip, i, fr, st, a, w, σ, out, Q, hs, hL, hst, hfr, h, hp => by cases hs
  | m + 1, .region .., i, fr, st, a, w, σ, out, Q, hs, hL, hst, hfr, h, hp => by cases hs
  | m + 1, .cond .., i, fr, st, a, w, σ, out, Q, hs, hL, hst, hfr, h, hp => by cases hs
  | m + 1, .block .., i, fr, st, a, w, σ, out, Q, hs, hL, hst, hfr, h, hp => by cases hs
  | m + 1, .loop .., i, fr, st, a, w, σ, out, Q, hs, hL, hst, hfr, h, hp => by cases hs
  | m + 1, .exit .., i, fr, st, a, w, σ, out, Q, hs, hL, hst, hfr, h, hp => by cases hs
  | m + 1, .ret, i, fr, st, a, w, σ, out, Q, hs, hL, hst, hfr, h, hp => by cases hs
  | m + 1, .scope .., i, fr, st, a, w, σ, out, Q, hs, hL, hst, hfr, h, hp => by cases hs
  | m + 1, .label .., i, fr, st, a, w, σ, out, Q, hs, hL, hst, hfr, h, hp => by cases hs
  | m + 1, .goto .., i, fr, st, a, w, σ, out, Q, hs, hL, hst, hfr, h, hp => by cases hs
  | m + 1, .rangeFunc .., i, fr, st, a, w, σ, out, Q, hs, hL, hst, hfr, h, hp => by cases hs
  | m + 1, .refuse .., i, fr, st, a, w, σ, out, Q, hs, hL, hst, hfr, h, hp => by cases hs
def TailPut (P : Program) (fn : Func) (c : Code) (q : Nat) (ts : TypeId) : Prop :=
  ∀ (a : Act) (w : World) (o : Option Addr) (b len cap : Nat) (bs : List UInt8), a.defers = [] → a.tmps.size = fn.ntmps → a.tmps[q]? = some (.slice o len cap) → bs.length = len → len ≤ 2147483648 → len ≤ cap → (0 < len → o = some ⟨b, 0, none⟩) → (0 < len → b < w.heap.size) →
    (∀ (j : Nat) x, bs[j]? = some x → w.cell? ⟨b, j, none⟩ = some (.int .u8 (x.toNat : Int))) →
    ∀ R : Ending → World → Prop, (∀ v W', W'.ownsRow w.heap.size ts 1 v ((len + 31) / 32) ((List.range ((len + 31) / 32)).map fun k => Value.string ⟨(chunkS bs k).toArray⟩) → Below w.heap.size w W' → R (.returned v) W') → c.wpIn .wide 3 P (bodyPostM .wide 3 P fn R) a w
def ownIn (q : Nat) (fr : Fr E.T) (st : St E.T) : Tree (List UInt8) :=
  match nth fr.s q .undef with
  | .own k => match nth? st k with
    | some (.arr _ e xs) => match tyEq e (.int .u8) with
      | some h => .ret (castI (T := E.T) (congrArg Ty.slice h.down) xs)
      | none => .fail
    | _ => .fail
  | _ => .fail
theorem ownIn_get {q : Nat} {bs : List UInt8} (h : (ownIn (E := E) q fr st).get = some bs) : ∃ k l, nth fr.s q .undef = .own k ∧ nth? st k = some (.arr l (.int .u8) bs) := by
  unfold ownIn at h
  split at h
  · rename_i k hk
    split at h
    · rename_i l e xs hx
      split at h
      · rename_i he _
        cases he.down
        cases h
        exact ⟨k, l, hk, hx⟩
      · cases h
    · cases h
  · cases h
def dbodyR (E : Env) (S : FuncId → Option (Spec E)) (L : Nat → LoopInfo E) (N m q : Nat) (fn : Func) (args : List (DVal E.T)) (st : St E.T) : Tree (Res E.T × St E.T) :=
  match st, fn.body with
  | [], some c => (dcode E S L N 0 (seqTake m c) (frame E fn args) []).bind fun p => match p.1, p.2.1.d with
    | .normal, [] => Tree.need (Nat.beq p.2.1.s.length fn.ntmps) ((ownIn q p.2.1 p.2.2).bind fun bs => .ret (.ret [.val (.slice .str) (chunkL bs)], []))
    | .ret, [] => ending E false 0 fn p.2.1 p.2.2 none
    | _, _ => .fail
  | _, _ => .fail
theorem bytes_cells {xs : List UInt8} {cs : List Value} (h : LRep E w M (.int .u8) xs cs) : ∀ (j : Nat) x, xs[j]? = some x → cs[j]? = some (.int .u8 (x.toNat : Int)) := by
  induction xs generalizing cs with
  | nil => intro j x hx; cases hx
  | cons y r ih =>
    cases h with
    | cons e x r c1 c2 h h' =>
      cases h
      intro j x hx
      cases j with
      | zero => cases hx; rfl
      | succ j => exact ih h' j x hx
theorem strs_rep : ∀ (l : List (List UInt8)), (∀ s ∈ l, s.length ≤ lim) → LRep E w M .str l (l.map fun s => Value.string ⟨s.toArray⟩)
  | [], _ => .nil _
  | s :: r, h => by
    have h1 : CRep E w M .str (ByteArray.mk s.toArray).data.toList [.string ⟨s.toArray⟩] := CRep.str _ (by simpa [ByteArray.size] using h s (by simp))
    have := LRep.cons (E := E) .str s r [Value.string ⟨s.toArray⟩] _ (by simpa using h1) (strs_rep r fun s hs => h s (by simp [hs]))
    simpa using this
theorem dbodyR_ok (HS : Sound P E) (hmix : P.follows .mixedOrders = true) {S : List (Nat × Spec E)} (hS : AllS P E S) {L : Nat → LoopInfo E} {N m q : Nat} {f : FuncId} {fn : Func} {c : Code} {ts : TypeId} (hf : P.funcs[f]? = some fn) (hb : fn.body = some c) (hs : seqOk m c = true)
    (h : ∀ k g, (L k).closed = some g → ∀ fr st out, (g fr st).get = some out → ∃ m fr', (loopT E (stepOf E S L N k fn) (L k).keep (L k).mvs st.length m fr st).get = some (out.1, fr', out.2.2) ∧ Weak out.2.1 fr')
    (ht : TailPut P fn (seqDrop m c) q ts) : FnOk P E f (dbodyR E (lookS S) L N m q fn) := by
  have hL : LoopsOk (lookS S) L N 0 c := loopsOk_of c 0 fun k cb hk f' hf' => by
    rw [Nat.zero_add] at hf' ⊢
    have := h k f' hf'
    unfold stepOf at this
    rw [hb] at this
    simp only [hk] at this
    exact this
  intro σ st w ds us r st' hst hds hr
  unfold dbodyR at hr
  rw [hb] at hr
  cases st with
  | cons _ _ => cases hr
  | nil =>
  simp only at hr
  obtain ⟨⟨e, fr, st1⟩, h1, h2⟩ := Tree.get_bind_some hr
  refine callsIn_wide.1 (callsIn_of_wp_marks (n := 3) hf hb trivial (wpIn_wide.2 ?_) rfl)
  refine dtake_ok HS hmix (callOk HS (lookS_ok hS)) m c 0 hs hL hst (frame_ok hds) h1 (fun σ' w' a' x m' hfr hx => ?_)
  simp only at h2 hfr m'
  split at h2
  · rename_i hd
    cases hx
    obtain ⟨hn, h2⟩ := Tree.get_need h2
    obtain ⟨bs, hbs, h2⟩ := Tree.get_bind_some h2
    cases h2
    obtain ⟨k, l, hk, hkx⟩ := ownIn_get hbs
    have hdd := hfr.d
    rw [hd] at hdd
    have hdef : a'.defers = [] := by generalize a'.defers = dd at hdd; cases hdd; rfl
    have hsz : a'.tmps.size = fn.ntmps := by
      have := VReps.length hfr.s
      rw [Array.length_toList] at this
      rw [← this]; exact Nat.eq_of_beq_eq_true hn
    have hv := dget_ok hfr (.tmp q)
    simp only [dget] at hv
    rw [hk] at hv
    have hq : a'.eval (.tmp q) = σ' k := by
      generalize a'.eval (.tmp q) = uu at hv ⊢
      cases hv with
      | data t d cs hvt => cases hvt; rfl
    have hob := m'.rep.obj k _ hkx
    generalize hsk : σ' k = sk at hob hq
    cases hob with
    | arr l e xs v how =>
    obtain ⟨hll, hcase⟩ := how
    have hbl : ∀ b, MB σ' st1 b → b < w'.heap.size := fun b hb => MB_lt m'.rep hb
    have hrep0 : StRep E σ' (st1.take 0) w' := take_rep m'.rep (fun k hk => by simp [stRefs] at hk)
    have m0 : Mf σ σ' [] (st1.take ([] : St E.T).length) w w' := Mf.take m' hrep0
    have hst0 : (st1.take ([] : St E.T).length) = [] := rfl
    rw [hst0] at m0
    have hbs2 : bs.length ≤ 2147483648 := hll
    have hch : ∀ s ∈ chunkL bs, s.length ≤ lim := by
      intro s hs
      obtain ⟨k, _, rfl⟩ := List.mem_map.1 hs
      unfold chunkS lim
      rw [List.length_take]
      omega
    have hfin : ∀ (v : Value) (W' : World), W'.ownsRow w'.heap.size ts 1 v ((bs.length + 31) / 32) ((List.range ((bs.length + 31) / 32)).map fun k => Value.string ⟨(chunkS bs k).toArray⟩) → Below w'.heap.size w' W' → Back E σ [] [] w (.ret [.val (.slice .str) (chunkL bs)]) (.returned v) W' := by
      intro v W' hrow hbel
      refine ⟨σ', m0.trans (below_mf m0.rep hbel), ?_⟩
      show VRep E σ' [] W' (MB σ' ([] : St E.T)) (.val (.slice .str) (chunkL bs)) v
      have hlr : LRep E W' (MB σ' ([] : St E.T)) .str (chunkL bs) ((List.range ((bs.length + 31) / 32)).map fun k => Value.string ⟨(chunkS bs k).toArray⟩) := by
        have := strs_rep (E := E) (w := W') (M := MB σ' ([] : St E.T)) (chunkL bs) hch
        unfold chunkL at this ⊢
        rw [List.map_map] at this
        exact this
      have hlen : (chunkL bs).length = (bs.length + 31) / 32 := by simp [chunkL]
      obtain ⟨hl1, hor⟩ := hrow
      rcases hor with ⟨rfl, h0⟩ | ⟨g, cap, cur, rfl, hg, hh, hc1, hc2, hc3, hc4⟩
      · have hnil : chunkL bs = [] := List.eq_nil_of_length_eq_zero (by rw [hlen]; exact h0)
        have := CRep.slice (E := E) (w := W') (M := MB σ' ([] : St E.T)) .str [] none 0 [] (.nil _) (.inl rfl) (Nat.zero_le _) (Nat.le_refl _)
        rw [hnil]
        exact .data _ _ _ (.val _ _ _ this)
      · have := CRep.slice (E := E) (w := W') (M := MB σ' ([] : St E.T)) .str (chunkL bs) (some ⟨g, 0, none⟩) cap _ hlr (.inr ⟨g, 0, rfl, ?_, (Array.getElem?_eq_some_iff.1 hh).1, ?_⟩) (by rw [hlen]; unfold lim; omega) (by rw [hlen]; exact hc1)
        · rw [hlen] at this
          exact .data _ _ _ (.val _ _ _ this)
        · intro hb
          have : g < w'.heap.size := by
            rcases hb with hb | ⟨o, ob, ho, _⟩
            · exact m0.rep.amb g hb
            · cases ho
          omega
        · intro j u hj
          rw [Nat.zero_add]
          have hj2 : (cur.toList.take ((bs.length + 31) / 32 * 1))[j]? = some u := by rw [hc4]; exact hj
          unfold World.cell?
          rw [hh]
          have hlt := (List.getElem?_eq_some_iff.1 hj2).1
          rw [List.getElem?_take_of_lt (by rw [List.length_take] at hlt; omega)] at hj2
          simpa using hj2
    have hget : ∀ u, a'.eval (.tmp q) = u → u ≠ undef → a'.tmps[q]? = some u := by
      intro u hu hne
      simp only [Act.eval, Array.getD_eq_getD_getElem?] at hu
      cases hc : a'.tmps[q]? with
      | none => rw [hc] at hu; exact absurd hu.symm hne
      | some x => rw [hc] at hu; rw [← hu]; rfl
    show (seqDrop m c).wp P (bodyPostM .wide 3 P fn (Back E σ [] [] w (.ret [.val (.slice .str) (chunkL bs)]))) a' w'
    refine (wpIn_wide (n := 3)).1 ?_
    rcases hcase with ⟨⟨ad, rfl⟩, rfl⟩ | ⟨g, cap, cur, el, fz, cs, rfl, hc1, hh, hz, hfz, hl, hcs⟩
    · exact ht a' w' ad 0 0 0 [] hdef hsz (hget _ hq (by intro h; cases h)) rfl (by omega) (Nat.le_refl _) (fun h => by omega) (fun h => by omega) (fun j x hx => by cases hx) _ hfin
    · refine ht a' w' (some ⟨g, 0, none⟩) g bs.length (cap + 1) bs hdef hsz (hget _ hq (by intro h; cases h)) rfl hbs2 hc1 (fun _ => rfl) (fun _ => (Array.getElem?_eq_some_iff.1 hh).1) (fun j x hx => ?_) _ hfin
      have := hcs j _ (bytes_cells hl j x hx)
      unfold World.cell?
      rw [hh]
      simpa using this
  · rename_i hd
    cases hx
    have hdd := hfr.d
    rw [hd] at hdd
    have hdef : a'.defers = [] := by generalize a'.defers = dd at hdd; cases hdd; rfl
    have hend := ending_ok HS (keep := false) (fn := fn) m' hfr .none (r := r) (st' := st') h2
    show LeavesInM .wide 3 P fn a'.tmps _ a'.defers .returning w'
    rw [hdef]
    exact hend
  · cases h2
end
open Go Go.RowKit
section
variable {P : Program} {E : Env} {w w' : World} {σ : Sg} {st : St E.T} {M : Nat → Prop}
def joinS (E : Env) : List (DVal E.T) → Tree (Res E.T)
  | [.val (.slice .str) l, .val .str e] => .ite (N.joinOk l e) (.ret (.ret [.val .str (N.joinL l e)])) .fail
  | _ => .fail
theorem strs_cells {l : List (List UInt8)} {cs : List Value} (h : LRep E w M .str l cs) : ∃ xs : List ByteArray, xs.map (fun b => b.data.toList) = l ∧ cs = xs.map Value.string ∧ ∀ b ∈ xs, b.size ≤ lim := by
  induction l generalizing cs with
  | nil => cases h; exact ⟨[], rfl, rfl, fun b hb => by cases hb⟩
  | cons y r ih =>
    cases h with
    | cons e x r c1 c2 h h' =>
      cases h with
      | str s hs =>
        obtain ⟨xs, h1, h2, h3⟩ := ih h'
        exact ⟨s :: xs, by simp [h1], by simp [h2], fun b hb => (List.mem_cons.1 hb).elim (fun e => by rw [e]; exact hs) (h3 b)⟩
theorem join_ok {f : FuncId} (hen : Enters P f)
    (h0 : ∀ (a : Option Addr) (c : Nat) (sep : ByteArray) (w : World), Calls P f #[.slice a 0 c, .string sep] w fun e w' => e = .returned (.string ⟨#[]⟩) ∧ w' = w)
    (h1 : ∀ (bk o c : Nat) (x sep : ByteArray) (w : World), w.cell? ⟨bk, o, none⟩ = some (.string x) → Calls P f #[.slice (some ⟨bk, o, none⟩) 1 c, .string sep] w fun e w' => e = .returned (.string x) ∧ w' = w)
    (h2 : ∀ (bk o c : Nat) (xs : List ByteArray) (sep : ByteArray) (w : World), (∀ (j : Nat) x, xs[j]? = some x → w.cell? ⟨bk, o + j, none⟩ = some (.string x)) → bk < w.heap.size → 2 ≤ xs.length → xs.length ≤ 140737488355328 → xs.length ≤ c →
      (Lib.join (xs.map (·.data.toList)) sep.data.toList).length ≤ 140737488355328 →
      Calls P f #[.slice (some ⟨bk, o, none⟩) xs.length c, .string sep] w fun e w' => e = .returned (.string ⟨(Lib.join (xs.map (·.data.toList)) sep.data.toList).toArray⟩) ∧ Below w.heap.size w w') :
    SpecOk P E f (.pure [.slice .str, .str] (joinS E)) := by
  refine ⟨hen, fun {σ w ds us r} hst hds hr => ?_⟩
  unfold joinS at hr
  split at hr
  · rename_i l e
    simp only [Tree.get] at hr
    cases hk : N.joinOk l e with
    | false => rw [hk] at hr; cases hr
    | true =>
      rw [hk] at hr
      cases hr
      unfold N.joinOk at hk
      have hk := of_decide_eq_true hk
      cases hds with
      | cons v r u us hv h2' =>
        cases h2' with
        | cons v r u2 us he h3 =>
          cases h3
          obtain ⟨b, rfl, hb, _⟩ := strRep he
          cases hv with
          | data t d cs hvt =>
          cases hvt with
          | val t x cs hc =>
          cases hc with
          | slice e' xs a cap cs hl hm hn hcap =>
          obtain ⟨bs, hbs, hcs, _⟩ := strs_cells hl
          have hlen : l.length = bs.length := by rw [← hbs, List.length_map]
          show Calls P f #[.slice a l.length cap, .string b] w _
          have hst2 : ∀ s : List UInt8, s = N.joinL l e → ∀ (en : Ending) (w' : World), en = .returned (.string ⟨s.toArray⟩) → Below w.heap.size w w' → Back E σ [] [] w (.ret [.val .str (N.joinL l e)]) en w' := by
            intro s hs en w' he hbel
            subst hs
            exact ⟨σ, below_mf hst hbel, by rw [he]; exact str_val hk⟩
          match bs, hbs, hcs, hlen with
          | [], hbs, _, hlen =>
            have hnil : l = [] := by rw [← hbs]; rfl
            rw [hlen]
            refine (h0 a cap b w).mono fun en w' ⟨he, hw⟩ => hst2 [] (by rw [hnil]; rfl) en w' (by rw [he]) (by rw [hw]; exact Below.refl _ _)
          | [y], hbs, hcs, hlen =>
            have hl1 : l = [y.data.toList] := by rw [← hbs]; rfl
            rcases hm with h | ⟨bk, off, rfl, _, _, hcell⟩
            · rw [h] at hlen; cases hlen
            · rw [hlen]
              have hy : w.cell? ⟨bk, off, none⟩ = some (.string y) := by
                have := hcell 0 (.string y) (by rw [hcs]; rfl)
                simpa using this
              refine (h1 bk off cap y b w hy).mono fun en w' ⟨he, hw⟩ => hst2 y.data.toList (by rw [hl1]; simp [N.joinL, List.intercalate]) en w' (by rw [he]) (by rw [hw]; exact Below.refl _ _)
          | y :: z :: r, hbs, hcs, hlen =>
            rcases hm with h | ⟨bk, off, rfl, _, hlt, hcell⟩
            · rw [h] at hlen; simp at hlen
            · rw [hlen]
              have hj : N.joinL l e = Lib.join ((y :: z :: r).map (·.data.toList)) b.data.toList := by rw [hbs, hb]; rfl
              have hln : l.length ≤ 2147483648 := hn
              refine (h2 bk off cap (y :: z :: r) b w (fun j x hx => hcell j _ (by rw [hcs, List.getElem?_map, hx]; rfl)) hlt (by simp) (by omega) (by omega) (by rw [← hj]; unfold N.lim at hk; omega)).mono fun en w' ⟨he, hbel⟩ => hst2 _ hj.symm en w' he hbel
  · cases hr
end
end Go.Proofs.YtinbnobanikfmaaGreatDoor.D

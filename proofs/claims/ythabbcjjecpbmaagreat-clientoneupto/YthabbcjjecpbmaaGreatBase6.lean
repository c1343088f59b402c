/- Instances: what a function comes to where its arguments, and the objects that they lead to, are of some shape. Loops by their rounds. A function's instance out of its nice function: all that ties the two but the one fact that the kernel checks. A seat's table of types, told right by two closed facts. Deferred functions, of which the first part stands further in. Short names for what links say most often. Functions of the library by contracts that are given: strings.Repeat. A body whose last part ranges over the chunks of a row of bytes. strings.Join, by its contract. A fact that the kernel checks, in pieces: trees are compared branch by branch. -/
import Derived.Test.YthabbcjjecpbmaaGreatBase5
import Derived.Below
import Derived.Lib.Repeat
import Derived.RangeFuncLeaves
import Derived.RangeFuncBox
import Derived.Lib.Join
set_option linter.unusedVariables false
set_option linter.unusedSimpArgs false
namespace Go.Proofs.YthabbcjjecpbmaaGreat.D
open Go
noncomputable section
inductive PS where
 | fld (i j : Nat)
 | idx (e : Ty) (n : Nat)
 | at_ (e : Ty)
inductive Sh where
 | v (t : Ty)
 | str (s : List UInt8)
 | nils
 | own (k : Nat)
 | ptr (o : Nat) (p : List PS)
 | nilptr
 | rptr (t : Ty)
 | agg (i : Nat) (l : List Sh)
 | fn (f : FuncId) (l : List Sh)
 | nilfn
 | ifc (t : TypeId) (s : Sh)
 | nilifc
 | undef
inductive ShO where
 | box (ro : Bool) (s : Sh)
 | arr (l : RM) (e : Ty)
 | dead
section
variable (E : Env)
@[reducible] def PS.Fn : List PS → Type 1 → Type 1
 | [], A => A
 | .at_ _ :: p, A => Nat → PS.Fn p A
 | _ :: p, A => PS.Fn p A
mutual
@[reducible] def Sh.Fn : Sh → Type 1 → Type 1
 | .v t, A => I E.T t → A
 | .ptr _ p, A => PS.Fn p A
 | .rptr t, A => I E.T t → A
 | .agg _ l, A => Sh.FnL l A
 | .fn _ l, A => Sh.FnL l A
 | .ifc _ s, A => Sh.Fn s A
 | _, A => A
termination_by structural x => x
@[reducible] def Sh.FnL : List Sh → Type 1 → Type 1
 | [], A => A
 | s :: r, A => Sh.Fn s (Sh.FnL r A)
termination_by structural x => x
end
@[reducible] def ShO.Fn : ShO → Type 1 → Type 1
 | .box _ s, A => Sh.Fn E s A
 | .arr _ e, A => List (I E.T e) → A
 | .dead, A => A
@[reducible] def ShO.FnL : List ShO → Type 1 → Type 1
 | [], A => A
 | s :: r, A => ShO.Fn E s (ShO.FnL r A)
def PS.dec {A : Type 1} : (q : List PS) → List Step → PS.Fn q A → Option A
 | [], [], k => some k
 | .fld i j :: q, .fld i' j' :: p, k => bif Nat.beq i i' && Nat.beq j j' then PS.dec q p k else none
 | .idx e n :: q, .idx e' n' :: p, k => bif tyEqb e e' && Nat.beq n n' then PS.dec q p k else none
 | .at_ e :: q, .idx e' n' :: p, k => bif tyEqb e e' then PS.dec q p (k n') else none
 | _, _, _ => none
mutual
def Sh.dec : (s : Sh) → {A : Type 1} → DVal E.T → Sh.Fn E s A → Option A
 | .v t, _, d, k => match valOf E t d with
  | some x => some (k x)
  | none => none
 | .str s, _, .val .str x, k => bif x == s then some k else none
 | .nils, _, .nils, k => some k
 | .own n, _, .own m, k => bif Nat.beq n m then some k else none
 | .ptr o p, _, .ptr o' p', k => bif Nat.beq o o' then PS.dec p p' k else none
 | .nilptr, _, .nilptr, k => some k
 | .rptr t, _, .rptr t' x, k => match tyEq t' t with
  | some h => some (k (castI h.down x))
  | none => none
 | .agg i l, _, .agg i' ds, k => bif Nat.beq i i' then Sh.decL l ds k else none
 | .fn f l, _, .fn f' ds, k => bif Nat.beq f f' then Sh.decL l ds k else none
 | .nilfn, _, .nilfn, k => some k
 | .ifc t s, _, .ifc t' d, k => bif Nat.beq t t' then Sh.dec s d k else none
 | .nilifc, _, .nilifc, k => some k
 | _, _, _, _ => none
termination_by structural x => x
def Sh.decL : (l : List Sh) → {A : Type 1} → List (DVal E.T) → Sh.FnL E l A → Option A
 | [], _, [], k => some k
 | s :: r, _, d :: ds, k => match Sh.dec s d k with
  | some k' => Sh.decL r ds k'
  | none => none
 | _, _, _, _ => none
termination_by structural x => x
end
def RM.eqb : RM → RM → Bool
 | .froz, .froz => true
 | .fix, .fix => true
 | .live, .live => true
 | _, _ => false
def ShO.dec : (s : ShO) → {A : Type 1} → Obj E.T → ShO.Fn E s A → Option A
 | .box ro s, _, .box ro' d, k => bif ro == ro' then Sh.dec E s d k else none
 | .arr l e, _, .arr l' e' xs, k => match tyEq (.slice e') (.slice e) with
  | some h => bif RM.eqb l l' then some (k (castI (T := E.T) h.down xs)) else none
  | none => none
 | .dead, _, .dead, k => some k
 | _, _, _, _ => none
def ShO.decL : (l : List ShO) → {A : Type 1} → St E.T → ShO.FnL E l A → Option A
 | [], _, [], k => some k
 | s :: r, _, d :: ds, k => match ShO.dec E s d k with
  | some k' => ShO.decL r ds k'
  | none => none
 | _, _, _, _ => none
def PS.Rel {A : Type 1} : (q : List PS) → PS.Fn q A → (List Step → A → Prop) → Prop
 | [], k, P => P [] k
 | .fld i j :: q, k, P => PS.Rel q k fun p a => P (.fld i j :: p) a
 | .idx e n :: q, k, P => PS.Rel q k fun p a => P (.idx e n :: p) a
 | .at_ e :: q, k, P => ∀ n, PS.Rel q (k n) fun p a => P (.idx e n :: p) a
mutual
def Sh.Rel : (s : Sh) → {A : Type 1} → Sh.Fn E s A → (DVal E.T → A → Prop) → Prop
 | .v t, _, k, P => ∀ x, P (.val t x) (k x)
 | .str s, _, k, P => P (.val .str s) k
 | .nils, _, k, P => P .nils k
 | .own n, _, k, P => P (.own n) k
 | .ptr o p, _, k, P => PS.Rel p k fun p a => P (.ptr o p) a
 | .nilptr, _, k, P => P .nilptr k
 | .rptr t, _, k, P => ∀ x, P (.rptr t x) (k x)
 | .agg i l, _, k, P => Sh.RelL l k fun ds a => P (.agg i ds) a
 | .fn f l, _, k, P => Sh.RelL l k fun ds a => P (.fn f ds) a
 | .nilfn, _, k, P => P .nilfn k
 | .ifc t s, _, k, P => Sh.Rel s k fun d a => P (.ifc t d) a
 | .nilifc, _, k, P => P .nilifc k
 | .undef, _, _, _ => True
termination_by structural x => x
def Sh.RelL : (l : List Sh) → {A : Type 1} → Sh.FnL E l A → (List (DVal E.T) → A → Prop) → Prop
 | [], _, k, P => P [] k
 | s :: r, _, k, P => Sh.Rel s k fun d k' => Sh.RelL r k' fun ds a => P (d :: ds) a
termination_by structural x => x
end
def ShO.Rel : (s : ShO) → {A : Type 1} → ShO.Fn E s A → (Obj E.T → A → Prop) → Prop
 | .box ro s, _, k, P => Sh.Rel E s k fun d a => P (.box ro d) a
 | .arr l e, _, k, P => ∀ xs, P (.arr l e xs) (k xs)
 | .dead, _, k, P => P .dead k
def ShO.RelL : (l : List ShO) → {A : Type 1} → ShO.FnL E l A → (St E.T → A → Prop) → Prop
 | [], _, k, P => P [] k
 | s :: r, _, k, P => ShO.Rel E s k fun d k' => ShO.RelL r k' fun ds a => P (d :: ds) a
end
section
variable {E : Env}
theorem PS.dec_rel {A : Type 1} : ∀ (q : List PS) (p : List Step) (k : PS.Fn q A) {a : A} {P : List Step → A → Prop}, PS.dec q p k = some a → PS.Rel q k P → P p a
 | [], [], k, a, P, h, hr => by cases h; exact hr
 | .fld i j :: q, .fld i' j' :: p, k, a, P, h, hr => by
  simp only [PS.dec] at h
  cases hb : Nat.beq i i' && Nat.beq j j' with
  | false => rw [hb] at h; cases h
  | true =>
   rw [hb] at h
   rw [Bool.and_eq_true] at hb
   have h1 := Nat.eq_of_beq_eq_true hb.1
   have h2 := Nat.eq_of_beq_eq_true hb.2
   subst h1; subst h2
   exact PS.dec_rel q p k h hr
 | .idx e n :: q, .idx e' n' :: p, k, a, P, h, hr => by
  simp only [PS.dec] at h
  cases hb : tyEqb e e' && Nat.beq n n' with
  | false => rw [hb] at h; cases h
  | true =>
   rw [hb] at h
   rw [Bool.and_eq_true] at hb
   have h1 := tyEqb_eq hb.1
   have h2 := Nat.eq_of_beq_eq_true hb.2
   subst h1; subst h2
   exact PS.dec_rel q p k h hr
 | .at_ e :: q, .idx e' n' :: p, k, a, P, h, hr => by
  simp only [PS.dec] at h
  cases hb : tyEqb e e' with
  | false => rw [hb] at h; cases h
  | true =>
   rw [hb] at h
   have h1 := tyEqb_eq hb
   subst h1
   exact PS.dec_rel q p (k n') h (hr n')
 | [], _ :: _, k, a, P, h, hr => by cases h
 | .fld i j :: q, [], k, a, P, h, hr => by cases h
 | .fld i j :: q, .idx _ _ :: p, k, a, P, h, hr => by cases h
 | .idx e n :: q, [], k, a, P, h, hr => by cases h
 | .idx e n :: q, .fld _ _ :: p, k, a, P, h, hr => by cases h
 | .at_ e :: q, [], k, a, P, h, hr => by cases h
 | .at_ e :: q, .fld _ _ :: p, k, a, P, h, hr => by cases h
theorem valOf_eq {t : Ty} {d : DVal E.T} {x : I E.T t} (h : valOf E t d = some x) : d = .val t x := by
 cases d with
 | val t' y =>
  simp only [valOf] at h
  split at h
  ·rename_i p _
   cases p with | up p =>
   cases p
   cases h
   rfl
  ·cases h
 | _ => cases h
mutual
theorem Sh.dec_rel : ∀ (s : Sh) {A : Type 1} (d : DVal E.T) (k : Sh.Fn E s A) {a : A} {P : DVal E.T → A → Prop}, Sh.dec E s d k = some a → Sh.Rel E s k P → P d a
 | .v t, A, d, k, a, P, h, hr => by
  simp only [Sh.dec] at h
  split at h
  ·rename_i x hx
   cases h
   rw [valOf_eq hx]
   exact hr x
  ·cases h
 | .str s, A, d, k, a, P, h, hr => by
  cases d <;> try (simp only [Sh.dec] at h; cases h)
  rename_i t x
  cases t <;> try (simp only [Sh.dec] at h; cases h)
  simp only [Sh.dec] at h
  cases hb : (x == s) with
  | false => rw [hb] at h; cases h
  | true => rw [hb] at h; cases h; have := eq_of_beq hb; subst this; exact hr
 | .nils, A, d, k, a, P, h, hr => by cases d <;> first | (cases h; exact hr) | (simp only [Sh.dec] at h; cases h)
 | .own n, A, d, k, a, P, h, hr => by
  cases d <;> try (simp only [Sh.dec] at h; cases h)
  rename_i m
  simp only [Sh.dec] at h
  cases hb : Nat.beq n m with
  | false => rw [hb] at h; cases h
  | true => rw [hb] at h; cases h; have := Nat.eq_of_beq_eq_true hb; subst this; exact hr
 | .ptr o p, A, d, k, a, P, h, hr => by
  cases d <;> try (simp only [Sh.dec] at h; cases h)
  rename_i o' p'
  simp only [Sh.dec] at h
  cases hb : Nat.beq o o' with
  | false => rw [hb] at h; cases h
  | true => rw [hb] at h; have := Nat.eq_of_beq_eq_true hb; subst this; exact PS.dec_rel p p' k h hr
 | .nilptr, A, d, k, a, P, h, hr => by cases d <;> first | (cases h; exact hr) | (simp only [Sh.dec] at h; cases h)
 | .rptr t, A, d, k, a, P, h, hr => by
  cases d <;> try (simp only [Sh.dec] at h; cases h)
  rename_i t' x
  simp only [Sh.dec] at h
  split at h
  ·rename_i p _
   cases p with | up p =>
   cases p
   cases h
   exact hr x
  ·cases h
 | .agg i l, A, d, k, a, P, h, hr => by
  cases d <;> try (simp only [Sh.dec] at h; cases h)
  rename_i i' ds
  simp only [Sh.dec] at h
  cases hb : Nat.beq i i' with
  | false => rw [hb] at h; cases h
  | true => rw [hb] at h; have := Nat.eq_of_beq_eq_true hb; subst this; exact Sh.decL_rel l ds k h hr
 | .fn f l, A, d, k, a, P, h, hr => by
  cases d <;> try (simp only [Sh.dec] at h; cases h)
  rename_i f' ds
  simp only [Sh.dec] at h
  cases hb : Nat.beq f f' with
  | false => rw [hb] at h; cases h
  | true => rw [hb] at h; have := Nat.eq_of_beq_eq_true hb; subst this; exact Sh.decL_rel l ds k h hr
 | .nilfn, A, d, k, a, P, h, hr => by cases d <;> first | (cases h; exact hr) | (simp only [Sh.dec] at h; cases h)
 | .ifc t s, A, d, k, a, P, h, hr => by
  cases d <;> try (simp only [Sh.dec] at h; cases h)
  rename_i t' d
  simp only [Sh.dec] at h
  cases hb : Nat.beq t t' with
  | false => rw [hb] at h; cases h
  | true => rw [hb] at h; have := Nat.eq_of_beq_eq_true hb; subst this; exact Sh.dec_rel s d k h hr
 | .nilifc, A, d, k, a, P, h, hr => by cases d <;> first | (cases h; exact hr) | (simp only [Sh.dec] at h; cases h)
 | .undef, A, d, k, a, P, h, hr => by cases d <;> (simp only [Sh.dec] at h; cases h)
theorem Sh.decL_rel : ∀ (l : List Sh) {A : Type 1} (ds : List (DVal E.T)) (k : Sh.FnL E l A) {a : A} {P : List (DVal E.T) → A → Prop}, Sh.decL E l ds k = some a → Sh.RelL E l k P → P ds a
 | [], A, [], k, a, P, h, hr => by simp only [Sh.decL, Option.some.injEq] at h; subst h; exact hr
 | [], A, _ :: _, k, a, P, h, hr => by simp only [Sh.decL] at h; cases h
 | s :: r, A, [], k, a, P, h, hr => by simp only [Sh.decL] at h; cases h
 | s :: r, A, d :: ds, k, a, P, h, hr => by
  simp only [Sh.decL] at h
  split at h
  ·rename_i k' hk
   exact Sh.decL_rel r ds k' (P := fun ds a => P (d :: ds) a) h (Sh.dec_rel s d k (P := fun d k' => Sh.RelL E r k' fun ds a => P (d :: ds) a) hk hr)
  ·cases h
end
theorem ShO.dec_rel (s : ShO) {A : Type 1} (d : Obj E.T) (k : ShO.Fn E s A) {a : A} {P : Obj E.T → A → Prop} (h : ShO.dec E s d k = some a) (hr : ShO.Rel E s k P) : P d a := by
 cases s with
 | box ro s =>
  cases d <;> try (simp only [ShO.dec] at h; cases h)
  rename_i ro' d
  simp only [ShO.dec] at h
  cases hb : (ro == ro') with
  | false => rw [hb] at h; cases h
  | true => rw [hb] at h; have := eq_of_beq hb; subst this; exact Sh.dec_rel s d k h hr
 | arr l e =>
  cases d <;> try (simp only [ShO.dec] at h; cases h)
  rename_i l' e' xs
  simp only [ShO.dec] at h
  split at h
  ·rename_i p _
   cases p with | up p =>
   cases p
   cases hb : RM.eqb l l' with
   | false => rw [hb] at h; cases h
   | true =>
    rw [hb] at h
    cases h
    have : l = l' := by cases l <;> cases l' <;> first | rfl | cases hb
    subst this
    exact hr xs
  ·cases h
 | dead => cases d <;> first | (cases h; exact hr) | (simp only [ShO.dec] at h; cases h)
theorem ShO.decL_rel : ∀ (l : List ShO) {A : Type 1} (ds : St E.T) (k : ShO.FnL E l A) {a : A} {P : St E.T → A → Prop}, ShO.decL E l ds k = some a → ShO.RelL E l k P → P ds a
 | [], A, [], k, a, P, h, hr => by simp only [ShO.decL, Option.some.injEq] at h; subst h; exact hr
 | [], A, _ :: _, k, a, P, h, hr => by simp only [ShO.decL] at h; cases h
 | s :: r, A, [], k, a, P, h, hr => by simp only [ShO.decL] at h; cases h
 | s :: r, A, d :: ds, k, a, P, h, hr => by
  simp only [ShO.decL] at h
  split at h
  ·rename_i k' hk
   exact ShO.decL_rel r ds k' (P := fun ds a => P (d :: ds) a) h (ShO.dec_rel s d k (P := fun d k' => ShO.RelL E r k' fun ds a => P (d :: ds) a) hk hr)
  ·cases h
structure Ins (E : Env) (X : Type) where
 args : List Sh
 objs : List ShO
 k : Sh.FnL E args (ShO.FnL E objs (Tree X))
def Ins.dec {X : Type} (i : Ins E X) (ds : List (DVal E.T)) (st : St E.T) : Option (Tree X) :=
 match Sh.decL E i.args ds i.k with
 | some k' => ShO.decL E i.objs st k'
 | none => none
def Ins.Rel {X : Type} (i : Ins E X) (P : List (DVal E.T) → St E.T → Tree X → Prop) : Prop := Sh.RelL E i.args i.k fun ds k' => ShO.RelL E i.objs k' fun st t => P ds st t
theorem Ins.dec_rel {X : Type} {i : Ins E X} {ds : List (DVal E.T)} {st : St E.T} {t : Tree X} {P : List (DVal E.T) → St E.T → Tree X → Prop} (h : i.dec ds st = some t) (hr : i.Rel P) : P ds st t := by
 unfold Ins.dec at h
 split at h
 ·rename_i k' hk
  exact ShO.decL_rel i.objs st k' (P := fun st t => P ds st t) h (Sh.decL_rel i.args ds i.k (P := fun ds k' => ShO.RelL E i.objs k' fun st t => P ds st t) hk hr)
 ·cases h
def insF {X : Type} : List (Ins E X) → List (DVal E.T) → St E.T → Tree X
 | [], _, _ => .fail
 | i :: r, ds, st => match i.dec ds st with
  | some t => t
  | none => insF r ds st
variable {P : Program}
def InsOk (P : Program) (f : FuncId) (i : Ins E (Res E.T × St E.T)) : Prop :=
 ∃ B, FnOk P E f B ∧ i.Rel fun ds st t => ∀ out, t.get = some out → (B ds st).get = some out
def AllI (P : Program) (f : FuncId) : List (Ins E (Res E.T × St E.T)) → Prop
 | [] => True
 | i :: r => InsOk P f i ∧ AllI P f r
theorem insF_ok {f : FuncId} : ∀ {l : List (Ins E (Res E.T × St E.T))}, AllI P f l → FnOk P E f (insF l)
 | [], _ => fun _ _ h => by cases h
 | i :: r, hl => fun hst hds h => by
  simp only [insF] at h
  split at h
  ·rename_i t ht
   obtain ⟨B, hB, hr⟩ := hl.1
   exact hB hst hds (Ins.dec_rel ht hr _ h)
  ·exact insF_ok hl.2 hst hds h
theorem dat_fn (ok : EnvOk E) {f : FuncId} {B : List (DVal E.T) → St E.T → Tree (Res E.T × St E.T)} (h : FnOk P E f B) : FnOk P E f fun ds st => B (datL E st st.length ds) (datSt E st st.length) := by
 intro σ st w ds us q st' hst hds hg
 have m := Mv.dat ok hst st.length
 have hd := VReps.dat ok hst st.length hds
 refine Calls.mono (h m.rep (m.vreps hd) hg) (fun e w' hb => ?_)
 obtain ⟨σ', m', hr⟩ := hb
 exact ⟨σ', m.f.trans m', hr⟩
def fullF (l : List (Ins E (Res E.T × St E.T))) (ds : List (DVal E.T)) (st : St E.T) : Tree (Res E.T × St E.T) := insF l (datL E st st.length ds) (datSt E st st.length)
theorem fullI_ok (ok : EnvOk E) {f : FuncId} {ps : List TK} {flat : Bool} {l : List (Ins E (Res E.T × St E.T))} (hen : Enters P f) (h : AllI P f l) : SpecOk P E f (.full ps flat (fullF l)) :=
 ⟨hen, dat_fn ok (insF_ok h)⟩
def pureF (l : List (Ins E (Res E.T × St E.T))) (ds : List (DVal E.T)) : Tree (Res E.T) := (insF l ds []).bind fun p => match p.2 with
 | [] => .ret p.1
 | _ => .fail
theorem pureI_ok {f : FuncId} {ps : List Ty} {l : List (Ins E (Res E.T × St E.T))} (hen : Enters P f) (h : AllI P f l) : SpecOk P E f (.pure ps (pureF l)) := by
 refine ⟨hen, pure_ok (insF_ok h) fun ds r hg => ?_⟩
 unfold pureF at hg
 obtain ⟨p, h1, h2⟩ := Tree.get_bind_some hg
 obtain ⟨r', s⟩ := p
 cases s with
 | nil => cases h2; exact h1
 | cons _ _ => cases h2
theorem iter_loop {V X : Type} {step : V → Option (V ⊕ X)} {stp : Fr E.T → St E.T → Tree (CodeOut E)} {ks rs : List Nat} {mvs : List (Nat × Nat)} {n : Nat} {hd : V → Fr E.T} {sv : V → St E.T} {ex : X → Tree (CodeOut E)}
  (h : ∀ v, ((stp (hd v) (sv v)).bind (nx E ks mvs rs n)).get = (step v).bind fun s => N.alt s (fun v' => some (.inl (hd v', sv v'))) fun x => (ex x).get.map Sum.inr) :
  ∀ (m : Nat) (v : V) {x : X} {out : CodeOut E}, N.iter step m v = some x → (ex x).get = some out → LoopTo stp ks mvs n (hd v) (sv v) out
 | 0, v, x, out, hi, ho => by cases hi
 | m + 1, v, x, out, hi, ho => by
  rw [N.iter_succ] at hi
  have hv := h v
  cases hst : step v with
  | none => rw [hst] at hi; cases hi
  | some s =>
   rw [hst] at hi hv
   cases s with
   | inl v' => exact LoopTo.next hv (iter_loop h m v' hi ho)
   | inr y =>
    have : y = x := Option.some.inj hi
    subst this
    refine LoopTo.stop (rs := rs) ?_
    rw [hv]
    show (ex y).get.map Sum.inr = _
    rw [ho]
    rfl
def InsLp (n : Nat) (ks : List Nat) (mvs : List (Nat × Nat)) (d : List (FuncId × List (DVal E.T))) (stp : Fr E.T → St E.T → Tree (CodeOut E)) (i : Ins E (CodeOut E)) : Prop :=
 i.Rel fun vals st t => ∀ out, t.get = some out → LoopTo stp ks mvs st.length (ofSlots E n d ks vals) st out
def AllLp (n : Nat) (ks : List Nat) (mvs : List (Nat × Nat)) (d : List (FuncId × List (DVal E.T))) (stp : Fr E.T → St E.T → Tree (CodeOut E)) : List (Ins E (CodeOut E)) → Prop
 | [] => True
 | i :: r => InsLp n ks mvs d stp i ∧ AllLp n ks mvs d stp r
theorem insLp_ok {n : Nat} {ks : List Nat} {mvs : List (Nat × Nat)} {d : List (FuncId × List (DVal E.T))} {stp : Fr E.T → St E.T → Tree (CodeOut E)} : ∀ {l : List (Ins E (CodeOut E))}, AllLp n ks mvs d stp l → ∀ vals st out, (insF l vals st).get = some out → LoopTo stp ks mvs st.length (ofSlots E n d ks vals) st out
 | [], _, vals, st, out, h => by cases h
 | i :: r, hl, vals, st, out, h => by
  simp only [insF] at h
  split at h
  ·rename_i t ht
   exact Ins.dec_rel ht hl.1 out h
  ·exact insLp_ok hl.2 vals st out h
theorem lp_ok {n : Nat} {ks : List Nat} {mvs : List (Nat × Nat)} {d : List (FuncId × List (DVal E.T))} {stp : Fr E.T → St E.T → Tree (CodeOut E)} {l : List (Ins E (CodeOut E))} (h : AllLp n ks mvs d stp l) (fr : Fr E.T) (st : St E.T) (out : CodeOut E)
  (hc : (closedOf E n ks mvs d (insF l) fr st).get = some out) : ∃ m fr', (loopT E stp ks mvs st.length m fr st).get = some (out.1, fr', out.2.2) ∧ Weak out.2.1 fr' :=
 closed_ok (insLp_ok h) fr st out hc
def datRes (st : St E.T) : Res E.T → Res E.T
 | .ret vs => .ret (datL E st st.length vs)
 | .panic v => .panic v
def resRefs : Res E.T → List Nat
 | .ret vs => refsL vs
 | .panic v => refs v
def keepO (R : List Nat) : Nat → St E.T → St E.T
 | _, [] => []
 | i, o :: r => (bif memB R i then o else .dead) :: keepO R (i + 1) r
def tidyF (B : List (DVal E.T) → St E.T → Tree (Res E.T × St E.T)) (ds : List (DVal E.T)) (st : St E.T) : Tree (Res E.T × St E.T) :=
 (B ds st).bind fun p =>
  let s1 := datSt E p.2 p.2.length
  let r1 := datRes p.2 p.1
  let R := reach E s1 1000 (List.range st.length ++ resRefs r1) []
  Tree.need (R.all (fun k => (objAt E s1 k).all (memB R)) && ((List.range st.length).all (memB R) && (resRefs r1).all (memB R))) (.ret (r1, keepO R 0 s1))
theorem keepO_len (R : List Nat) : ∀ (i : Nat) (l : St E.T), (keepO R i l).length = l.length
 | _, [] => rfl
 | i, o :: r => by simp [keepO, keepO_len R (i + 1) r]
theorem keepO_at (R : List Nat) : ∀ (i : Nat) (l : St E.T) (j : Nat), nth? (keepO R i l) j = if i + j ∈ R then nth? l j else (nth? l j).map fun _ => .dead
 | i, [], j => by simp [keepO, nthq_nil, nthq_zero, nthq_succ]
 | i, o :: r, 0 => by
  simp only [keepO, nthq_nil, nthq_zero, nthq_succ, Nat.add_zero]
  by_cases h : i ∈ R
  ·rw [if_pos h, (memB_iff R i).2 h]; rfl
  ·have : memB R i = false := by
    cases hb : memB R i with
    | false => rfl
    | true => exact absurd ((memB_iff R i).1 hb) h
   rw [if_neg h, this]; rfl
 | i, o :: r, j + 1 => by
  simp only [keepO, nthq_nil, nthq_zero, nthq_succ]
  rw [keepO_at R (i + 1) r j, show i + 1 + j = i + (j + 1) by omega]
section
variable {σ σ' : Sg} {st st' : St E.T} {w w' : World} {R : List Nat}
theorem keepO_MB {b : Nat} (h : MB σ (keepO R 0 st) b) : MB σ st b := by
 rcases h with h | ⟨o, ob, ho, hm, hb⟩
 ·exact .inl h
 ·rw [keepO_at, Nat.zero_add] at ho
  split at ho
  ·exact .inr ⟨o, ob, ho, hm, hb⟩
  ·obtain ⟨q, _, rfl⟩ := Option.map_eq_some_iff.1 ho
   cases hm
theorem keepO_same {k : Nat} (hk : k ∈ R) : Same σ σ st (keepO R 0 st) k :=
 ⟨rfl, fun l e xs h => ⟨l, xs, by rw [keepO_at, Nat.zero_add, if_pos hk]; exact h⟩, fun h => by rw [keepO_len]; exact h⟩
theorem keepO_rep (hst : StRep E σ st w) (hc : ∀ k ∈ R, ∀ ob, nth? st k = some ob → ∀ j ∈ objRefs E ob, j ∈ R) : StRep E σ (keepO R 0 st) w := by
 have hat : ∀ {o ob}, nth? (keepO R 0 st) o = some ob → isDead ob = false → o ∈ R ∧ nth? st o = some ob := by
  intro o ob ho hd
  rw [keepO_at, Nat.zero_add] at ho
  split at ho
  ·rename_i h; exact ⟨h, ho⟩
  ·obtain ⟨q, _, rfl⟩ := Option.map_eq_some_iff.1 ho
   cases hd
 refine ⟨fun o ob ho => ?_, fun o o' ob ob' b hne ho ho' hm hd hb1 hb2 => ?_, hst.amb, fun o ob b ho hd hb => hst.out o ob b (hat ho hd).2 hd hb⟩
 ·cases hd : isDead ob with
  | true => cases ob <;> first | exact .dead _ | cases hd
  | false =>
   obtain ⟨h1, h2⟩ := hat ho hd
   exact ObRep.keep (Kept.weaken fun b hb => keepO_MB hb) (fun _ _ => rfl) (fun k hk => keepO_same (hc o h1 ob h2 k hk)) (hst.obj o ob h2)
 ·exact hst.apart o o' ob ob' b hne (hat ho (by cases ob <;> first | rfl | cases hm)).2 (hat ho' hd).2 hm hd hb1 hb2
theorem tidy_fn (ok : EnvOk E) {f : FuncId} {B : List (DVal E.T) → St E.T → Tree (Res E.T × St E.T)} (h : FnOk P E f B) : FnOk P E f (tidyF B) := by
 intro σ st w ds us q st' hst hds hg
 unfold tidyF at hg
 obtain ⟨p, hp, hg⟩ := Tree.get_bind_some hg
 obtain ⟨r, s⟩ := p
 simp only at hg
 generalize hR : reach E (datSt E s s.length) 1000 (List.range st.length ++ resRefs (datRes s r)) [] = R at hg
 obtain ⟨hb, hg⟩ := Tree.get_need hg
 cases hg
 simp only [Bool.and_eq_true, List.all_eq_true] at hb
 obtain ⟨h1, h2, h3⟩ := hb
 refine Calls.mono (h hst hds hp) (fun e w' hb => ?_)
 obtain ⟨σ', m, hr⟩ := hb
 have md := Mv.dat ok m.rep s.length
 have m1 := m.trans md.f
 have hcl : ∀ k ∈ R, ∀ ob, nth? (datSt E s s.length) k = some ob → ∀ j ∈ objRefs E ob, j ∈ R := by
  intro k hk ob ho j hj
  have := h1 k hk
  simp only [objAt, ho] at this
  exact (memB_iff R j).1 (this j hj)
 have hrep := keepO_rep m1.rep hcl
 have hkp : Kept (MB σ' (datSt E s s.length)) (MB σ' (keepO R 0 (datSt E s s.length))) w' w' := Kept.weaken fun b hb => keepO_MB hb
 refine ⟨σ', ⟨hrep, ⟨m1.keep.os, m1.keep.tape, m1.keep.output, m1.keep.size, m1.keep.block, fun b hb h => m1.keep.may b hb (keepO_MB h)⟩, ⟨m1.stay.same, fun o ob ho => ?_⟩, m1.amb⟩, ?_⟩
 ·obtain ⟨ob', h4, h5, h6⟩ := m1.stay.kind o ob ho
  have : o ∈ R := (memB_iff R o).1 (h2 o (List.mem_range.2 (nth?_lt ho)))
  exact ⟨ob', by rw [keepO_at, Nat.zero_add, if_pos this]; exact h4, h5, h6⟩
 ·have h3' : ∀ k ∈ resRefs (datRes s r), k ∈ R := fun k hk => (memB_iff R k).1 (h3 k hk)
  cases r with
  | panic v =>
   cases e with
   | returned _ => exact hr.elim
   | outgrown => exact hr.elim
   | panicked ch =>
    obtain ⟨u, hu, hv⟩ := hr
    exact ⟨u, hu, VRep.keep hkp (md.vrep hv) (fun k hk => keepO_same (h3' k hk))⟩
  | ret vs =>
   cases e with
   | panicked ch => exact hr.elim
   | outgrown => exact hr.elim
   | returned v =>
    have key : ∀ us : List Value, VReps E σ' s w' (MB σ' s) vs us → VReps E σ' (keepO R 0 (datSt E s s.length)) w' (MB σ' (keepO R 0 (datSt E s s.length))) (datL E s s.length vs) us :=
     fun us hv => VReps.keep hkp (md.vreps (VReps.dat ok m.rep s.length hv)) (fun k hk => keepO_same (h3' k hk))
    show VRep E σ' _ w' _ (resVal E (datL E s s.length vs)) v
    have hr' : VRep E σ' s w' (MB σ' s) (resVal E vs) v := hr
    match vs, hr', key with
    | [], hr', key =>
     cases hr' with
     | data t d cs hv => cases hv
     | tup vs us h => exact .tup _ us (key us h)
    | [x], hr', key =>
     have := key [v] (.cons x [] v [] hr' .nil)
     cases this with
     | cons _ _ _ _ h _ => exact h
    | x :: y :: r, hr', key =>
     cases hr' with
     | data t d cs hv => cases hv
     | tup vs us h => exact .tup _ us (key us h)
end
end
end
open Go
noncomputable section
inductive Pre (R : Type) : Type 1 where
 | opt {X : Type} (t : Tree X) (k : X → Tree R)
 | tot {X : Type} (t : TT X) (k : X → Tree R)
 | bad
def Pre.spec {R : Type} : Pre R → Tree R
 | .opt t k => .opt t.get k
 | .tot t k => k t.val
 | .bad => .fail
def Tree.nf {R : Type} : Tree R → Tree R
 | .ite c t e => bif c then t.nf else e.nf
 | .opt o g => match o with
  | some x => (g x).nf
  | none => .fail
 | .ret a => .ret a
 | .fail => .fail
theorem Tree.nf_get {R : Type} : ∀ t : Tree R, t.nf.get = t.get
 | .ite c t e => by
  show (bif c then t.nf else e.nf).get = bif c then t.get else e.get
  cases c
  ·exact Tree.nf_get e
  ·exact Tree.nf_get t
 | .opt none g => rfl
 | .opt (some x) g => Tree.nf_get (g x)
 | .ret a => rfl
 | .fail => rfl
def Tree.got {R : Type} : Tree R → Option R
 | .ite c t e => bif c then t.got else e.got
 | .opt o g => o.bind fun x => (g x).got
 | .ret a => some a
 | .fail => none
theorem Tree.got_eq {R : Type} : ∀ t : Tree R, t.got = t.get
 | .ite c t e => by
  show (bif c then t.got else e.got) = bif c then t.get else e.get
  rw [Tree.got_eq t, Tree.got_eq e]
 | .opt o g => by
  show (o.bind fun x => (g x).got) = o.bind fun x => (g x).get
  congr 1
  funext x
  exact Tree.got_eq (g x)
 | .ret a => rfl
 | .fail => rfl
def Pre.full {R : Type} : Pre R → Tree R
 | .opt t k => t.bind fun x => (k x).nf
 | .tot t k => t.tree.bind fun x => (k x).nf
 | .bad => .fail
theorem Pre.get_eq {R : Type} (p : Pre R) : p.full.get = p.spec.get := by
 cases p with
 | opt t k => exact (Tree.get_bind t fun x => (k x).nf).trans (congrArg (Option.bind t.get) (funext fun x => Tree.nf_get (k x)))
 | tot t k => exact (TT.get_bind (fun x => (k x).nf) t).trans (Tree.nf_get _)
 | bad => rfl
section
variable {E : Env}
def PS.map {A B : Type 1} (f : A → B) : (q : List PS) → PS.Fn q A → PS.Fn q B
 | [], k => f k
 | .fld _ _ :: q, k => PS.map f q k
 | .idx _ _ :: q, k => PS.map f q k
 | .at_ _ :: q, k => fun n => PS.map f q (k n)
mutual
def Sh.map : (s : Sh) → {A B : Type 1} → (A → B) → Sh.Fn E s A → Sh.Fn E s B
 | .v _, _, _, f, k => fun x => f (k x)
 | .str _, _, _, f, k => f k
 | .nils, _, _, f, k => f k
 | .own _, _, _, f, k => f k
 | .ptr _ p, _, _, f, k => PS.map f p k
 | .nilptr, _, _, f, k => f k
 | .rptr _, _, _, f, k => fun x => f (k x)
 | .agg _ l, _, _, f, k => Sh.mapL l f k
 | .fn _ l, _, _, f, k => Sh.mapL l f k
 | .nilfn, _, _, f, k => f k
 | .ifc _ s, _, _, f, k => Sh.map s f k
 | .nilifc, _, _, f, k => f k
 | .undef, _, _, f, k => f k
termination_by structural x => x
def Sh.mapL : (l : List Sh) → {A B : Type 1} → (A → B) → Sh.FnL E l A → Sh.FnL E l B
 | [], _, _, f, k => f k
 | s :: r, _, _, f, k => Sh.map s (Sh.mapL r f) k
termination_by structural x => x
end
def ShO.map : (s : ShO) → {A B : Type 1} → (A → B) → ShO.Fn E s A → ShO.Fn E s B
 | .box _ s, _, _, f, k => Sh.map s f k
 | .arr _ _, _, _, f, k => fun xs => f (k xs)
 | .dead, _, _, f, k => f k
def ShO.mapL : (l : List ShO) → {A B : Type 1} → (A → B) → ShO.FnL E l A → ShO.FnL E l B
 | [], _, _, f, k => f k
 | s :: r, _, _, f, k => ShO.map s (ShO.mapL r f) k
theorem PS.rel_map {A B : Type 1} (f : A → B) : ∀ (q : List PS) (k : PS.Fn q A) {P : List Step → B → Prop}, PS.Rel q k (fun p a => P p (f a)) → PS.Rel q (PS.map f q k) P
 | [], k, P, h => h
 | .fld i j :: q, k, P, h => PS.rel_map f q k (P := fun p a => P (.fld i j :: p) a) h
 | .idx e n :: q, k, P, h => PS.rel_map f q k (P := fun p a => P (.idx e n :: p) a) h
 | .at_ e :: q, k, P, h => fun n => PS.rel_map f q (k n) (P := fun p a => P (.idx e n :: p) a) (h n)
mutual
theorem Sh.rel_map : ∀ (s : Sh) {A B : Type 1} (f : A → B) (k : Sh.Fn E s A) {P : DVal E.T → B → Prop}, Sh.Rel E s k (fun d a => P d (f a)) → Sh.Rel E s (Sh.map s f k) P
 | .v t, _, _, f, k, P, h => h
 | .str s, _, _, f, k, P, h => h
 | .nils, _, _, f, k, P, h => h
 | .own n, _, _, f, k, P, h => h
 | .ptr o p, _, _, f, k, P, h => PS.rel_map f p k (P := fun p a => P (.ptr o p) a) h
 | .nilptr, _, _, f, k, P, h => h
 | .rptr t, _, _, f, k, P, h => h
 | .agg i l, _, _, f, k, P, h => Sh.rel_mapL l f k (P := fun ds a => P (.agg i ds) a) h
 | .fn g l, _, _, f, k, P, h => Sh.rel_mapL l f k (P := fun ds a => P (.fn g ds) a) h
 | .nilfn, _, _, f, k, P, h => h
 | .ifc t s, _, _, f, k, P, h => Sh.rel_map s f k (P := fun d a => P (.ifc t d) a) h
 | .nilifc, _, _, f, k, P, h => h
 | .undef, _, _, f, k, P, h => trivial
theorem Sh.rel_mapL : ∀ (l : List Sh) {A B : Type 1} (f : A → B) (k : Sh.FnL E l A) {P : List (DVal E.T) → B → Prop}, Sh.RelL E l k (fun ds a => P ds (f a)) → Sh.RelL E l (Sh.mapL l f k) P
 | [], _, _, f, k, P, h => h
 | s :: r, _, _, f, k, P, h => by
  unfold Sh.RelL at h ⊢
  unfold Sh.mapL
  refine Sh.rel_map s (Sh.mapL r f) k (P := fun d k' => Sh.RelL E r k' fun ds a => P (d :: ds) a) ?_
  exact Sh.rel_mono s k (fun d k' h => Sh.rel_mapL r f k' (P := fun ds a => P (d :: ds) a) h) h
theorem Sh.rel_mono : ∀ (s : Sh) {A : Type 1} (k : Sh.Fn E s A) {P Q : DVal E.T → A → Prop}, (∀ d a, P d a → Q d a) → Sh.Rel E s k P → Sh.Rel E s k Q
 | .v t, _, k, P, Q, g, h => fun x => g _ _ (h x)
 | .str s, _, k, P, Q, g, h => g _ _ h
 | .nils, _, k, P, Q, g, h => g _ _ h
 | .own n, _, k, P, Q, g, h => g _ _ h
 | .ptr o p, _, k, P, Q, g, h => ps_mono p k (fun p a => g (.ptr o p) a) h
 | .nilptr, _, k, P, Q, g, h => g _ _ h
 | .rptr t, _, k, P, Q, g, h => fun x => g _ _ (h x)
 | .agg i l, _, k, P, Q, g, h => Sh.rel_monoL l k (fun ds a => g (.agg i ds) a) h
 | .fn f l, _, k, P, Q, g, h => Sh.rel_monoL l k (fun ds a => g (.fn f ds) a) h
 | .nilfn, _, k, P, Q, g, h => g _ _ h
 | .ifc t s, _, k, P, Q, g, h => Sh.rel_mono s k (fun d a => g (.ifc t d) a) h
 | .nilifc, _, k, P, Q, g, h => g _ _ h
 | .undef, _, k, P, Q, g, h => trivial
theorem Sh.rel_monoL : ∀ (l : List Sh) {A : Type 1} (k : Sh.FnL E l A) {P Q : List (DVal E.T) → A → Prop}, (∀ ds a, P ds a → Q ds a) → Sh.RelL E l k P → Sh.RelL E l k Q
 | [], _, k, P, Q, g, h => g _ _ h
 | s :: r, _, k, P, Q, g, h => by
  unfold Sh.RelL at h ⊢
  exact Sh.rel_mono s k (fun d k' h => Sh.rel_monoL r k' (fun ds a => g (d :: ds) a) h) h
theorem ps_mono {A : Type 1} : ∀ (q : List PS) (k : PS.Fn q A) {P Q : List Step → A → Prop}, (∀ p a, P p a → Q p a) → PS.Rel q k P → PS.Rel q k Q
 | [], k, P, Q, g, h => g _ _ h
 | .fld i j :: q, k, P, Q, g, h => ps_mono q k (fun p a => g (.fld i j :: p) a) h
 | .idx e n :: q, k, P, Q, g, h => ps_mono q k (fun p a => g (.idx e n :: p) a) h
 | .at_ e :: q, k, P, Q, g, h => fun n => ps_mono q (k n) (fun p a => g (.idx e n :: p) a) (h n)
end
theorem ShO.rel_mono (s : ShO) {A : Type 1} (k : ShO.Fn E s A) {P Q : Obj E.T → A → Prop} (g : ∀ d a, P d a → Q d a) (h : ShO.Rel E s k P) : ShO.Rel E s k Q := by
 cases s with
 | box ro s => exact Sh.rel_mono s k (fun d a => g (.box ro d) a) h
 | arr l e => exact fun xs => g _ _ (h xs)
 | dead => exact g _ _ h
theorem ShO.rel_map (s : ShO) {A B : Type 1} (f : A → B) (k : ShO.Fn E s A) {P : Obj E.T → B → Prop} (h : ShO.Rel E s k (fun d a => P d (f a))) : ShO.Rel E s (ShO.map s f k) P := by
 cases s with
 | box ro s => exact Sh.rel_map s f k (P := fun d a => P (.box ro d) a) h
 | arr l e => exact h
 | dead => exact h
theorem ShO.rel_monoL : ∀ (l : List ShO) {A : Type 1} (k : ShO.FnL E l A) {P Q : St E.T → A → Prop}, (∀ d a, P d a → Q d a) → ShO.RelL E l k P → ShO.RelL E l k Q
 | [], _, k, P, Q, g, h => g _ _ h
 | s :: r, _, k, P, Q, g, h => ShO.rel_mono s k (fun d k' h => ShO.rel_monoL r k' (fun ds a => g (d :: ds) a) h) h
theorem ShO.rel_mapL : ∀ (l : List ShO) {A B : Type 1} (f : A → B) (k : ShO.FnL E l A) {P : St E.T → B → Prop}, ShO.RelL E l k (fun d a => P d (f a)) → ShO.RelL E l (ShO.mapL l f k) P
 | [], _, _, f, k, P, h => h
 | s :: r, _, _, f, k, P, h => ShO.rel_map s (ShO.mapL r f) k (P := fun d k' => ShO.RelL E r k' fun ds a => P (d :: ds) a) (ShO.rel_mono s k (fun d k' h => ShO.rel_mapL r f k' (P := fun ds a => P (d :: ds) a) h) h)
structure GIns (E : Env) (A : Type 1) where
 args : List Sh
 objs : List ShO
 k : Sh.FnL E args (ShO.FnL E objs A)
def GIns.Rel {A : Type 1} (i : GIns E A) (P : List (DVal E.T) → St E.T → A → Prop) : Prop := Sh.RelL E i.args i.k fun ds k' => ShO.RelL E i.objs k' fun st a => P ds st a
def GIns.ins {A : Type 1} {X : Type} (f : A → Tree X) (i : GIns E A) : Ins E X := ⟨i.args, i.objs, Sh.mapL i.args (ShO.mapL i.objs f) i.k⟩
theorem GIns.rel_mono {A : Type 1} {i : GIns E A} {P Q : List (DVal E.T) → St E.T → A → Prop} (g : ∀ ds st a, P ds st a → Q ds st a) (h : i.Rel P) : i.Rel Q :=
 Sh.rel_monoL i.args i.k (fun ds k' h => ShO.rel_monoL i.objs k' (fun st a => g ds st a) h) h
theorem GIns.ins_rel {A : Type 1} {X : Type} {f : A → Tree X} {i : GIns E A} {P : List (DVal E.T) → St E.T → Tree X → Prop} (h : i.Rel fun ds st a => P ds st (f a)) : (i.ins f).Rel P :=
 Sh.rel_mapL i.args (ShO.mapL i.objs f) i.k (P := fun ds k' => ShO.RelL E i.objs k' fun st t => P ds st t) (Sh.rel_monoL i.args i.k (fun ds k' h => ShO.rel_mapL i.objs f k' (P := fun st t => P ds st t) h) h)
structure LPre (E : Env) where
 {V : Type}
 {X : Type}
 v : V
 step : V → Tree (V ⊕ X)
 hd : V → List (DVal E.T) × St E.T
 ex : X → Tree (DExit E.T × List (DVal E.T) × St E.T)
variable (E) in
def exOut (n : Nat) (d : List (FuncId × List (DVal E.T))) (rs : List Nat) (o : DExit E.T × List (DVal E.T) × St E.T) : Tree (CodeOut E) := .ret (o.1, ofSlots E n d rs o.2.1, o.2.2)
noncomputable def LPre.tree (n : Nat) (d : List (FuncId × List (DVal E.T))) (rs : List Nat) (p : LPre E) : Tree (CodeOut E) := .opt (N.iter (fun v => (p.step v).get) N.fuel p.v) fun x => (p.ex x).bind (exOut E n d rs)
def LPre.out (n : Nat) (d : List (FuncId × List (DVal E.T))) (ks rs : List Nat) (p : LPre E) : p.V ⊕ p.X → Tree (Sum (Fr E.T × St E.T) (CodeOut E))
 | .inl v => .ret (.inl (ofSlots E n d ks (p.hd v).1, (p.hd v).2))
 | .inr x => (p.ex x).nf.bind fun o => (exOut E n d rs o).bind fun q => .ret (.inr q)
structure GLp (E : Env) where
 ks : List Nat
 rs : List Nat := []
 mvs : List (Nat × Nat) := []
 pro : List Adj := []
 d : List (FuncId × List (DVal E.T)) := []
 ins : Option (List (GIns E (LPre E))) := none
noncomputable def GLp.info (n : Nat) (l : GLp E) : LpI E := { ks := l.ks, mvs := l.mvs, pro := l.pro, d := l.d, g := (match l.ins with | some is => some (insF (is.map (GIns.ins (LPre.tree n l.d l.rs)))) | none => none) }
def LFact (n : Nat) (stp : Fr E.T → St E.T → Tree (CodeOut E)) (l : GLp E) (i : GIns E (LPre E)) : Prop :=
 i.Rel fun ds st p => p.hd p.v = (ds, st) ∧ ∀ v, ((stp (ofSlots E n l.d l.ks (p.hd v).1) (p.hd v).2).bind (nx E l.ks l.mvs l.rs st.length)).get = ((p.step v).bind (p.out n l.d l.ks l.rs)).got
theorem lfact_ok {n : Nat} {stp : Fr E.T → St E.T → Tree (CodeOut E)} {l : GLp E} {i : GIns E (LPre E)} (h : LFact n stp l i) : InsLp n l.ks l.mvs l.d stp (i.ins (LPre.tree n l.d l.rs)) := by
 refine GIns.ins_rel (GIns.rel_mono (fun ds st p hp => ?_) h)
 obtain ⟨h1, h2⟩ := hp
 intro out ho
 have e1 : (p.hd p.v).1 = ds := by rw [h1]
 have e2 : (p.hd p.v).2 = st := by rw [h1]
 obtain ⟨x, hx, ho'⟩ := Option.bind_eq_some_iff.1 (show (N.iter (fun v => (p.step v).get) N.fuel p.v).bind (fun x => ((p.ex x).bind (exOut E n l.d l.rs)).get) = some out from ho)
 have := iter_loop (stp := stp) (ks := l.ks) (rs := l.rs) (mvs := l.mvs) (n := st.length) (step := fun v => (p.step v).get) (hd := fun v => ofSlots E n l.d l.ks (p.hd v).1) (sv := fun v => (p.hd v).2) (ex := fun x => (p.ex x).bind (exOut E n l.d l.rs)) (fun v => by
  rw [h2 v, Tree.got_eq, Tree.get_bind]
  congr 1
  funext s
  cases s with
  | inl v' => rfl
  | inr y =>
   refine Eq.trans (b := ((p.ex y).bind (exOut E n l.d l.rs)).get.map Sum.inr) ?_ rfl
   show ((p.ex y).nf.bind fun o => (exOut E n l.d l.rs o).bind fun q => (Tree.ret (Sum.inr q) : Tree (Sum (Fr E.T × St E.T) (CodeOut E)))).get = _
   rw [Tree.get_bind, Tree.get_bind, Tree.nf_get]
   cases (p.ex y).get with
   | none => rfl
   | some o => rfl) N.fuel p.v hx ho'
 rw [e1, e2] at this
 exact this
def AllLF (n : Nat) (stp : Fr E.T → St E.T → Tree (CodeOut E)) (l : GLp E) : List (GIns E (LPre E)) → Prop
 | [] => True
 | i :: r => LFact n stp l i ∧ AllLF n stp l r
theorem allLF_ok {n : Nat} {stp : Fr E.T → St E.T → Tree (CodeOut E)} {l : GLp E} : ∀ {is : List (GIns E (LPre E))}, AllLF n stp l is → AllLp n l.ks l.mvs l.d stp (is.map (GIns.ins (LPre.tree n l.d l.rs)))
 | [], _ => trivial
 | i :: r, h => ⟨lfact_ok h.1, allLF_ok h.2⟩
def LpF (n : Nat) (stp : Fr E.T → St E.T → Tree (CodeOut E)) (l : GLp E) : Prop :=
 match l.ins with
 | some is => AllLF n stp l is
 | none => True
def LpsF (n : Nat) (stp : Nat → Fr E.T → St E.T → Tree (CodeOut E)) : Nat → List (GLp E) → Prop
 | _, [] => True
 | k, l :: r => LpF n (stp k) l ∧ LpsF n stp (k + 1) r
theorem lpAt_map {n : Nat} : ∀ (ls : List (GLp E)) (k : Nat), lpAt (ls.map (GLp.info n)) k = (ls[k]?).map (GLp.info n)
 | [], _ => by simp [lpAt]
 | l :: r, 0 => rfl
 | l :: r, k + 1 => by
  have := lpAt_map (n := n) r k
  simpa [lpAt] using this
theorem lpsF_at {n : Nat} {stp : Nat → Fr E.T → St E.T → Tree (CodeOut E)} : ∀ {ls : List (GLp E)} {j : Nat}, LpsF n stp j ls → ∀ {k : Nat} {l : GLp E}, ls[k]? = some l → LpF n (stp (j + k)) l
 | [], j, h, k, l, hk => by simp at hk
 | a :: r, j, h, 0, l, hk => by cases hk; exact h.1
 | a :: r, j, h, k + 1, l, hk => by
  have := lpsF_at h.2 (k := k) (l := l) (by simpa using hk)
  rwa [show j + 1 + k = j + (k + 1) by omega] at this
structure GFn (E : Env) where
 S : List (Nat × Spec E) := []
 D : List (Nat × DSpec E) := []
 ls : List (GLp E) := []
 rs : List (Nat × List Adj) := []
 keep : Bool := false
 i : GIns E (Pre (Res E.T × St E.T))
noncomputable def GFn.L (x : GFn E) (fn : Func) : Nat → LoopInfo E := clL E fn.ntmps (x.ls.map (GLp.info fn.ntmps)) x.rs
noncomputable def GFn.B (x : GFn E) (fn : Func) : List (DVal E.T) → St E.T → Tree (Res E.T × St E.T) := dbody E (lookS x.S) (lookD x.D) (x.L fn) 0 x.keep fn
def GFn.ins (x : GFn E) : Ins E (Res E.T × St E.T) := x.i.ins Pre.spec
def GFn.Loops (x : GFn E) (fn : Func) : Prop := LpsF fn.ntmps (fun k => stepOf E x.S (x.L fn) 0 k fn) 0 x.ls
def GFact (B : List (DVal E.T) → St E.T → Tree (Res E.T × St E.T)) (i : GIns E (Pre (Res E.T × St E.T))) : Prop := i.Rel fun ds st p => (B ds st).get = p.full.got
variable {P : Program}
theorem gIns_ok {f : FuncId} {B : List (DVal E.T) → St E.T → Tree (Res E.T × St E.T)} {i : GIns E (Pre (Res E.T × St E.T))} (hB : FnOk P E f B) (h : GFact B i) : InsOk P f (i.ins Pre.spec) :=
 ⟨B, hB, GIns.ins_rel (GIns.rel_mono (fun ds st p hp out ho => by rw [hp, Tree.got_eq, Pre.get_eq]; exact ho) h)⟩
theorem gLoops_at {x : GFn E} {fn : Func} (hL : x.Loops fn) : ∀ k g, (x.L fn k).closed = some g → ∀ fr st out, (g fr st).get = some out → ∃ m fr', (loopT E (stepOf E x.S (x.L fn) 0 k fn) (x.L fn k).keep (x.L fn k).mvs st.length m fr st).get = some (out.1, fr', out.2.2) ∧ Weak out.2.1 fr' := by
 intro k g hg fr st out ho
 have hlk : x.L fn k = clL E fn.ntmps (x.ls.map (GLp.info fn.ntmps)) x.rs k := rfl
 cases hl : x.ls[k]? with
 | none =>
  have : lpAt (x.ls.map (GLp.info fn.ntmps)) k = none := by rw [lpAt_map, hl]; rfl
  rw [hlk] at hg
  unfold clL at hg
  rw [this] at hg
  cases hg
 | some l =>
  have e : lpAt (x.ls.map (GLp.info fn.ntmps)) k = some (l.info fn.ntmps) := by rw [lpAt_map, hl]; rfl
  have hF := lpsF_at hL hl
  rw [Nat.zero_add] at hF
  have hk : (x.L fn k).keep = l.ks ∧ (x.L fn k).mvs = l.mvs := by
   rw [hlk]; unfold clL; rw [e]; exact ⟨rfl, rfl⟩
  rw [hk.1, hk.2]
  rw [hlk] at hg
  unfold clL at hg
  rw [e] at hg
  unfold GLp.info at hg
  unfold LpF at hF
  cases hi : l.ins with
  | none => simp only [hi] at hg; cases hg
  | some is =>
   simp only [hi] at hg hF
   cases hg
   exact lp_ok (allLF_ok hF) fr st out ho
theorem GFn.body_ok (HS : Sound P E) (hmix : P.follows .mixedOrders = true) {x : GFn E} {f : FuncId} {fn : Func} {c : Code} (hf : P.funcs[f]? = some fn) (hb : fn.body = some c) (hS : AllS P E x.S) (hD : AllD P E x.D) (hL : x.Loops fn) : FnOk P E f (x.B fn) :=
 bodyC_ok HS hmix hS hD hf hb (gLoops_at hL)
theorem GFn.ok (HS : Sound P E) (hmix : P.follows .mixedOrders = true) {x : GFn E} {f : FuncId} {fn : Func} {c : Code} (hf : P.funcs[f]? = some fn) (hb : fn.body = some c) (hS : AllS P E x.S) (hD : AllD P E x.D) (hL : x.Loops fn) (h : GFact (x.B fn) x.i) : InsOk P f x.ins :=
 gIns_ok (GFn.body_ok HS hmix hf hb hS hD hL) h
theorem GFn.okF (HS : Sound P E) (hmix : P.follows .mixedOrders = true) {x : GFn E} {f : FuncId} {fn : Func} {c : Code} (hf : P.funcs[f]? = some fn) (hb : fn.body = some c) (hS : AllS P E x.S) (hD : AllD P E x.D) (hL : x.Loops fn) (h : GFact (tidyF (x.B fn)) x.i) : InsOk P f x.ins :=
 gIns_ok (tidy_fn HS.toEnvOk (GFn.body_ok HS hmix hf hb hS hD hL)) h
def Tup (E : Env) : List Ty → Type
 | [] => Unit
 | [t] => I E.T t
 | t :: r => I E.T t × Tup E r
def valsOf : (ts : List Ty) → Tup E ts → List (DVal E.T)
 | [], _ => []
 | [t], x => [.val t x]
 | t :: t' :: r, x => .val t x.1 :: valsOf (t' :: r) x.2
def stdI (ps rs : List Ty) (g : Sh.FnL E (ps.map .v) (Tree (Tup E rs))) : GIns E (Pre (Res E.T × St E.T)) := ⟨ps.map .v, [], Sh.mapL (ps.map .v) (fun t => Pre.opt t fun x => .ret (.ret (valsOf rs x), [])) g⟩
end
end
open Go
noncomputable section
def isD (E : Env) (t : TypeId) (ty : Ty) : Bool :=
 match E.tk t with
 | .data ty' => tyEqb ty' ty
 | _ => false
theorem isD_eq {E : Env} {t : TypeId} {ty : Ty} (h : isD E t ty = true) : E.tk t = .data ty := by
 unfold isD at h
 split at h
 ·rename_i ty' e; rw [e, tyEqb_eq h]
 ·cases h
def fldsB (E : Env) (i : Nat) : Nat → List Ty → List Field → Bool
 | _, [], [] => true
 | j, ty :: ts, f :: fs => isD E f.type ty && (decide (f.offset = E.foff i j) && (!(Nat.beq (E.size ty) 0) && (decide (f.name ≠ "_") && fldsB E i (j + 1) ts fs)))
 | _, _, _ => false
theorem fldsB_at {E : Env} {i : Nat} : ∀ (ts : List Ty) (fs : List Field) (j : Nat), fldsB E i j ts fs = true → fs.length = ts.length ∧ ∀ (q : Nat) (f : Field), fs[q]? = some f → ∃ ty, nth? ts q = some ty ∧ E.tk f.type = .data ty ∧ f.offset = E.foff i (j + q) ∧ E.size ty ≠ 0 ∧ f.name ≠ "_"
 | [], [], j, h => ⟨rfl, fun q f hq => by simp at hq⟩
 | [], _ :: _, j, h => by cases h
 | _ :: _, [], j, h => by cases h
 | ty :: ts, f :: fs, j, h => by
  simp only [fldsB, Bool.and_eq_true] at h
  obtain ⟨h1, h2, h3, h4, h5⟩ := h
  obtain ⟨a, b⟩ := fldsB_at ts fs (j + 1) h5
  refine ⟨by simp [a], fun q g hq => ?_⟩
  cases q with
  | zero =>
   cases hq
   refine ⟨ty, rfl, isD_eq h1, of_decide_eq_true h2, fun h0 => ?_, of_decide_eq_true h4⟩
   rw [h0] at h3
   cases h3
  | succ q =>
   obtain ⟨ty', c1, c2, c3, c4⟩ := b q g (by simpa using hq)
   exact ⟨ty', c1, c2, by rw [c3, show j + 1 + q = j + (q + 1) by omega], c4⟩
def descB (P : Program) (E : Env) (t : TypeId) (ty : Ty) : Bool :=
 match ty, P.underlying t with
 | .bool, some .bool => true
 | .int k, some (.int k') => decide (k' = k)
 | .str, some .string => true
 | .slice e, some (.slice te) => isD E te e
 | .arr n e, some (.array n' te) => Nat.beq n' n && isD E te e
 | .named i, some (.struct fs) => fldsB E i 0 (E.fields i) fs.toList
 | _, _ => false
theorem descB_ok {P : Program} {E : Env} {t : TypeId} {ty : Ty} (h : descB P E t ty = true) : Desc P E t ty := by
 unfold descB at h
 split at h
 ·rename_i e; exact e
 ·rename_i k k' e
  have := of_decide_eq_true h
  subst this
  exact e
 ·rename_i e; exact e
 ·rename_i e' te e; exact ⟨te, e, isD_eq h⟩
 ·rename_i n e' n' te e
  rw [Bool.and_eq_true] at h
  have := Nat.eq_of_beq_eq_true h.1
  subst this
  exact ⟨te, e, isD_eq h.2⟩
 ·rename_i i fs e
  obtain ⟨a, b⟩ := fldsB_at _ _ 0 h
  refine ⟨fs, e, by rw [← Array.length_toList, a], fun j f hj => ?_⟩
  obtain ⟨ty, c1, c2, c3, c4⟩ := b j f (by rw [Array.getElem?_toList]; exact hj)
  exact ⟨ty, c1, c2, by rw [c3, Nat.zero_add], c4⟩
 ·cases h
def tkB (P : Program) (E : Env) (t : TypeId) (k : TK) : Bool :=
 match k, P.info? t with
 | .other, _ => true
 | .data ty, some i => Nat.beq i.size (E.size ty) && (Nat.ble i.bytes 8192 && (zOk E depth ty && descB P E t ty))
 | .ptr, some i => Nat.beq i.size 1 && (match P.underlying t with | some (.pointer _) => true | _ => false)
 | .func, some i => Nat.beq i.size 1 && (match P.underlying t with | some (.func _ _ _) => true | _ => false)
 | .iface, some i => Nat.beq i.size 1 && (match P.underlying t with | some (.interface _) => true | _ => false)
 | _, none => false
def tbB (P : Program) (E : Env) : Nat → List TK → Bool
 | _, [] => true
 | t, k :: r => tkB P E t k && tbB P E (t + 1) r
def zeroL (P : Program) : Nat → List TK → List (Option (Option Value))
 | _, [] => []
 | t, .other :: r => none :: zeroL P (t + 1) r
 | t, _ :: r => (P.info? t).map (·.zero) :: zeroL P (t + 1) r
def zeroR (E : Env) : List TK → List (Option (Option Value))
 | [] => []
 | .other :: r => none :: zeroR E r
 | .data ty :: r => some (some (toV ty (zeroC E depth ty))) :: zeroR E r
 | .ptr :: r => some (some (.pointer none)) :: zeroR E r
 | .func :: r => some (some .nilFunc) :: zeroR E r
 | .iface :: r => some (some .nilIface) :: zeroR E r
theorem tkAll_of {P : Program} {E : Env} : ∀ (l : List TK) (t : Nat), tbB P E t l = true → zeroL P t l = zeroR E l → TkAll P E t l
 | [], _, _, _ => trivial
 | k :: r, t, h, hz => by
  simp only [tbB, Bool.and_eq_true] at h
  obtain ⟨h1, h2⟩ := h
  cases k with
  | other => exact ⟨trivial, tkAll_of r (t + 1) h2 (by simp only [zeroL, zeroR, List.cons.injEq] at hz; exact hz.2)⟩
  | data ty =>
   simp only [zeroL, zeroR, List.cons.injEq] at hz
   refine ⟨?_, tkAll_of r (t + 1) h2 hz.2⟩
   unfold tkB at h1
   cases hi : P.info? t with
   | none => rw [hi] at h1; cases h1
   | some i =>
    rw [hi] at h1 hz
    simp only [Bool.and_eq_true] at h1
    exact tym_of hi (Nat.eq_of_beq_eq_true h1.1) (Nat.le_of_ble_eq_true h1.2.1) (Option.some.inj hz.1) (descB_ok h1.2.2.2) h1.2.2.1
  | ptr =>
   simp only [zeroL, zeroR, List.cons.injEq] at hz
   refine ⟨?_, tkAll_of r (t + 1) h2 hz.2⟩
   unfold tkB at h1
   cases hi : P.info? t with
   | none => rw [hi] at h1; cases h1
   | some i =>
    rw [hi] at h1 hz
    simp only [Bool.and_eq_true] at h1
    obtain ⟨a, b⟩ := h1
    split at b
    ·rename_i e he; exact ⟨⟨_, he⟩, i, hi, Nat.eq_of_beq_eq_true a, Option.some.inj hz.1⟩
    ·cases b
  | func =>
   simp only [zeroL, zeroR, List.cons.injEq] at hz
   refine ⟨?_, tkAll_of r (t + 1) h2 hz.2⟩
   unfold tkB at h1
   cases hi : P.info? t with
   | none => rw [hi] at h1; cases h1
   | some i =>
    rw [hi] at h1 hz
    simp only [Bool.and_eq_true] at h1
    obtain ⟨a, b⟩ := h1
    split at b
    ·rename_i e he; exact ⟨⟨_, _, _, he⟩, i, hi, Nat.eq_of_beq_eq_true a, Option.some.inj hz.1⟩
    ·cases b
  | iface =>
   simp only [zeroL, zeroR, List.cons.injEq] at hz
   refine ⟨?_, tkAll_of r (t + 1) h2 hz.2⟩
   unfold tkB at h1
   cases hi : P.info? t with
   | none => rw [hi] at h1; cases h1
   | some i =>
    rw [hi] at h1 hz
    simp only [Bool.and_eq_true] at h1
    obtain ⟨a, b⟩ := h1
    split at b
    ·rename_i e he; exact ⟨⟨_, he⟩, i, hi, Nat.eq_of_beq_eq_true a, Option.some.inj hz.1⟩
    ·cases b
end
open Go
noncomputable section
def headC : Code → List Code → Option (Array Oper × List Code)
 | .region _ ops false, k => some (ops, k)
 | .seq a b, k => headC a (b :: k)
 | _, _ => none
section
variable (E : Env)
def dcodes (S : FuncId → Option (Spec E)) (L : Nat → LoopInfo E) (N : Nat) : Nat → List Code → Fr E.T → St E.T → Tree (CodeOut E)
 | _, [], fr, st => .ret (.normal, fr, st)
 | i, c :: r, fr, st => (dcode E S L N i c fr st).bind fun p => match p.1 with
  | .normal => dcodes S L N (i + nLoops c) r p.2.1 p.2.2
  | e => .ret (e, p.2.1, p.2.2)
def dbodyE (S : FuncId → Option (Spec E)) (L : Nat → LoopInfo E) (N : Nat) (fn : Func) (args : List (DVal E.T)) (st : St E.T) (pan : Option (DVal E.T)) : Tree (Bool × St E.T) :=
 Tree.need fn.results.toList.isEmpty <| match fn.body with
 | some c0 => match headC c0 [] with
  | some (ops, k) => match ops.toList with
   | o :: r =>
    match o.op, o.guard with
    | .call { callee := .builtin .recover, .. }, none =>
     (dops E S ops.toList r (put E (frame E fn args) o.dst (panVal E pan)) st).bind fun
     | .panic _ _ _ => .fail
     | .done fr1 st1 => (dcodes E S L N 0 k fr1 st1).bind fun p => match p.1 with
      | .normal => finD E st.length pan p.2.1 p.2.2
      | .ret => finD E st.length pan p.2.1 p.2.2
      | _ => .fail
    | _, _ => .fail
   | [] => .fail
  | none => .fail
 | none => .fail
end
section
variable {P : Program} {E : Env}
abbrev QS := Exit → Act → List Frame → World → Prop
def thenK (P : Program) (Q : QS) : List Code → QS
 | [] => Q
 | c :: k => Exit.thenS (c.wpS P (thenK P Q k)) (thenK P Q k)
theorem thenK_other {Q : QS} {e : Exit} {a : Act} {cs : List Frame} {w : World} (he : e ≠ .normal) (h : Q e a cs w) : ∀ k, thenK P Q k e a cs w
 | [] => h
 | c :: k => by
  have := thenK_other he h k
  cases e with
  | normal => exact absurd rfl he
  | _ => exact this
theorem headC_ok {Q : QS} {a : Act} {cs : List Frame} {w : World} {ops : Array Oper} {k' : List Code} : ∀ (c0 : Code) (k : List Code), headC c0 k = some (ops, k') → wpOpsS P ops (thenK P Q k') (List.range ops.size) a cs w → c0.wpS P (thenK P Q k) a cs w
 | .region _ o false, k, h, hw => by cases h; exact wpS_region hw
 | .region _ o true, k, h, hw => by cases h
 | .seq x y, k, h, hw => wpS_seq (headC_ok x (y :: k) h hw)
 | .skip, _, h, _ => by cases h
 | .cond _ _ _, _, h, _ => by cases h
 | .loop _, _, h, _ => by cases h
 | .block _ _, _, h, _ => by cases h
 | .exit _, _, h, _ => by cases h
 | .ret, _, h, _ => by cases h
 | .rangeFunc _ _ _ _, _, h, _ => by cases h
 | .scope _, _, h, _ => by cases h
 | .label _, _, h, _ => by cases h
 | .goto _, _, h, _ => by cases h
 | .refuse _, _, h, _ => by cases h
def LoopsOkL (S : FuncId → Option (Spec E)) (L : Nat → LoopInfo E) (N : Nat) : Nat → List Code → Prop
 | _, [] => True
 | i, c :: k => LoopsOk S L N i c ∧ LoopsOkL S L N (i + nLoops c) k
theorem headC_loops {S : FuncId → Option (Spec E)} {L : Nat → LoopInfo E} {N : Nat} {ops : Array Oper} {k' : List Code} : ∀ (c0 : Code) (k : List Code) (i : Nat), headC c0 k = some (ops, k') → LoopsOk S L N i c0 → LoopsOkL S L N (i + nLoops c0) k → LoopsOkL S L N i k'
 | .region _ o false, k, i, h, hc, hk => by cases h; exact hk
 | .region _ o true, k, i, h, hc, hk => by cases h
 | .seq x y, k, i, h, hc, hk => headC_loops x (y :: k) i h hc.1 ⟨hc.2, by simpa [nLoops, Nat.add_assoc] using hk⟩
 | .skip, _, _, h, _, _ => by cases h
 | .cond _ _ _, _, _, h, _, _ => by cases h
 | .loop _, _, _, h, _, _ => by cases h
 | .block _ _, _, _, h, _, _ => by cases h
 | .exit _, _, _, h, _, _ => by cases h
 | .ret, _, _, h, _, _ => by cases h
 | .rangeFunc _ _ _ _, _, _, h, _, _ => by cases h
 | .scope _, _, _, h, _, _ => by cases h
 | .label _, _, _, h, _, _ => by cases h
 | .goto _, _, _, h, _, _ => by cases h
 | .refuse _, _, _, h, _, _ => by cases h
theorem dcodes_ok (HS : Sound P E) (hmix : P.follows .mixedOrders = true) {S : FuncId → Option (Spec E)} (HC : CallOk P E S) {L : Nat → LoopInfo E} {N : Nat} {Q : QS} {cs : List Frame} : ∀ (k : List Code) (i : Nat) {fr : Fr E.T} {st : St E.T} {a : Act} {w : World} {σ : Sg} {out : CodeOut E}, LoopsOkL S L N i k →
  StRep E σ st w → FrRep E σ st w fr a → (dcodes E S L N i k fr st).get = some out → PostC E σ st w (fun e a w => Q e a cs w) out → thenK P Q k .normal a cs w
 | [], i, fr, st, a, w, σ, out, hL, hst, hfr, h, hp => by
  cases h
  exact hp σ w a _ (Mf.refl hst) hfr .normal
 | c :: k, i, fr, st, a, w, σ, out, hL, hst, hfr, h, hp => by
  simp only [dcodes] at h
  obtain ⟨⟨e, fr1, st1⟩, h1, h2⟩ := Tree.get_bind_some h
  show c.wpS P (thenK P Q k) a cs w
  refine wpS_of_wp (dcode_ok HS hmix HC c i hL.1 hst hfr h1 (fun σ' w' a' x m hfr' hx => ?_))
  cases hx with
  | normal => exact dcodes_ok HS hmix HC k (i + nLoops c) hL.2 m.rep hfr' h2 (hp.later m)
  | exit id => cases h2; exact thenK_other (by intro h; cases h) (hp σ' w' a' _ m hfr' (.exit id)) k
  | ret => cases h2; exact thenK_other (by intro h; cases h) (hp σ' w' a' _ m hfr' .ret) k
  | panic v u hv => cases h2; exact thenK_other (by intro h; cases h) (hp σ' w' a' _ m hfr' (.panic v u hv)) k
theorem dbodyE_ok (HS : Sound P E) (hmix : P.follows .mixedOrders = true) {S : FuncId → Option (Spec E)} (HC : CallOk P E S) {L : Nat → LoopInfo E} {N : Nat} {f : FuncId} {fn : Func} {c0 : Code}
  (hf : P.funcs[f]? = some fn) (hb : fn.body = some c0) (hL : LoopsOk S L N 0 c0) (hent : Enters P f) : DSpecOk P E f (dbodyE E S L N fn) := by
 refine ⟨hent, ?_⟩
 intro σ st w ds us pan u b st' hst hds hpan h
 unfold dbodyE at h
 obtain ⟨hres, h⟩ := Tree.get_need h
 have hres' : fn.results = #[] := by
  rw [List.isEmpty_iff] at hres
  exact Array.toList_eq_nil_iff.1 hres
 rw [hb] at h
 simp only at h
 split at h
 ·rename_i ops k hhead
  split at h
  ·rename_i o r hops
   split at h
   ·rename_i args ats hop hg
    obtain ⟨out, h1, h2⟩ := Tree.get_bind_some h
    cases out with
    | panic v fr st => cases h2
    | done fr1 st1 =>
     obtain ⟨⟨e, fr2, st2⟩, h3, h4⟩ := Tree.get_bind_some h2
     have hfr0 := frame_ok (fn := fn) hds
     have hi0 : ops[0]? = some o := by rw [← Array.getElem?_toList, hops]; rfl
     refine callsD_of_wpS hf hb (fun c₀ cs hm => ?_)
     obtain ⟨uv, cs', hrec, hcs, hfr1, hor⟩ : ∃ (uv : Value) (u' : FrameMode), (match recoverD (c₀ :: cs) with | some (v, cs') => v = uv ∧ cs' = { c₀ with mode := u' } :: cs | none => uv = .nilIface ∧ (c₀ :: cs) = { c₀ with mode := u' } :: cs) ∧ True ∧
       FrRep E σ st w (put E (frame E fn ds) o.dst (panVal E pan)) (({ tmps := us.toArray ++ Array.replicate (fn.ntmps - us.toArray.size) undef, defers := [] } : Act).put o.dst uv) ∧
       ((panB E pan = true ∧ settle u' = .returning) ∨ (panB E pan = false ∧ u' = u)) := by
      cases hpan with
      | none =>
       refine ⟨.nilIface, .returning, ?_, trivial, put_ok hfr0 o.dst .nilifc, .inr ⟨rfl, rfl⟩⟩
       have : recoverD (c₀ :: cs) = none := by simp [recoverD, hm]
       rw [this]
       refine ⟨rfl, ?_⟩
       rw [← hm]
      | some v uv hv =>
       refine ⟨uv, .panicking [{ v := uv, recovered := true }], ?_, trivial, put_ok hfr0 o.dst hv, .inl ⟨rfl, rfl⟩⟩
       have : recoverD (c₀ :: cs) = some (uv, { c₀ with mode := .panicking [{ v := uv, recovered := true }] } :: cs) := by simp [recoverD, hm]
       rw [this]
       exact ⟨rfl, rfl⟩
     let QQ : QS := bodyPostS P fn c₀ cs (fun e u' w' => (∃ v, e = .returned v) ∧ ∃ σ', Mf σ σ' st st' w w' ∧ ((b = true ∧ settle u' = .returning) ∨ (b = false ∧ u' = u)))
     refine headC_ok (Q := QQ) c0 [] hhead ?_
     have hsz : ops.size = r.length + 1 := by rw [← Array.length_toList, hops]; rfl
     rw [hsz, List.range_eq_range', List.range'_succ]
     simp only [wpOpsS, hi0]
     rw [if_pos (by unfold Region.wanted; rw [hg])]
     have hrunR : (execOp ({ tmps := us.toArray ++ Array.replicate (fn.ntmps - us.toArray.size) undef, defers := [] } : Act).eval o).run P w = .ok .recover w := by
      unfold execOp
      simp only [hop, resolve, Sem.run_bind, Sem.run_pure, Result.andThen_ok, invoke, builtin]
     have hloops : LoopsOkL S L N 0 k := headC_loops c0 [] 0 hhead hL trivial
     have rest : wpOpsS P ops (thenK P QQ k) (List.range' 1 r.length) (({ tmps := us.toArray ++ Array.replicate (fn.ntmps - us.toArray.size) undef, defers := [] } : Act).put o.dst uv) ({ c₀ with mode := cs' } :: cs) w := by
      have hnot : ∀ k a w, ¬ thenK P QQ k .outgrown a ({ c₀ with mode := cs' } :: cs) w := by
       intro k
       induction k with
       | nil => intro a w h; obtain ⟨u', ⟨v, hv⟩, _⟩ := h; cases hv
       | cons c k ih => exact fun a w h => ih a w h
      refine opsS_of (fun a w h => hnot k a w h) _ _ _ ?_
      ·refine dops_ok HS HC r 1 (by rw [hops]; rfl) hst hfr1 h1 ?_
       intro σ1 w1 a1 m1 hfr1'
       refine dcodes_ok HS hmix HC k 0 hloops m1.rep hfr1' h3 ?_
       intro σ2 w2 a2 x m2 hfr2 hx
       have fin : ∀ (fr : Fr E.T) (st2' : St E.T), (finD E st.length pan fr st2').get = some (b, st') → Mf σ σ2 st st2' w w2 → FrRep E σ2 st2' w2 fr a2 →
         a2.defers = [] ∧ ∃ u', ({ c₀ with mode := cs' } :: cs) = { c₀ with mode := u' } :: cs ∧ ∃ v, (results fn a2.tmps).run P w2 = .ok v w2 ∧ (∃ v', Ending.returned v = .returned v') ∧ ∃ σ', Mf σ σ' st st' w w2 ∧ ((b = true ∧ settle u' = .returning) ∨ (b = false ∧ u' = u)) := by
        intro fr st2' hfin mm hff
        unfold finD at hfin
        split at hfin
        ·rename_i hfd
         obtain ⟨hlt, hfin⟩ := Tree.get_need hfin
         cases hfin
         have hdd := hff.d
         rw [hfd] at hdd
         obtain ⟨mf, _⟩ := freeze_ok (List.range' st.length (st2'.length - st.length)) mm.rep
         have mm2 := mm.trans (mf.trans (Mv.dat HS.toEnvOk mf.rep st.length)).f
         refine ⟨by generalize a2.defers = dd at hdd; cases hdd; rfl, cs', rfl, .tuple #[], by simp [results, hres'], ⟨_, rfl⟩, σ2, Mf.take mm2 (take_rep mm2.rep (blt_all hlt)), hor⟩
        ·cases hfin
       cases hx with
       | normal => exact fin fr2 st2 h4 (m1.trans m2) hfr2
       | ret => exact fin fr2 st2 h4 (m1.trans m2) hfr2
       | exit id => cases h4
       | panic v u hv => cases h4
     rw [hrunR]
     simp only
     cases hrd : recoverD (c₀ :: cs) with
     | none =>
      rw [hrd] at hrec
      obtain ⟨rfl, hcs2⟩ := hrec
      simp only
      rw [hcs2]
      exact rest
     | some p =>
      obtain ⟨v, cs2⟩ := p
      rw [hrd] at hrec
      obtain ⟨rfl, rfl⟩ := hrec
      exact rest
   ·cases h
  ·cases h
 ·cases h
theorem dfullE_ok {P : Program} (HS : Sound P E) (hmix : P.follows .mixedOrders = true) {S : List (Nat × Spec E)} (hS : AllS P E S) {L : Nat → LoopInfo E} (hL : ∀ i, (L i).closed = none) {N : Nat} {f : FuncId} {fn : Func} {c : Code}
  (hen : Enters P f) (hf : P.funcs[f]? = some fn) (hb : fn.body = some c) : DSpecOk P E f (dbodyE E (lookS S) L N fn) :=
 dbodyE_ok HS hmix (callOk HS (lookS_ok hS)) hf hb (loopsOk_open hL c 0) hen
end
end
open Go
noncomputable section
@[reducible] def Ty.i6 : Ty := .int .i64
@[reducible] def Sh.iv : Sh := .v (.int .i64)
@[reducible] def DVal.iv {T : Nat → Type} (x : I T (.int .i64)) : DVal T := .val (.int .i64) x
@[reducible] def DVal.sv {T : Nat → Type} (x : I T .str) : DVal T := .val .str x
@[reducible] def DVal.bv {T : Nat → Type} (x : I T .bool) : DVal T := .val .bool x
@[reducible] def DVal.nv {T : Nat → Type} (i : Nat) (x : I T (.named i)) : DVal T := .val (.named i) x
@[reducible] def ShO.bx (s : Sh) : ShO := .box false s
@[reducible] def ShO.al (e : Ty) : ShO := .arr .live e
@[reducible] def Obj.bx {T : Nat → Type} (c : DVal T) : Obj T := .box false c
@[reducible] def Obj.al {T : Nat → Type} (e : Ty) (xs : List (I T e)) : Obj T := .arr .live e xs
end
open Go Go.RowKit
noncomputable section
section
variable {P : Program} {E : Env} {w w' : World} {σ : Sg} {st : St E.T} {M : Nat → Prop}
theorem below_mf (hst : StRep E σ st w) (h : Below w.heap.size w w') : Mf σ σ st st w w' := (Mv.still hst h.os h.tape h.output h.size h.block).f
theorem str_val {s : List UInt8} (h : s.length ≤ lim) : VRep E σ st w M (.val .str s) (.string ⟨s.toArray⟩) := by
 have h1 : CRep E w M .str (ByteArray.mk s.toArray).data.toList [.string ⟨s.toArray⟩] := CRep.str _ (by simpa [ByteArray.size] using h)
 exact .data .str _ _ (.val .str _ _ h1)
def repS (E : Env) : List (DVal E.T) → Tree (Res E.T)
 | [.val .str s, .val (.int .i64) n] => .ite (N.repOk (α := UInt8) s n) (.ret (.ret [.val .str (N.repL (α := UInt8) s n)])) .fail
 | _ => .fail
theorem repeatL_eq (l : List UInt8) : ∀ c, Lib.repeatL l c = (List.replicate c l).flatten
 | 0 => rfl
 | c + 1 => by rw [Lib.repeatL, List.replicate_succ, List.flatten_cons, repeatL_eq l c]
theorem rep_ok {f : FuncId} (hen : Enters P f)
  (hc : ∀ (s : ByteArray) (c : Nat) (w : World), c ≤ 9223372036854775807 → s.size * c ≤ 140737488355328 → Calls P f #[.string s, .int .i64 c] w fun e w' => e = .returned (.string ⟨(Lib.repeatL s.data.toList c).toArray⟩) ∧ Below w.heap.size w w') :
  SpecOk P E f (.pure [.str, .int .i64] (repS E)) := by
 refine ⟨hen, fun {σ w ds us r} hst hds hr => ?_⟩
 unfold repS at hr
 split at hr
 ·rename_i s n
  simp only [Tree.get] at hr
  cases hk : N.repOk (α := UInt8) s n with
  | false => rw [hk] at hr; cases hr
  | true =>
   rw [hk] at hr
   cases hr
   cases hds with
   | cons v r u us h1 h2 =>
    cases h2 with
    | cons v r u2 us h2 h3 =>
     cases h3
     obtain ⟨b, rfl, hb, _⟩ := strRep h1
     have := intRep h2; subst this
     unfold N.repOk at hk
     simp only [Bool.and_eq_true, decide_eq_true_eq] at hk
     obtain ⟨k1, k2, k3⟩ := hk
     obtain ⟨c, hn⟩ : ∃ c : Nat, n = ((c : Nat) : Int) := ⟨Int.toNat n, (Int.toNat_of_nonneg k1).symm⟩
     subst hn
     rw [Int.toNat_natCast] at k3
     have hsz : b.size = s.length := by rw [← hb]; exact Array.length_toList.symm
     have k2' : c ≤ 2147483648 := Int.ofNat_le.1 k2
     have k3' : s.length * c ≤ 2147483648 := k3
     have hcall := hc b c w (by omega) (by rw [hsz]; omega)
     refine hcall.mono fun e w' ⟨he, hbel⟩ => ⟨σ, below_mf hst hbel, ?_⟩
     rw [he, hb, repeatL_eq]
     have hl : (List.replicate c s).flatten.length ≤ lim := by
      rw [List.length_flatten, List.map_replicate, List.sum_replicate_nat, Nat.mul_comm]
      exact k3'
     exact str_val hl
 ·cases hr
end
end
open Go Go.RowKit
noncomputable section
open Go.Proofs.YthabbcjjecpbmaaGreat.N (chunkS chunkL)
def KpS (ks : List Nat) (W W' : World) : Prop := W.heap.size ≤ W'.heap.size ∧ ∀ b ∈ ks, W'.heap[b]? = W.heap[b]?
theorem KpS.cell {ks : List Nat} {W W' : World} (h : KpS ks W W') {p : Addr} (hp : p.block ∈ ks) : W'.cell? p = W.cell? p := World.cell?_of_block (h.2 _ hp)
theorem KpS.refl (ks : List Nat) (W : World) : KpS ks W W := ⟨Nat.le_refl _, fun _ _ => rfl⟩
theorem KpS.trans {ks : List Nat} {A B C : World} (h : KpS ks A B) (k : KpS ks B C) : KpS ks A C := ⟨Nat.le_trans h.1 k.1, fun b hb => (k.2 b hb).trans (h.2 b hb)⟩
section
variable {P : Program} {E : Env} {w w' : World} {σ σ' : Sg} {st st' : St E.T} {M : Nat → Prop}
variable {a : Act} {fr : Fr E.T}
end
end
open Go Go.RowKit
noncomputable section
section
variable {P : Program} {E : Env} {w w' : World} {σ : Sg} {st : St E.T} {M : Nat → Prop}
end
end
open Go
noncomputable section
section
variable {α : Type}
def Tree.ic : Tree α → Bool
 | .ite c _ _ => c
 | _ => true
def Tree.tb : Tree α → Tree α
 | .ite _ t _ => t
 | x => x
def Tree.eb : Tree α → Tree α
 | .ite _ _ e => e
 | x => x
def Tree.oT : Tree α → Type
 | .opt (β := β) _ _ => β
 | _ => Unit
def Tree.oO : (t : Tree α) → Option t.oT
 | .opt o _ => o
 | .ret _ => some ()
 | .fail => some ()
 | .ite _ _ _ => some ()
def Tree.oF : (t : Tree α) → t.oT → Tree α
 | .opt _ g, x => g x
 | .ret a, _ => .ret a
 | .fail, _ => .fail
 | .ite c t e, _ => .ite c t e
theorem Tree.get_ic (t : Tree α) : t.get = bif t.ic then t.tb.get else t.eb.get := by
 cases t <;> rfl
theorem Tree.get_oF (t : Tree α) : t.get = t.oO.bind fun x => (t.oF x).get := by
 cases t <;> rfl
theorem Tree.split_ite {a b : Tree α} (hc : a.ic = b.ic) (h1 : a.tb.get = b.tb.got) (h2 : a.eb.get = b.eb.got) : a.get = b.got := by
 rw [Tree.got_eq] at *
 rw [Tree.get_ic a, Tree.get_ic b, hc, h1, h2]
theorem Tree.split_opt {a b : Tree α} (ht : a.oT = b.oT) (ho : cast (congrArg Option ht) a.oO = b.oO) (h : ∀ x : a.oT, (a.oF x).get = (b.oF (cast ht x)).got) : a.get = b.got := by
 rw [Tree.got_eq, Tree.get_oF a, Tree.get_oF b, ← ho]
 generalize hb : (fun x => (b.oF x).get) = g at h
 have h' : ∀ x : a.oT, (a.oF x).get = g (cast ht x) := fun x => by rw [h x, ← hb, Tree.got_eq]
 clear h hb ho
 generalize b.oT = X at ht g h'
 subst ht
 congr 1
 funext x
 exact h' x
end
section
variable {E : Env}
noncomputable def GFn.rA (x : GFn E) (fn : Func) (k : Nat) (l : GLp E) (m : Nat) (p : LPre E) (v : p.V) : Tree (Sum (Fr E.T × St E.T) (CodeOut E)) :=
 ((stepOf E x.S (x.L fn) 0 k fn) (ofSlots E fn.ntmps l.d l.ks (p.hd v).1) (p.hd v).2).bind (nx E l.ks l.mvs l.rs m)
noncomputable def GFn.rR (fn : Func) (l : GLp E) (p : LPre E) (v : p.V) : Tree (Sum (Fr E.T × St E.T) (CodeOut E)) := (p.step v).bind (p.out fn.ntmps l.d l.ks l.rs)
end
end
end Go.Proofs.YthabbcjjecpbmaaGreat.D

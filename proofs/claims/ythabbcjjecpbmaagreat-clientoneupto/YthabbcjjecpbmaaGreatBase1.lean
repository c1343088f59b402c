/- Deep values: how Go's data read as plain Lean data, and the values, objects and trees of the evaluator D. The evaluator D: operations, regions, code, bodies of functions. The evaluator D: calls, one operation, regions, code, bodies. What the evaluator's values mean in the machine: data read out of memory, values, objects; and that this survives what is written elsewhere. Values and objects survive changes elsewhere; what is killed. Changes of the objects: new ones, what is stored, what is written no more. The program's types and D's; reading and writing of places. -/
import GoSem.Dispatch
import GoSem.Core.Region
import GoSem.Core.Program
import Derived.Orders
import Derived.Calls
import Derived.Laws.Cells
import Derived.Laws.Sem
import Derived.Laws.Entries
set_option linter.unusedVariables false
set_option linter.unusedSimpArgs false
namespace Go.Proofs.YthabbcjjecpbmaaGreat.D
open Go
noncomputable section
inductive Ty where
 | bool
 | int (k : IntKind)
 | str
 | named (i : Nat)
 | slice (e : Ty)
 | arr (n : Nat) (e : Ty)
@[reducible] def IntT : IntKind → Type
 | .u8 => UInt8
 | .i8 => Int
 | .i16 => Int
 | .i32 => Int
 | .i64 => Int
 | .u16 => Int
 | .u32 => Int
 | .u64 => Int
@[reducible] def I (T : Nat → Type) : Ty → Type
 | .bool => Bool
 | .int k => IntT k
 | .str => List UInt8
 | .named i => T i
 | .slice e => List (I T e)
 | .arr _ e => List (I T e)
@[reducible] def HL (T : Nat → Type) : List Ty → Type
 | [] => Unit
 | t :: ts => I T t × HL T ts
def toI : (k : IntKind) → IntT k → Int
 | .u8, x => (x.toNat : Int)
 | .i8, x => x
 | .i16, x => x
 | .i32, x => x
 | .i64, x => x
 | .u16, x => x
 | .u32, x => x
 | .u64, x => x
def ofI : (k : IntKind) → Int → IntT k
 | .u8, n => UInt8.ofNat n.toNat
 | .i8, n => n
 | .i16, n => n
 | .i32, n => n
 | .i64, n => n
 | .u16, n => n
 | .u32, n => n
 | .u64, n => n
def kEq : (a b : IntKind) → Option (PLift (a = b))
 | .i8, .i8 => some ⟨rfl⟩
 | .i16, .i16 => some ⟨rfl⟩
 | .i32, .i32 => some ⟨rfl⟩
 | .i64, .i64 => some ⟨rfl⟩
 | .u8, .u8 => some ⟨rfl⟩
 | .u16, .u16 => some ⟨rfl⟩
 | .u32, .u32 => some ⟨rfl⟩
 | .u64, .u64 => some ⟨rfl⟩
 | _, _ => none
def nEq (a b : Nat) : Option (PLift (a = b)) :=
 match h : Nat.beq a b with
 | true => some ⟨Nat.eq_of_beq_eq_true h⟩
 | false => none
def tyEq : (a b : Ty) → Option (PLift (a = b))
 | .bool, .bool => some ⟨rfl⟩
 | .str, .str => some ⟨rfl⟩
 | .int k, .int l => match kEq k l with
  | some h => some ⟨by rw [h.down]⟩
  | none => none
 | .named i, .named j => match nEq i j with
  | some h => some ⟨by rw [h.down]⟩
  | none => none
 | .slice e, .slice f => match tyEq e f with
  | some h => some ⟨by rw [h.down]⟩
  | none => none
 | .arr n e, .arr m f => match nEq n m with
  | some h => match tyEq e f with
   | some h' => some ⟨by rw [h.down, h'.down]⟩
   | none => none
  | none => none
 | _, _ => none
def castI {T : Nat → Type} {a b : Ty} (h : a = b) (x : I T a) : I T b := h ▸ x
noncomputable def nth {α : Type} (l : List α) : Nat → α → α :=
 List.rec (motive := fun _ => Nat → α → α) (fun _ d => d) (fun x _ ih n d => Nat.rec (motive := fun _ => α) x (fun m _ => ih m d) n) l
noncomputable def nth? {α : Type} (l : List α) : Nat → Option α :=
 List.rec (motive := fun _ => Nat → Option α) (fun _ => none) (fun x _ ih n => Nat.rec (motive := fun _ => Option α) (some x) (fun m _ => ih m) n) l
noncomputable def upd {α : Type} (l : List α) : Nat → α → List α :=
 List.rec (motive := fun _ => Nat → α → List α) (fun _ _ => []) (fun x r ih n v => Nat.rec (motive := fun _ => List α) (v :: r) (fun m _ => x :: ih m v) n) l
theorem nth_nil {α : Type} (n : Nat) (d : α) : nth [] n d = d := rfl
theorem nth_zero {α : Type} (x : α) (r : List α) (d : α) : nth (x :: r) 0 d = x := rfl
theorem nth_succ {α : Type} (x : α) (r : List α) (n : Nat) (d : α) : nth (x :: r) (n + 1) d = nth r n d := rfl
theorem nthq_nil {α : Type} (n : Nat) : nth? ([] : List α) n = none := rfl
theorem nthq_zero {α : Type} (x : α) (r : List α) : nth? (x :: r) 0 = some x := rfl
theorem nthq_succ {α : Type} (x : α) (r : List α) (n : Nat) : nth? (x :: r) (n + 1) = nth? r n := rfl
theorem upd_nil {α : Type} (n : Nat) (v : α) : upd [] n v = [] := rfl
theorem upd_zero {α : Type} (x : α) (r : List α) (v : α) : upd (x :: r) 0 v = v :: r := rfl
theorem upd_succ {α : Type} (x : α) (r : List α) (n : Nat) (v : α) : upd (x :: r) (n + 1) v = x :: upd r n v := rfl
inductive Tree (α : Type) : Type 1 where
 | fail
 | ret (a : α)
 | ite (c : Bool) (t e : Tree α)
 | opt {β : Type} (o : Option β) (f : β → Tree α)
namespace Tree
def bind {α β : Type} : Tree α → (α → Tree β) → Tree β
 | .fail, _ => .fail
 | .ret a, f => f a
 | .ite c t e, f => .ite c (t.bind f) (e.bind f)
 | .opt o g, f => .opt o fun b => (g b).bind f
def get {α : Type} : Tree α → Option α
 | .fail => none
 | .ret a => some a
 | .ite c t e => bif c then t.get else e.get
 | .opt o f => o.bind fun b => (f b).get
def ofOpt {α : Type} : Option α → Tree α
 | none => .fail
 | some a => .ret a
def need {α : Type} (b : Bool) (t : Tree α) : Tree α :=
 match b with
 | true => t
 | false => .fail
theorem get_bind {α β : Type} (t : Tree α) (f : α → Tree β) : (t.bind f).get = t.get.bind fun a => (f a).get := by
 induction t with
 | fail => rfl
 | ret a => rfl
 | ite c t e iht ihe => cases c <;> simp [bind, get, iht, ihe]
 | opt o g ih =>
  cases o with
  | none => rfl
  | some b => simp [bind, get, ih]
theorem get_ofOpt {α : Type} (o : Option α) : (ofOpt o).get = o := by cases o <;> rfl
theorem get_need {α : Type} {b : Bool} {t : Tree α} {a : α} (h : (need b t).get = some a) : b = true ∧ t.get = some a := by
 cases b with
 | true => exact ⟨rfl, h⟩
 | false => cases h
theorem get_bind_some {α β : Type} {t : Tree α} {f : α → Tree β} {b : β} (h : (t.bind f).get = some b) : ∃ a, t.get = some a ∧ (f a).get = some b := by
 rw [get_bind] at h
 cases ht : t.get with
 | none => rw [ht] at h; cases h
 | some a => rw [ht] at h; exact ⟨a, rfl, h⟩
end Tree
inductive Step where
 | fld (i j : Nat)
 | idx (e : Ty) (n : Nat)
inductive DVal (T : Nat → Type) : Type where
 | val (t : Ty) (x : I T t)
 | nils
 | own (k : Nat)
 | ptr (o : Nat) (p : List Step)
 | nilptr
 | rptr (t : Ty) (x : I T t)
 | agg (i : Nat) (fs : List (DVal T))
 | tup (vs : List (DVal T))
 | fn (f : FuncId) (cap : List (DVal T))
 | nilfn
 | ifc (t : TypeId) (v : DVal T)
 | nilifc
 | stale (e : Ty)
 | undef
inductive RM where
 | froz
 | fix
 | live
def RM.may : RM → Bool
 | .froz => false
 | .fix => true
 | .live => true
def RM.grows : RM → Bool
 | .live => true
 | _ => false
inductive Obj (T : Nat → Type) : Type where
 | box (ro : Bool) (c : DVal T)
 | arr (l : RM) (e : Ty) (xs : List (I T e))
 | dead
abbrev St (T : Nat → Type) := List (Obj T)
mutual
def refs {T : Nat → Type} : DVal T → List Nat
 | .own k => [k]
 | .ptr o _ => [o]
 | .agg _ fs => refsL fs
 | .tup fs => refsL fs
 | .fn _ fs => refsL fs
 | .ifc _ v => refs v
 | _ => []
termination_by structural x => x
def refsL {T : Nat → Type} : List (DVal T) → List Nat
 | [] => []
 | v :: r => refs v ++ refsL r
termination_by structural x => x
end
inductive TK where
 | data (t : Ty)
 | ptr
 | func
 | iface
 | other
structure Env where
 T : Nat → Type
 fields : Nat → List Ty
 out : (i : Nat) → T i → HL T (fields i)
 into : (i : Nat) → HL T (fields i) → T i
 eqb : (i : Nat) → T i → T i → Bool
 nsize : Nat → Nat
 tk : TypeId → TK
 cmp : TypeId → Bool
namespace Env
variable (E : Env)
def size : Ty → Nat
 | .named i => E.nsize i
 | .arr n e => n * size e
 | _ => 1
def foff (i j : Nat) : Nat := (((E.fields i).take j).map E.size).sum
def stepOff : Step → Nat
 | .fld i j => E.foff i j
 | .idx e n => n * E.size e
def pathOff : List Step → Nat
 | [] => 0
 | s :: p => E.stepOff s + pathOff p
end Env
def isAggTy : Ty → Bool
 | .named _ => true
 | .arr _ _ => true
 | _ => false
def tyEqb (a b : Ty) : Bool :=
 match tyEq a b with
 | some _ => true
 | none => false
section
variable (E : Env)
def hlL : (ts : List Ty) → HL E.T ts → List (DVal E.T)
 | [], _ => []
 | t :: ts, x => .val t x.1 :: hlL ts x.2
def parts (i : Nat) (x : E.T i) : List (DVal E.T) := hlL E (E.fields i) (E.out i x)
def toHLWith (f : (t : Ty) → DVal E.T → Option (I E.T t)) : (ts : List Ty) → List (DVal E.T) → Option (HL E.T ts)
 | [], [] => some ()
 | t :: ts, v :: vs =>
  match f t v with
  | some x => match toHLWith f ts vs with
   | some r => some (x, r)
   | none => none
  | none => none
 | [], _ :: _ => none
 | _ :: _, [] => none
def toData (st : St E.T) : Nat → (t : Ty) → DVal E.T → Option (I E.T t)
 | 0, _, _ => none
 | d + 1, t, v =>
  match v with
  | .val t' x => match tyEq t' t with
   | some h => some (castI h.down x)
   | none => none
  | .nils => match t with
   | .slice _ => some []
   | _ => none
  | .own k => match nth? st k with
   | some (.arr _ e xs) => match tyEq (.slice e) t with
    | some h => some (castI h.down xs)
    | none => none
   | _ => none
  | .agg i fs => match t with
   | .named j => match nEq i j with
    | some _ => match toHLWith E (toData st d) (E.fields j) fs with
     | some r => some (E.into j r)
     | none => none
    | none => none
   | _ => none
  | _ => none
def depth : Nat := 8
def fitsD (st : St E.T) (t : Ty) : DVal E.T → Bool
 | .val t' _ => tyEqb t' t
 | .nils => match t with
  | .slice _ => true
  | _ => false
 | .own k => match nth? st k with
  | some (.arr _ e _) => tyEqb (.slice e) t
  | _ => false
 | .agg i _ => match t with
  | .named j => Nat.beq i j
  | _ => false
 | _ => false
def oldD (st : St E.T) (t : Ty) (v : DVal E.T) : Bool :=
 match v with
 | .stale e => tyEqb (.slice e) t
 | v => fitsD E st t v
def single : DVal E.T → Bool
 | .ptr _ _ => true
 | .nilptr => true
 | .rptr _ _ => true
 | .fn _ _ => true
 | .nilfn => true
 | .ifc _ _ => true
 | .nilifc => true
 | _ => false
def fits (st : St E.T) (t : TypeId) (v : DVal E.T) : Bool :=
 match E.tk t with
 | .data ty => fitsD E st ty v
 | .other => false
 | _ => single E v
def fitsOld (st : St E.T) (t : TypeId) (v : DVal E.T) : Bool :=
 match E.tk t with
 | .data ty => oldD E st ty v
 | .other => false
 | _ => single E v
def zeroI : Nat → (t : Ty) → Option (I E.T t)
 | 0, _ => none
 | d + 1, t =>
  match t with
  | .bool => some false
  | .int k => some (ofI k 0)
  | .str => some []
  | .slice _ => some []
  | .arr n e => match zeroI d e with
   | some z => some (List.replicate n z)
   | none => none
  | .named i => match zHL (zeroI d) (E.fields i) with
   | some r => some (E.into i r)
   | none => none
where
 zHL (f : (t : Ty) → Option (I E.T t)) : (ts : List Ty) → Option (HL E.T ts)
  | [] => some ()
  | t :: ts => match f t with
   | some x => match zHL f ts with
    | some r => some (x, r)
    | none => none
   | none => none
def zeroD : Nat → Ty → DVal E.T
 | 0, _ => .undef
 | d + 1, t =>
  match t with
  | .bool => .val .bool false
  | .int k => .val (.int k) (ofI k 0)
  | .str => .val .str []
  | .slice _ => .nils
  | .arr n e => match zeroI E d e with
   | some z => .val (.arr n e) (List.replicate n z)
   | none => .undef
  | .named i => .agg i ((E.fields i).map (zeroD d))
def zeroV (t : TypeId) : DVal E.T :=
 match E.tk t with
 | .data ty => zeroD E depth ty
 | .ptr => .nilptr
 | .func => .nilfn
 | .iface => .nilifc
 | .other => .undef
def dfld (i j : Nat) : DVal E.T → DVal E.T
 | .val (.named i') x => bif Nat.beq i i' then nth (parts E i' x) j .undef else .undef
 | .agg i' fs => bif Nat.beq i i' then nth fs j .undef else .undef
 | _ => .undef
def getP : List Step → DVal E.T → Tree (DVal E.T)
 | [], d => .ret d
 | .fld i j :: p, d => getP p (dfld E i j d)
 | .idx e n :: p, .val (.arr _ e') xs => Tree.need (tyEqb e e') (.opt xs[n]? fun x => getP p (.val e' x))
 | .idx _ _ :: _, _ => .fail
def getO : Obj E.T → List Step → Tree (DVal E.T)
 | .box _ c, p => getP E p c
 | .arr _ e' xs, .idx e n :: p => Tree.need (tyEqb e e') (.opt xs[n]? fun x => getP E p (.val e' x))
 | _, _ => .fail
def explode : DVal E.T → Option (Nat × List (DVal E.T))
 | .val (.named i) x => some (i, parts E i x)
 | .agg i fs => some (i, fs)
 | _ => none
def setP (ok : DVal E.T → Bool) (v : DVal E.T) : List Step → DVal E.T → Tree (DVal E.T)
 | [], d => Tree.need (ok d) (.ret v)
 | .fld i j :: p, d =>
  match explode E d with
  | some (i', fs) => Tree.need (Nat.beq i i' && Nat.blt j fs.length) ((setP ok v p (nth fs j .undef)).bind fun d' => .ret (.agg i' (upd fs j d')))
  | none => .fail
 | .idx e n :: p, .val (.arr m e') xs =>
  Tree.need (tyEqb e e') (.opt xs[n]? fun x => (setP ok v p (.val e' x)).bind fun d' => (Tree.ofOpt (toData E [] depth e' d')).bind fun y => .ret (.val (.arr m e') (xs.set n y)))
 | .idx _ _ :: _, _ => .fail
def setO (ok : DVal E.T → Bool) (v : DVal E.T) : Obj E.T → List Step → Tree (Obj E.T)
 | .box false c, p => (setP E ok v p c).bind fun c' => .ret (.box false c')
 | .arr l e' xs, .idx e n :: p =>
  Tree.need (l.may && tyEqb e e') (.opt xs[n]? fun x => (setP E ok v p (.val e' x)).bind fun d' => (Tree.ofOpt (toData E [] depth e' d')).bind fun y => .ret (.arr l e' (xs.set n y)))
 | _, _ => .fail
end
end
open Go
noncomputable section
inductive Res (T : Nat → Type) : Type where
 | ret (vs : List (DVal T))
 | panic (v : DVal T)
inductive Spec (E : Env) : Type 1 where
 | pure (ps : List Ty) (F : List (DVal E.T) → Tree (Res E.T))
 | full (ps : List TK) (flat : Bool) (F : List (DVal E.T) → St E.T → Tree (Res E.T × St E.T))
abbrev DSpec (E : Env) := List (DVal E.T) → St E.T → Option (DVal E.T) → Tree (Bool × St E.T)
structure Fr (T : Nat → Type) where
 s : List (DVal T)
 d : List (FuncId × List (DVal T))
def lim : Nat := 2147483648
section
variable (E : Env)
def put (fr : Fr E.T) (dst : Option Tmp) (v : DVal E.T) : Fr E.T :=
 match dst with
 | some t => { fr with s := upd fr.s t v }
 | none => fr
def dconst : Value → DVal E.T
 | .bool b => .val .bool b
 | .int .u8 n => bif decide (0 ≤ n) && decide (n < 256) then .val (.int .u8) (ofI .u8 n) else .undef
 | .int k n => .val (.int k) (ofI k n)
 | .string s => bif Nat.ble s.data.toList.length lim then .val .str s.data.toList else .undef
 | .pointer none => .nilptr
 | .slice none 0 0 => .nils
 | .nilFunc => .nilfn
 | .nilIface => .nilifc
 | _ => .undef
def dget (fr : Fr E.T) : Operand → DVal E.T
 | .tmp t => nth fr.s t .undef
 | .const v => dconst E v
 | .func f => .fn f []
 | .global _ => .undef
abbrev Out (E : Env) := DVal E.T × St E.T
def isTy (t : TypeId) (ty : Ty) : Bool :=
 match E.tk t with
 | .data ty' => tyEqb ty ty'
 | _ => false
def isIface (t : TypeId) : Bool :=
 match E.tk t with
 | .iface => true
 | _ => false
def dbits (op : BinOp) (k : IntKind) (x y : Int) : Option Int :=
 let a := BitVec.ofInt k.bits x
 let b := BitVec.ofInt k.bits y
 match op with
 | .and => some (k.wrap (a &&& b).toNat)
 | .or => some (k.wrap (a ||| b).toNat)
 | .xor => some (k.wrap (a ^^^ b).toNat)
 | .andNot => some (k.wrap (a &&& ~~~b).toNat)
 | _ => none
def dint (op : BinOp) (k : IntKind) (x y : Int) : Tree (DVal E.T) :=
 match op with
 | .add => .ret (.val (.int k) (ofI k (k.wrap (x + y))))
 | .sub => .ret (.val (.int k) (ofI k (k.wrap (x - y))))
 | .mul => .ret (.val (.int k) (ofI k (k.wrap (x * y))))
 | .quo => .ite (y == 0) .fail (.ret (.val (.int k) (ofI k (k.wrap (x.tdiv y)))))
 | .rem => .ite (y == 0) .fail (.ret (.val (.int k) (ofI k (x.tmod y))))
 | .eql => .ret (.val .bool (x == y))
 | .neq => .ret (.val .bool (x != y))
 | .lss => .ret (.val .bool (decide (x < y)))
 | .leq => .ret (.val .bool (decide (x ≤ y)))
 | .gtr => .ret (.val .bool (decide (x > y)))
 | .geq => .ret (.val .bool (decide (x ≥ y)))
 | .and => (Tree.ofOpt (dbits .and k x y)).bind fun r => .ret (.val (.int k) (ofI k r))
 | .or => (Tree.ofOpt (dbits .or k x y)).bind fun r => .ret (.val (.int k) (ofI k r))
 | .xor => (Tree.ofOpt (dbits .xor k x y)).bind fun r => .ret (.val (.int k) (ofI k r))
 | .andNot => (Tree.ofOpt (dbits .andNot k x y)).bind fun r => .ret (.val (.int k) (ofI k r))
 | _ => .fail
def dshift (op : BinOp) (k : IntKind) (x y : Int) : Tree (DVal E.T) :=
 .ite (decide (y < 0)) .fail (match op with
  | .shl => .ret (.val (.int k) (ofI k (k.wrap (x * 2 ^ min y.toNat k.bits))))
  | .shr => .ret (.val (.int k) (ofI k (x.fdiv (2 ^ min y.toNat k.bits))))
  | _ => .fail)
def dstr (op : BinOp) (a b : List UInt8) : Tree (DVal E.T) :=
 match op with
 | .add => .ite (decide (a.length + b.length ≤ lim)) (.ret (.val .str (a ++ b))) .fail
 | .eql => .ret (.val .bool (a == b))
 | .neq => .ret (.val .bool (!(a == b)))
 | _ => .fail
def eqI : (t : Ty) → I E.T t → I E.T t → Bool
 | .bool, x, y => x == y
 | .int k, x, y => toI k x == toI k y
 | .str, x, y => x == y
 | .named i, x, y => E.eqb i x y
 | .slice _, _, _ => false
 | .arr _ e, x, y => eqL (eqI e) x y
where
 eqL {α : Type} (f : α → α → Bool) : List α → List α → Bool
  | [], [] => true
  | a :: x, b :: y => f a b && eqL f x y
  | _, _ => false
def eqHL : (ts : List Ty) → HL E.T ts → HL E.T ts → Bool
 | [], _, _ => true
 | t :: ts, x, y => eqI E t x.1 y.1 && eqHL ts x.2 y.2
def eqOk : Nat → Ty → Bool
 | 0, _ => false
 | d + 1, t =>
  match t with
  | .slice _ => false
  | .arr _ e => eqOk d e
  | .named i => (E.fields i).all (eqOk d)
  | _ => true
def dcmp (st : St E.T) (t : Ty) (x y : DVal E.T) (f : Bool → Bool) : Tree (DVal E.T) :=
 (Tree.ofOpt (toData E st depth t x)).bind fun a => (Tree.ofOpt (toData E st depth t y)).bind fun b => .ret (.val .bool (f (eqI E t a b)))
def dbin (st : St E.T) (op : BinOp) (t : TypeId) (x y : DVal E.T) : Tree (DVal E.T) :=
 match x, y with
 | .val (.int k) a, .val (.int k') b =>
  match op with
  | .shl => dshift E .shl k (toI k a) (toI k' b)
  | .shr => dshift E .shr k (toI k a) (toI k' b)
  | _ => match kEq k k' with
   | some _ => dint E op k (toI k a) (toI k' b)
   | none => .fail
 | .val .str a, .val .str b => dstr E op a b
 | .val .bool a, .val .bool b =>
  Tree.need (isTy E t .bool) (match op with
  | .eql => .ret (.val .bool (a == b))
  | .neq => .ret (.val .bool (!(a == b)))
  | _ => .fail)
 | .ifc _ _, .nilifc =>
  Tree.need (isIface E t) (match op with
  | .eql => .ret (.val .bool false)
  | .neq => .ret (.val .bool true)
  | _ => .fail)
 | x, y =>
  match E.tk t with
  | .data (.named i) => Tree.need (E.cmp t && eqOk E depth (.named i)) (match op with
   | .eql => dcmp E st (.named i) x y id
   | .neq => dcmp E st (.named i) x y (!·)
   | _ => .fail)
  | .data (.arr n e) => Tree.need (E.cmp t && eqOk E depth (.arr n e)) (match op with
   | .eql => dcmp E st (.arr n e) x y id
   | .neq => dcmp E st (.arr n e) x y (!·)
   | _ => .fail)
  | _ => .fail
def dnil (op : BinOp) (x y : Operand) (a b : DVal E.T) : Option Bool :=
 match a, b with
 | .nilifc, .nilifc =>
  match x, y with
  | .const _, _ => (match op with | .eql => some true | .neq => some false | _ => none)
  | _, .const _ => (match op with | .eql => some true | .neq => some false | _ => none)
  | _, _ => none
 | _, _ => none
def dun (op : UnOp) (x : DVal E.T) : Tree (DVal E.T) :=
 match op, x with
 | .not, .val .bool b => .ret (.val .bool (!b))
 | .neg, .val (.int k) a => .ret (.val (.int k) (ofI k (k.wrap (0 - toI k a))))
 | _, _ => .fail
def elems (st : St E.T) (e : Ty) (v : DVal E.T) : Option (List (I E.T e)) := toData E st depth (.slice e) v
def isData (t : TypeId) : Bool :=
 match E.tk t with
 | .data _ => true
 | _ => false
def dconv (st : St E.T) (src dst : TypeId) (x : DVal E.T) : Tree (DVal E.T × St E.T) :=
 Tree.need (isData E src) <| match E.tk dst, x with
 | .data (.int k), .val (.int k') a => .ret (.val (.int k) (ofI k (k.wrap (toI k' a))), st)
 | .data .str, .val .str s => .ret (.val .str s, st)
 | .data (.slice (.int .u8)), .val .str s => Tree.need (isTy E src .str) (.ret (.own st.length, st ++ [.arr .live (.int .u8) s]))
 | .data (.slice (.int .u8)), .own k => Tree.need (Nat.beq src dst) (match nth? st k with
  | some (.arr .live (.int .u8) xs) => Tree.need (!xs.isEmpty) (.ret (.own k, upd st k (.arr .live (.int .u8) xs)))
  | _ => .fail)
 | .data .str, x => match E.tk src with
  | .data (.slice (.int .u8)) => (Tree.ofOpt (elems E st (.int .u8) x)).bind fun s => .ret (.val .str s, st)
  | _ => .fail
 | _, _ => .fail
def dlen (st : St E.T) (t : TypeId) (x : DVal E.T) : Tree (DVal E.T) :=
 match E.tk t, x with
 | .data .str, .val .str s => .ret (.val (.int .i64) (s.length : Int))
 | .data (.slice _), .val (.slice _) xs => .ret (.val (.int .i64) (xs.length : Int))
 | .data (.slice _), .nils => .ret (.val (.int .i64) (0 : Int))
 | .data (.slice _), .own k => match nth? st k with
  | some (.arr _ _ xs) => .ret (.val (.int .i64) (xs.length : Int))
  | _ => .fail
 | _, _ => .fail
def inRange (i : Int) (n : Nat) : Bool := decide (0 ≤ i) && decide (i < n)
def dindexAddr (st : St E.T) (t : TypeId) (x i : DVal E.T) : Tree (DVal E.T) :=
 match i with
 | .val (.int k) a =>
  match x with
  | .val (.slice e) xs => Tree.need (isTy E t (.slice e)) (.ite (inRange (toI k a) xs.length) (.opt xs[(toI k a).toNat]? fun y => .ret (.rptr e y)) .fail)
  | .own o => match nth? st o with
   | some (.arr _ e xs) => Tree.need (isTy E t (.slice e)) (.ite (inRange (toI k a) xs.length) (.ret (.ptr o [.idx e (toI k a).toNat])) .fail)
   | _ => .fail
  | .ptr o p => match E.tk t with
   | .data (.arr n e) => .ite (inRange (toI k a) n) (.ret (.ptr o (p ++ [.idx e (toI k a).toNat]))) .fail
   | _ => .fail
  | .rptr (.arr n e) xs => match E.tk t with
   | .data (.arr n' e') => Tree.need (tyEqb (.arr n e) (.arr n' e')) (.ite (inRange (toI k a) n) (.opt xs[(toI k a).toNat]? fun y => .ret (.rptr e y)) .fail)
   | _ => .fail
  | _ => .fail
 | _ => .fail
def dindex (t : TypeId) (x i : DVal E.T) : Tree (DVal E.T) :=
 match i with
 | .val (.int k) a =>
  match x with
  | .val .str s => Tree.need (isTy E t .str) (.ite (inRange (toI k a) s.length) (.opt s[(toI k a).toNat]? fun y => .ret (.val (.int .u8) y)) .fail)
  | .val (.arr n e) xs => match E.tk t with
   | .data (.arr n' e') => Tree.need (tyEqb (.arr n e) (.arr n' e')) (.ite (inRange (toI k a) n) (.opt xs[(toI k a).toNat]? fun y => .ret (.val e y)) .fail)
   | _ => .fail
  | _ => .fail
 | _ => .fail
def dfieldAddr (t : TypeId) (x : DVal E.T) (j : Nat) : Tree (DVal E.T) :=
 match E.tk t with
 | .data (.named i) => Tree.need (Nat.blt j (E.fields i).length) (match x with
  | .ptr o p => .ret (.ptr o (p ++ [.fld i j]))
  | .rptr (.named i') y => Tree.need (Nat.beq i i') (match nth (parts E i' y) j .undef with
   | .val t' z => .ret (.rptr t' z)
   | _ => .fail)
  | _ => .fail)
 | _ => .fail
def dload (st : St E.T) (t : TypeId) (x : DVal E.T) : Tree (DVal E.T) :=
 match x with
 | .ptr o p => match nth? st o with
  | some b => (getO E b p).bind fun v => Tree.need (fits E st t v) (.ret v)
  | none => .fail
 | .rptr t' y => match E.tk t with
  | .data ty => Tree.need (tyEqb t' ty) (.ret (.val t' y))
  | _ => .fail
 | _ => .fail
def placeTy : List Step → Option Ty
 | [] => none
 | [.fld i j] => nth? (E.fields i) j
 | [.idx e _] => some e
 | _ :: p => placeTy p
def placeOk (t : TypeId) (p : List Step) : Bool :=
 match E.tk t, placeTy E p with
 | .data ty, some ty' => tyEqb ty' ty
 | _, _ => p.isEmpty
def dstore (st : St E.T) (t : TypeId) (x v : DVal E.T) : Tree (St E.T) :=
 match x with
 | .ptr o p => match nth? st o with
  | some b => Tree.need (fits E st t v && placeOk E t p) ((setO E (fitsOld E st t) v b p).bind fun b' => .ret (upd st o b'))
  | none => .fail
 | _ => .fail
def dbound (x : Option (DVal E.T)) (d : Int) : Option Int :=
 match x with
 | none => some d
 | some (.val (.int k) a) => some (toI k a)
 | _ => none
def dcut {α : Type} (xs : List α) (lo hi : Int) (f : List α → Tree (Out E)) : Tree (Out E) :=
 .ite (decide (0 ≤ lo) && (decide (lo ≤ hi) && decide (hi ≤ xs.length))) (f ((xs.take hi.toNat).drop lo.toNat)) .fail
def freeze (st : St E.T) : List Nat → St E.T
 | [] => st
 | k :: r => freeze (match nth? st k with
  | some (.arr _ e xs) => upd st k (.arr .froz e xs)
  | _ => st) r
def dslice (st : St E.T) (t : TypeId) (x : DVal E.T) (lo hi mx : Option (DVal E.T)) : Tree (Out E) :=
 match mx with
 | some _ => .fail
 | none =>
  match x with
  | .val .str s => Tree.need (isTy E t .str) ((Tree.ofOpt (dbound E lo 0)).bind fun l => (Tree.ofOpt (dbound E hi s.length)).bind fun h => dcut E s l h fun r => .ret (.val .str r, st))
  | .val (.slice e) xs => Tree.need (isTy E t (.slice e)) ((Tree.ofOpt (dbound E lo 0)).bind fun l => (Tree.ofOpt (dbound E hi xs.length)).bind fun h => dcut E xs l h fun r => .ret (.val (.slice e) r, st))
  | .own k => match nth? st k with
   | some (.arr _ e xs) => Tree.need (isTy E t (.slice e)) ((Tree.ofOpt (dbound E lo 0)).bind fun l => (Tree.ofOpt (dbound E hi xs.length)).bind fun h => dcut E xs l h fun r => .ret (.val (.slice e) r, freeze E st [k]))
   | _ => .fail
  | .rptr (.arr n e) xs => Tree.need (isTy E t (.arr n e) && Nat.ble n lim) ((Tree.ofOpt (dbound E lo 0)).bind fun l => (Tree.ofOpt (dbound E hi n)).bind fun h => dcut E xs l h fun r => .ret (.val (.slice e) r, st))
  | .ptr o p => match nth? st o with
   | some (.box _ c) => (getP E p c).bind fun v => match v with
    | .val (.arr n e) xs => Tree.need (isTy E t (.arr n e) && Nat.ble n lim) ((Tree.ofOpt (dbound E lo 0)).bind fun l => (Tree.ofOpt (dbound E hi n)).bind fun h => dcut E xs l h fun r => .ret (.val (.slice e) r, upd st o (.box true c)))
    | _ => .fail
   | _ => .fail
  | _ => .fail
def dbuild (st : St E.T) (t : TypeId) (ps : List (Nat × DVal E.T)) : Tree (DVal E.T) :=
 match E.tk t with
 | .data (.named i) =>
  fill (E.fields i) ((E.fields i).map (zeroD E depth)) ps fun fs => .ret (.agg i fs)
 | .data (.arr n e) => (Tree.ofOpt (zeroI E depth (.arr n e))).bind fun z => fillL e z ps fun xs => .ret (.val (.arr n e) xs)
 | _ => .fail
where
 fill (ts : List Ty) (fs : List (DVal E.T)) (ps : List (Nat × DVal E.T)) (f : List (DVal E.T) → Tree (DVal E.T)) : Tree (DVal E.T) :=
  match ps with
  | [] => f fs
  | (j, v) :: r => match nth? ts j with
   | some t => Tree.need (fitsD E st t v) (fill ts (upd fs j v) r f)
   | none => .fail
 fillL (e : Ty) (xs : List (I E.T e)) (ps : List (Nat × DVal E.T)) (f : List (I E.T e) → Tree (DVal E.T)) : Tree (DVal E.T) :=
  match ps with
  | [] => f xs
  | (j, v) :: r => (Tree.ofOpt (toData E [] depth e v)).bind fun y => Tree.need (Nat.blt j xs.length) (fillL e (upd xs j y) r f)
def dbuildSlice (st : St E.T) (t : TypeId) (n : Nat) (ps : List (Nat × DVal E.T)) : Tree (DVal E.T) :=
 match E.tk t with
 | .data (.slice e) => match n, ps with
  | 0, [] => .ret .nils
  | _, ps => Tree.need (Nat.beq n ps.length && (Nat.ble (n * E.size e) 16777216 && Nat.ble n lim)) (all e 0 ps fun xs => .ret (.val (.slice e) xs))
 | _ => .fail
where
 all (e : Ty) (i : Nat) (ps : List (Nat × DVal E.T)) (f : List (I E.T e) → Tree (DVal E.T)) : Tree (DVal E.T) :=
  match ps with
  | [] => f []
  | (j, v) :: r => Tree.need (Nat.beq i j) ((Tree.ofOpt (toData E [] depth e v)).bind fun y => all e (i + 1) r fun ys => f (y :: ys))
def dmakeSlice (dr : Bool) (st : St E.T) (t : TypeId) (l c : DVal E.T) : Tree (Out E) :=
 match E.tk t, l, c with
 | .data (.slice e), .val (.int k) a, .val (.int k') b =>
  .ite (decide (0 ≤ toI k a) && (decide (toI k a = toI k' b) && decide (toI k a ≤ lim)))
   ((Tree.ofOpt (zeroI E depth e)).bind fun z => match dr with
    | true => .ret (.val (.slice e) (List.replicate (toI k a).toNat z), st)
    | false => .ret (.own st.length, st ++ [.arr .live e (List.replicate (toI k a).toNat z)])) .fail
 | _, _, _ => .fail
def isSl (t : TypeId) : Bool :=
 match E.tk t with
 | .data (.slice _) => true
 | _ => false
def isNum (t : TypeId) : Bool :=
 match E.tk t with
 | .data (.int _) => true
 | _ => false
def appended (st : St E.T) (tx : TypeId) (e : Ty) (x : DVal E.T) (k : List (I E.T e) → Tree (Out E)) : Tree (Out E) :=
 match x with
 | .val (.int i) a => Tree.need (isNum E tx) (.ite (decide (0 ≤ toI i a) && decide (toI i a ≤ lim)) ((Tree.ofOpt (zeroI E depth e)).bind fun z => k (List.replicate (toI i a).toNat z)) .fail)
 | .val .str s => Tree.need (isTy E tx .str) (match tyEq (.slice (.int .u8)) (.slice e) with
  | some h => k (castI (T := E.T) h.down s)
  | none => .fail)
 | x => Tree.need (isSl E tx) ((Tree.ofOpt (elems E st e x)).bind k)
def dappend (st : St E.T) (t tx : TypeId) (s x : DVal E.T) : Tree (Out E) :=
 match s with
 | .nils => match E.tk t with
  | .data (.slice e) => appended E st tx e x fun ys => .ite (decide (ys.length ≤ lim)) (.ret (.own st.length, st ++ [.arr .live e ys])) .fail
  | _ => .fail
 | .own o => match nth? st o with
  | some (.arr .live e xs) => Tree.need (isTy E t (.slice e)) (appended E st tx e x fun ys => .ite (decide (xs.length + ys.length ≤ lim)) (.ret (.own o, upd st o (.arr .live e (xs ++ ys)))) .fail)
  | _ => .fail
 | _ => .fail
def dmin2 (mx : Bool) (x y : DVal E.T) : Tree (DVal E.T) :=
 match x, y with
 | .val (.int k) a, .val (.int k') b => match kEq k k' with
  | some _ => .ret (.val (.int k) (ofI k (match mx with
   | true => if toI k' b > toI k a then toI k' b else toI k a
   | false => if toI k' b < toI k a then toI k' b else toI k a)))
  | none => .fail
 | _, _ => .fail
def dfold (mx : Bool) : DVal E.T → List (DVal E.T) → Tree (DVal E.T)
 | x, [] => .ret x
 | x, y :: r => (dmin2 E mx x y).bind fun z => dfold mx z r
end
end
open Go
noncomputable section
section
variable (E : Env)
def memB (ks : List Nat) (k : Nat) : Bool := ks.any (Nat.beq k)
def isArr (st : St E.T) (o : Nat) : Bool :=
 match nth? st o with
 | some (.arr _ _ _) => true
 | _ => false
mutual
def kill (st : St E.T) (ks : List Nat) : DVal E.T → DVal E.T
 | .own k => bif memB ks k then (match nth? st k with
  | some (.arr _ e _) => .stale e
  | _ => .undef) else .own k
 | .ptr o p => bif memB ks o then .undef else .ptr o p
 | .agg i fs => .agg i (killL st ks fs)
 | .tup fs => .tup (killL st ks fs)
 | .fn f fs => .fn f (killL st ks fs)
 | .ifc t v => .ifc t (kill st ks v)
 | v => v
termination_by structural x => x
def killL (st : St E.T) (ks : List Nat) : List (DVal E.T) → List (DVal E.T)
 | [] => []
 | v :: r => kill st ks v :: killL st ks r
termination_by structural x => x
end
def killFr (st : St E.T) (ks : List Nat) (fr : Fr E.T) : Fr E.T :=
 {s := killL E st ks fr.s, d := fr.d.map fun x => (x.1, killL E st ks x.2) }
def killObj (st : St E.T) (ks : List Nat) : Obj E.T → Obj E.T
 | .box ro c => .box ro (kill E st ks c)
 | o => o
def objRefs : Obj E.T → List Nat
 | .box _ c => refs c
 | _ => []
def stRefs (st : St E.T) : List Nat := st.flatMap (objRefs E)
def frRefs (fr : Fr E.T) : List Nat := refsL fr.s ++ fr.d.flatMap fun x => refsL x.2
def live (st : St E.T) (ks : List Nat) : List Nat := ks.filter fun k => match nth? st k with
 | some (.arr l _ _) => l.may
 | _ => false
def movers (st : St E.T) (ks : List Nat) : List Nat := ks.filter fun k => match nth? st k with
 | some (.arr l _ _) => l.grows
 | _ => false
def hide : List Nat → St E.T → St E.T
 | [], st => st
 | k :: r, st => hide r (upd st k .dead)
def unhide (old : St E.T) : List Nat → St E.T → St E.T
 | [], st => st
 | k :: r, st => unhide old r (match nth? old k with
  | some o => upd st k o
  | none => st)
def lockObj : Obj E.T → Obj E.T
 | .box _ c => .box true c
 | .arr _ e xs => .arr .froz e xs
 | .dead => .dead
def lock (st : St E.T) : St E.T := st.map (lockObj E)
def flatTy : Nat → Ty → Bool
 | 0, _ => false
 | d + 1, t =>
  match t with
  | .bool => true
  | .int _ => true
  | .str => true
  | .slice _ => false
  | .arr _ e => flatTy d e
  | .named i => (E.fields i).all (flatTy d)
def flatV : DVal E.T → Bool
 | .val t _ => flatTy E depth t
 | _ => false
def flatRes : Res E.T → Bool
 | .ret vs => vs.all (flatV E)
 | .panic (.ifc _ v) => flatV E v
 | .panic _ => false
def resVal : List (DVal E.T) → DVal E.T
 | [v] => v
 | vs => .tup vs
inductive OpOut (E : Env) where
 | next (fr : Fr E.T) (st : St E.T)
 | panic (v : DVal E.T) (fr : Fr E.T) (st : St E.T)
def dargs (st : St E.T) : List Ty → List (DVal E.T) → Option (List (DVal E.T))
 | [], [] => some []
 | t :: ts, v :: vs =>
  match toData E st depth t v with
  | some x => match dargs st ts vs with
   | some r => some (.val t x :: r)
   | none => none
  | none => none
 | _, _ => none
def isOwn : DVal E.T → Bool
 | .own _ => true
 | _ => false
def dargsF (st : St E.T) : List TK → List (DVal E.T) → Option (List (DVal E.T))
 | [], [] => some []
 | .data t :: ts, v :: vs =>
  match toData E st depth t v with
  | some x => match dargsF st ts vs with
   | some r => some (.val t x :: r)
   | none => none
  | none => none
 | .other :: _, _ :: _ => none
 | _ :: ts, v :: vs =>
  match single E v || isOwn E v with
  | true => match dargsF st ts vs with
   | some r => some (v :: r)
   | none => none
  | false => none
 | _, _ => none
def dataRefs (st : St E.T) : List TK → List (DVal E.T) → List Nat
 | .data _ :: ts, v :: vs => refs v ++ dataRefs st ts vs
 | _ :: ts, _ :: vs => dataRefs st ts vs
 | _, _ => []
mutual
def rn {T : Nat → Type} (ρ : Nat → Nat) : DVal T → DVal T
 | .own k => .own (ρ k)
 | .ptr o p => .ptr (ρ o) p
 | .agg i fs => .agg i (rnL ρ fs)
 | .tup fs => .tup (rnL ρ fs)
 | .fn f fs => .fn f (rnL ρ fs)
 | .ifc t v => .ifc t (rn ρ v)
 | v => v
termination_by structural x => x
def rnL {T : Nat → Type} (ρ : Nat → Nat) : List (DVal T) → List (DVal T)
 | [] => []
 | v :: r => rn ρ v :: rnL ρ r
termination_by structural x => x
end
def rnObj {T : Nat → Type} (ρ : Nat → Nat) : Obj T → Obj T
 | .box ro c => .box ro (rn ρ c)
 | o => o
def idx : List Nat → Nat → Nat
 | [], _ => 0
 | k :: r, j => bif Nat.beq k j then 0 else idx r j + 1
def objAt (st : St E.T) (k : Nat) : List Nat :=
 match nth? st k with
 | some ob => objRefs E ob
 | none => []
def reach (st : St E.T) : Nat → List Nat → List Nat → List Nat
 | 0, _, seen => seen
 | _ + 1, [], seen => seen
 | n + 1, k :: t, seen => bif memB seen k then reach st n t seen else reach st n (objAt E st k ++ t) (seen ++ [k])
def noDup : List Nat → Bool
 | [] => true
 | k :: r => !(memB r k) && noDup r
def closedB (st : St E.T) (R : List Nat) : Bool := noDup R && R.all fun k => Nat.blt k st.length && (objAt E st k).all (memB R)
def fixObj (b : Bool) : Obj E.T → Obj E.T
 | .arr .live e xs => bif b then .arr .fix e xs else .arr .live e xs
 | o => o
def locSt (st : St E.T) (fx R : List Nat) : St E.T := R.map fun k => match nth? st k with
 | some ob => fixObj E (memB fx k) (rnObj (idx R) ob)
 | none => .dead
def back (n r : Nat) (R : List Nat) (i : Nat) : Nat := bif Nat.blt i r then nth R i 0 else i - r + n
def unfix : Option (Obj E.T) → Obj E.T → Obj E.T
 | some (.arr .live _ _), .arr .fix e xs => .arr .live e xs
 | _, o => o
inductive EffRes (T : Nat → Type) where
 | val (v : DVal T)
 | panic (v : DVal T)
def effRes : Res E.T → EffRes E.T
 | .ret vs => .val (resVal E vs)
 | .panic v => .panic v
def rnEff (ρ : Nat → Nat) : EffRes E.T → EffRes E.T
 | .val v => .val (rn ρ v)
 | .panic v => .panic (rn ρ v)
structure Eff (T : Nat → Type) where
 res : EffRes T
 ups : List (Nat × Obj T)
 ks : List Nat
 news : List (Obj T)
def updAll : St E.T → List (Nat × Obj E.T) → St E.T
 | st, [] => st
 | st, p :: r => updAll (upd st p.1 p.2) r
def killSt (st : St E.T) (ks : List Nat) : St E.T :=
 match ks with
 | [] => st
 | ks => st.map (killObj E st ks)
def killFr' (st : St E.T) (ks : List Nat) (fr : Fr E.T) : Fr E.T :=
 match ks with
 | [] => fr
 | ks => killFr E st ks fr
def addNew (st : St E.T) (news : List (Obj E.T)) : St E.T :=
 match news with
 | [] => st
 | news => st ++ news
def effSt (st : St E.T) (e : Eff E.T) : St E.T := addNew E (updAll E (killSt E st e.ks) e.ups) e.news
def applyE (fr : Fr E.T) (st : St E.T) (dst : Option Tmp) (e : Eff E.T) : OpOut E :=
 match e.res with
 | .val v => .next (put E (killFr' E st e.ks fr) dst v) (effSt E st e)
 | .panic v => .panic v (killFr' E st e.ks fr) (effSt E st e)
def eVal (v : DVal E.T) : Eff E.T := { res := .val v, ups := [], ks := [], news := [] }
def frozen (st : St E.T) : List Nat → List (Nat × Obj E.T)
 | [] => []
 | k :: r => match nth? st k with
  | some (.arr _ e xs) => (k, .arr .froz e xs) :: frozen st r
  | _ => frozen st r
def unfixL (st : St E.T) : List Nat → List (Obj E.T) → List (Nat × Obj E.T)
 | k :: R, ob :: l => (k, unfix E (nth? st k) ob) :: unfixL st R l
 | _, _ => []
def callLoc (st : St E.T) (fx : List Nat) (ds : List (DVal E.T)) (F : List (DVal E.T) → St E.T → Tree (Res E.T × St E.T)) : Tree (Eff E.T) :=
 let R := reach E st 1000 (refsL ds) []
 Tree.need (closedB E st R && (refsL ds).all (memB R)) ((F (rnL (idx R) ds) (locSt E st fx R)).bind fun p =>
  let q := p.2.map (rnObj (back st.length R.length R))
  .ret { res := rnEff E (back st.length R.length R) (effRes E p.1), ups := unfixL E st R q, ks := (movers E st R).filter (fun k => !(memB fx k)), news := q.drop R.length })
def callRd (st : St E.T) (ds : List (DVal E.T)) (F : List (DVal E.T) → St E.T → Tree (Res E.T × St E.T)) : Tree (Eff E.T) :=
 let R := reach E st 1000 (refsL ds) []
 Tree.need (closedB E st R && (refsL ds).all (memB R)) ((F (rnL (idx R) ds) (lock E (locSt E st [] R))).bind fun p =>
  Tree.need (flatRes E p.1) (.ret { res := effRes E p.1, ups := [], ks := [], news := [] }))
def dcallE (S : FuncId → Option (Spec E)) (st : St E.T) (fx : List Nat) (callee : DVal E.T) (args : List (DVal E.T)) : Tree (Eff E.T) :=
 match callee with
 | .fn f cap =>
  match S f with
  | some (.pure ps F) =>
   match dargs E st ps (args ++ cap) with
   | some ds => (F ds).bind fun r =>
     .ret { res := effRes E r, ups := (match live E st (refsL (args ++ cap)) with
      | [] => []
      | ks => bif flatRes E r then [] else frozen E st ks), ks := [], news := [] }
   | none => .fail
  | some (.full ps flat F) =>
   match dargsF E st ps (args ++ cap) with
   | some ds => match flat with
    | true => callRd E st ds F
    | false => match live E st (dataRefs E st ps (args ++ cap)) with
     | [] => callLoc E st fx ds F
     | ks => (callLoc E (updAll E st (frozen E st ks)) fx ds F).bind fun e => .ret { e with ups := frozen E st ks ++ e.ups }
   | none => .fail
  | none => .fail
 | _ => .fail
mutual
def ptrs : DVal E.T → List Nat
 | .ptr o _ => [o]
 | .agg _ fs => ptrsL fs
 | .tup fs => ptrsL fs
 | .fn _ fs => ptrsL fs
 | .ifc _ v => ptrs v
 | _ => []
termination_by structural x => x
def ptrsL : List (DVal E.T) → List Nat
 | [] => []
 | v :: r => ptrs v ++ ptrsL r
termination_by structural x => x
end
def fxOf (fr : Fr E.T) (st : St E.T) : List Nat := ptrsL E fr.s ++ st.flatMap fun
 | .box _ c => ptrs E c
 | _ => []
def valOf (t : Ty) : DVal E.T → Option (I E.T t)
 | .val t' x => match tyEq t' t with
  | some h => some (castI h.down x)
  | none => none
 | _ => none
mutual
def datV (st : St E.T) (n : Nat) : DVal E.T → DVal E.T
 | .own k => match nth? st k with
  | some (.arr .froz e xs) => bif Nat.ble n k then .val (.slice e) xs else .own k
  | _ => .own k
 | .agg i fs =>
  match toHLWith E (valOf E) (E.fields i) (datL st n fs) with
  | some r => .val (.named i) (E.into i r)
  | none => .agg i (datL st n fs)
 | v => v
termination_by structural x => x
def datL (st : St E.T) (n : Nat) : List (DVal E.T) → List (DVal E.T)
 | [] => []
 | v :: r => datV st n v :: datL st n r
termination_by structural x => x
end
def datO (st : St E.T) (n : Nat) : Obj E.T → Obj E.T
 | .box ro c => .box ro (datV E st n c)
 | o => o
def datSt (st : St E.T) (n : Nat) : St E.T := st.map (datO E st n)
def valOut (fr : Fr E.T) (dst : Option Tmp) (st : St E.T) (v : DVal E.T) : Tree (OpOut E) := .ret (.next (put E fr dst v) st)
def parts' (fr : Fr E.T) (ps : Array (Nat × Operand)) : List (Nat × DVal E.T) := ps.toList.map fun x => (x.1, dget E fr x.2)
def dbuiltin (fr : Fr E.T) (st : St E.T) (dst : Option Tmp) (b : Builtin) (ts : List TypeId) (args : List (DVal E.T)) : Tree (OpOut E) :=
 match b, args, ts with
 | .len, [x], t :: _ => (dlen E st t x).bind (valOut E fr dst st)
 | .min, x :: r, _ => (dfold E false x r).bind (valOut E fr dst st)
 | .max, x :: r, _ => (dfold E true x r).bind (valOut E fr dst st)
 | .append, [s, x], [t, tx] =>
  (dappend E st t tx s x).bind fun p => match s with
   | .own o => .ret (.next (put E (killFr E st [o] fr) dst p.1) ((p.2).map (killObj E st [o])))
   | _ => .ret (.next (put E fr dst p.1) p.2)
 | _, _, _ => .fail
def dfieldV (t : TypeId) (x : DVal E.T) (j : Nat) : Tree (DVal E.T) :=
 match E.tk t with
 | .data (.named i) => Tree.need (Nat.blt j (E.fields i).length) (match dfld E i j x with
  | .undef => .fail
  | v => .ret v)
 | _ => .fail
def hasIdx : List Step → Bool
 | [] => false
 | .idx _ _ :: _ => true
 | .fld _ _ :: p => hasIdx p
def rowsOf (a v : DVal E.T) : List Nat :=
 match a with
 | .ptr _ p => bif hasIdx p then refs v else []
 | _ => []
def dop (S : FuncId → Option (Spec E)) (dr : Bool) (fr : Fr E.T) (st : St E.T) (o : Oper) : Tree (OpOut E) :=
 match o.op with
 | .move x => valOut E fr o.dst st (dget E fr x)
 | .assign x => valOut E fr o.dst st (dget E fr x)
 | .pick c a b => match dget E fr c with
  | .val .bool v => .ite v (valOut E fr o.dst st (dget E fr a)) (valOut E fr o.dst st (dget E fr b))
  | _ => .fail
 | .alloc t => match E.tk t with
  | .other => .fail
  | _ => .ret (.next (put E fr o.dst (.ptr st.length [])) (st ++ [.box false (zeroV E t)]))
 | .box t v => Tree.need (fits E st t (dget E fr v)) (.ret (.next (put E fr o.dst (.ptr st.length [])) (st ++ [.box false (dget E fr v)])))
 | .build t ps => (dbuild E st t (parts' E fr ps)).bind (valOut E fr o.dst st)
 | .buildSlice t n ps => match dr, live E st (refsL (ps.toList.map fun x => dget E fr x.2)) with
  | true, _ => (dbuildSlice E st t n (parts' E fr ps)).bind (valOut E fr o.dst st)
  | false, [] => (dbuildSlice E st t n (parts' E fr ps)).bind (valOut E fr o.dst st)
  | false, ks => (dbuildSlice E (freeze E st ks) t n ((parts' E fr ps).map fun x => (x.1, datV E (freeze E st ks) 0 x.2))).bind (valOut E fr o.dst (freeze E st ks))
 | .field t x j => (dfieldV E t (dget E fr x) j).bind (valOut E fr o.dst st)
 | .load t a => (dload E st t (dget E fr a)).bind (valOut E fr o.dst st)
 | .store t a v => match dr, live E st (rowsOf E (dget E fr a) (dget E fr v)) with
  | true, _ => (dstore E st t (dget E fr a) (dget E fr v)).bind fun st' => .ret (.next (put E fr o.dst .undef) st')
  | false, [] => (dstore E st t (dget E fr a) (dget E fr v)).bind fun st' => .ret (.next (put E fr o.dst .undef) st')
  | false, ks => (dstore E (freeze E st ks) t (dget E fr a) (datV E (freeze E st ks) 0 (dget E fr v))).bind fun st' => .ret (.next (put E fr o.dst .undef) st')
 | .nilCheck x => match dget E fr x with
  | .ptr p q => valOut E fr o.dst st (.ptr p q)
  | .rptr t y => valOut E fr o.dst st (.rptr t y)
  | .fn f c => valOut E fr o.dst st (.fn f c)
  | _ => .fail
 | .binOp op t x y _ => match dnil E op x y (dget E fr x) (dget E fr y) with
  | some b => Tree.need (isIface E t) (valOut E fr o.dst st (.val .bool b))
  | none => (dbin E st op t (dget E fr x) (dget E fr y)).bind (valOut E fr o.dst st)
 | .unOp op _ x => (dun E op (dget E fr x)).bind (valOut E fr o.dst st)
 | .convert src dst x => (dconv E st src dst (dget E fr x)).bind fun p => valOut E fr o.dst p.2 p.1
 | .makeInterface t x => match E.tk t with
  | .data ty => (Tree.ofOpt (toData E [] depth ty (dget E fr x))).bind fun y => Tree.need (flatTy E depth ty) (valOut E fr o.dst st (.ifc t (.val ty y)))
  | _ => .fail
 | .makeFunc (.func f) first captured => Tree.need (first.toList.isEmpty) (valOut E fr o.dst st (.fn f (captured.toList.map (dget E fr))))
 | .makeSlice t l c => (dmakeSlice E dr st t (dget E fr l) (dget E fr c)).bind fun p => valOut E fr o.dst p.2 p.1
 | .slice t x lo hi mx => (dslice E st t (dget E fr x) (lo.map (dget E fr)) (hi.map (dget E fr)) (mx.map (dget E fr))).bind fun p => valOut E fr o.dst p.2 p.1
 | .fieldAddr t x j => (dfieldAddr E t (dget E fr x) j).bind (valOut E fr o.dst st)
 | .indexAddr t x i => (dindexAddr E st t (dget E fr x) (dget E fr i)).bind (valOut E fr o.dst st)
 | .index t x i => (dindex E t (dget E fr x) (dget E fr i)).bind (valOut E fr o.dst st)
 | .typeAssert x _ t true => match E.tk t with
  | .data ty => match dget E fr x with
   | .ifc t' v => bif Nat.beq t' t then valOut E fr o.dst st (.tup [v, .val .bool true]) else valOut E fr o.dst st (.tup [zeroD E depth ty, .val .bool false])
   | .nilifc => valOut E fr o.dst st (.tup [zeroD E depth ty, .val .bool false])
   | _ => .fail
  | _ => .fail
 | .extract t i => match dget E fr t with
  | .tup vs => match nth? vs i with
   | some v => valOut E fr o.dst st v
   | none => .fail
  | _ => .fail
 | .panic x => match dget E fr x with
  | .ifc t v => .ret (.panic (.ifc t v) fr st)
  | _ => .fail
 | .defer { callee := .value f, args, .. } => match dget E fr f, fr.d with
  | .fn g cap, [] => .ret (.next (put E { fr with d := [(g, (args.toList.map (dget E fr)) ++ cap)] } o.dst .undef) st)
  | _, _ => .fail
 | .call { callee := .value f, args, .. } => (dcallE E S st (fxOf E fr st) (dget E fr f) (args.toList.map (dget E fr))).bind fun e => .ret (applyE E fr st o.dst e)
 | .call { callee := .builtin b, args, argTypes } => dbuiltin E fr st o.dst b argTypes.toList (args.toList.map (dget E fr))
 | _ => .fail
def guardTmp (ops : List Oper) (j : Nat) : Option Tmp :=
 match nth? ops j with
 | some o => o.dst
 | none => none
def onSlot {α : Type} (fr : Fr E.T) (t : Tmp) (yes no : Fr E.T → Tree α) : Tree α :=
 match nth fr.s t .undef with
 | .val .bool b => .ite b (yes { fr with s := upd fr.s t (.val .bool true) }) (no { fr with s := upd fr.s t (.val .bool false) })
 | _ => .fail
def guarded {α : Type} (all : List Oper) (g : Option (Nat × Bool)) (fr : Fr E.T) (go pass : Fr E.T → Tree α) : Tree α :=
 match g with
 | none => go fr
 | some (j, b) => match guardTmp all j with
  | some t => match nth fr.s t .undef with
   | .tup [] => pass fr
   | _ => match b with
    | true => onSlot E fr t go pass
    | false => onSlot E fr t pass go
  | none => .fail
inductive RgOut (E : Env) where
 | done (fr : Fr E.T) (st : St E.T)
 | panic (v : DVal E.T) (fr : Fr E.T) (st : St E.T)
def rowNext (o : Oper) : List Oper → Bool
 | o2 :: _ => match o.op, o.dst, o2.op with
  | .buildSlice t _ _, some d, .convert s t' (.tmp d') => isTy E t (.slice (.int .u8)) && (Nat.beq t s && (Nat.beq s t' && Nat.beq d d'))
  | _, _, _ => false
 | [] => false
def dopRow (fr : Fr E.T) (st : St E.T) (o : Oper) : Tree (OpOut E) :=
 match o.op with
 | .buildSlice t n ps => (dbuildSlice E st t n (parts' E fr ps)).bind fun
  | .val (.slice (.int .u8)) xs => .ret (.next (put E fr o.dst (.own st.length)) (st ++ [.arr .live (.int .u8) xs]))
  | _ => .fail
 | _ => .fail
def dops (S : FuncId → Option (Spec E)) (all : List Oper) : List Oper → Fr E.T → St E.T → Tree (RgOut E)
 | [], fr, st => .ret (.done fr st)
 | o :: r, fr, st =>
  let go (fr : Fr E.T) : Tree (RgOut E) := (bif rowNext E o r then dopRow E fr st o else dop E S false fr st o).bind fun
   | .next fr' st' => dops S all r fr' st'
   | .panic v fr' st' => .ret (.panic v fr' st')
  let pass (fr : Fr E.T) : Tree (RgOut E) := dops S all r (put E fr o.dst (.tup [])) st
  guarded E all o.guard fr go pass
def dval (ev : Operand → DVal E.T) (st : St E.T) : Op → Tree (DVal E.T)
 | .move x => .ret (ev x)
 | .assign x => .ret (ev x)
 | .pick c a b => match ev c with
  | .val .bool v => .ite v (.ret (ev a)) (.ret (ev b))
  | _ => .fail
 | .build t ps => dbuild E st t (ps.toList.map fun x => (x.1, ev x.2))
 | .buildSlice t n ps => dbuildSlice E st t n (ps.toList.map fun x => (x.1, ev x.2))
 | .load t a => dload E st t (ev a)
 | .nilCheck x => match ev x with
  | .ptr p q => .ret (.ptr p q)
  | .rptr t y => .ret (.rptr t y)
  | .fn f c => .ret (.fn f c)
  | _ => .fail
 | .binOp op t x y _ => match dnil E op x y (ev x) (ev y) with
  | some b => Tree.need (isIface E t) (.ret (.val .bool b))
  | none => dbin E st op t (ev x) (ev y)
 | .unOp op _ x => dun E op (ev x)
 | .convert src dst x => match E.tk dst with
  | .data (.slice _) => .fail
  | _ => (dconv E st src dst (ev x)).bind fun p => .ret p.1
 | .makeInterface t x => match E.tk t with
  | .data ty => (Tree.ofOpt (toData E [] depth ty (ev x))).bind fun y => Tree.need (flatTy E depth ty) (.ret (.ifc t (.val ty y)))
  | _ => .fail
 | .makeFunc (.func f) first captured => Tree.need (first.toList.isEmpty) (.ret (.fn f (captured.toList.map ev)))
 | .makeSlice t l c => (dmakeSlice E true st t (ev l) (ev c)).bind fun p => .ret p.1
 | .slice t x lo hi mx => match ev x with
  | .own _ => .fail
  | .ptr _ _ => .fail
  | x => (dslice E st t x (lo.map ev) (hi.map ev) (mx.map ev)).bind fun p => .ret p.1
 | .fieldAddr t x j => dfieldAddr E t (ev x) j
 | .field t x j => dfieldV E t (ev x) j
 | .indexAddr t x i => dindexAddr E st t (ev x) (ev i)
 | .index t x i => dindex E t (ev x) (ev i)
 | .typeAssert x _ t true => match E.tk t with
  | .data ty => match ev x with
   | .ifc t' v => bif Nat.beq t' t then .ret (.tup [v, .val .bool true]) else .ret (.tup [zeroD E depth ty, .val .bool false])
   | .nilifc => .ret (.tup [zeroD E depth ty, .val .bool false])
   | _ => .fail
  | _ => .fail
 | .extract t i => match ev t with
  | .tup vs => match nth? vs i with
   | some v => .ret v
   | none => .fail
  | _ => .fail
 | .call { callee := .builtin b, args, argTypes } => match b, args.toList.map ev, argTypes.toList with
  | .len, [x], t :: _ => dlen E st t x
  | .min, x :: r, _ => dfold E false x r
  | .max, x :: r, _ => dfold E true x r
  | _, _, _ => .fail
 | _ => .fail
def isDeadAt (st : St E.T) (i : Nat) : Bool :=
 match nth? st i with
 | some .dead => true
 | _ => false
mutual
def owns {T : Nat → Type} : DVal T → List Nat
 | .own k => [k]
 | .agg _ fs => ownsL fs
 | .tup fs => ownsL fs
 | .fn _ fs => ownsL fs
 | .ifc _ v => owns v
 | _ => []
termination_by structural x => x
def ownsL {T : Nat → Type} : List (DVal T) → List Nat
 | [] => []
 | v :: r => owns v ++ ownsL r
termination_by structural x => x
end
def movable (ev : Operand → DVal E.T) : Op → Bool
 | .store _ _ _ => false
 | .call { callee := .builtin .append, .. } => false
 | .call { callee := .builtin _, .. } => true
 | .call _ => false
 | .buildSlice _ _ ps => (ownsL (ps.toList.map fun x => ev x.2)).isEmpty
 | _ => true
def deff (S : FuncId → Option (Spec E)) (fx : List Nat) (ev : Operand → DVal E.T) (st : St E.T) (id : Nat) (o : Op) : Tree (Eff E.T) :=
 match o with
 | .alloc t => match E.tk t with
  | .other => .fail
  | _ => Tree.need (isDeadAt E st id) (.ret { res := .val (.ptr id []), ups := [(id, .box false (zeroV E t))], ks := [], news := [] })
 | .box t v => Tree.need (isDeadAt E st id && fits E st t (ev v)) (.ret { res := .val (.ptr id []), ups := [(id, .box false (ev v))], ks := [], news := [] })
 | .convert src dst x => match E.tk dst with
  | .data (.slice (.int .u8)) => match ev x with
   | .val .str s => Tree.need (isTy E src .str && isDeadAt E st id) (.ret { res := .val (.own id), ups := [(id, .arr .live (.int .u8) s)], ks := [], news := [] })
   | _ => .fail
  | _ => (dval E ev st (.convert src dst x)).bind fun v => .ret (eVal E v)
 | .makeSlice t l c => (dmakeSlice E true st t (ev l) (ev c)).bind fun p => match p.1 with
  | .val (.slice e) xs => Tree.need (isDeadAt E st id) (.ret { res := .val (.own id), ups := [(id, .arr .live e xs)], ks := [], news := [] })
  | _ => .fail
 | .buildSlice t n ps => match ownsL (ps.toList.map fun x => ev x.2) with
  | [] => (dval E ev st (.buildSlice t n ps)).bind fun v => .ret (eVal E v)
  | k :: r => (dbuildSlice E (freeze E st (k :: r)) t n (ps.toList.map fun x => (x.1, datV E (freeze E st (k :: r)) 0 (ev x.2)))).bind fun v => .ret { res := .val v, ups := frozen E st (k :: r), ks := [], news := [] }
 | .store t a v => match live E st (rowsOf E (ev a) (ev v)) with
  | [] => match ev a with
   | .ptr k p => match nth? st k with
    | some b => Tree.need (fits E st t (ev v) && placeOk E t p) ((setO E (fitsOld E st t) (ev v) b p).bind fun b' => .ret { res := .val .undef, ups := [(k, b')], ks := [], news := [] })
    | none => .fail
   | _ => .fail
  | k :: r => match ev a with
   | .ptr q p => match nth? (freeze E st (k :: r)) q with
    | some (.arr l e xs) => Tree.need ((fits E (freeze E st (k :: r)) t (datV E (freeze E st (k :: r)) 0 (ev v)) && placeOk E t p) && (owns (datV E (freeze E st (k :: r)) 0 (ev v))).isEmpty) ((setO E (fitsOld E (freeze E st (k :: r)) t) (datV E (freeze E st (k :: r)) 0 (ev v)) (.arr l e xs) p).bind fun b' => .ret { res := .val .undef, ups := frozen E st (k :: r) ++ [(q, b')], ks := [], news := [] })
    | _ => .fail
   | _ => .fail
 | .call { callee := .value f, args, .. } => dcallE E S st fx (ev f) (args.toList.map ev)
 | .call { callee := .builtin .append, args, argTypes } => match args.toList.map ev, argTypes.toList with
  | [s, x], [t, tx] => match s with
   | .nils => (dappend E st t tx .nils x).bind fun p => .ret { res := .val p.1, ups := [], ks := [], news := p.2.drop st.length }
   | .own k => (dappend E st t tx (.own k) x).bind fun p => match nth? p.2 k with
    | some ob => .ret { res := .val p.1, ups := [(k, ob)], ks := [k], news := [] }
    | none => .fail
   | _ => .fail
  | _, _ => .fail
 | o => (dval E ev st o).bind fun v => .ret (eVal E v)
def callRefs (ev : Operand → DVal E.T) (f : Operand) (args : Array Operand) : List Nat := refs (ev f) ++ refsL (args.toList.map ev)
def look (ev : Operand → DVal E.T) (st : St E.T) (id : Nat) (o : Op) (e : Eff E.T) : List Nat :=
 match o with
 | .move _ => []
 | .assign _ => []
 | .alloc _ => [id]
 | .load _ a => match ev a, e.res with
  | .ptr k _, .val v => k :: refs v
  | _, _ => []
 | .store _ a v => match ev a with
  | .ptr k _ => k :: (objAt E st k ++ refs (ev v))
  | _ => []
 | .call { callee := .value f, args, .. } => reach E st 1000 (callRefs E ev f args) []
 | .box _ v => id :: owns (ev v)
 | .convert _ d x => (bif isSl E d then [id] else []) ++ owns (ev x)
 | .makeSlice _ l c => id :: (owns (ev l) ++ owns (ev c))
 | o => ownsL (o.operands.toList.map ev)
def lookOk (ev : Operand → DVal E.T) (st : St E.T) (o : Op) : Bool :=
 match o with
 | .call { callee := .value f, args, .. } => closedB E st (reach E st 1000 (callRefs E ev f args) []) && (callRefs E ev f args).all (memB (reach E st 1000 (callRefs E ev f args) []))
 | .move _ => true
 | .assign _ => true
 | .alloc _ => true
 | .load _ _ => true
 | .store _ _ _ => true
 | .box _ v => (owns (ev v)).all (isArr E st)
 | .convert _ _ x => (owns (ev x)).all (isArr E st)
 | .makeSlice _ l c => (owns (ev l) ++ owns (ev c)).all (isArr E st)
 | o => (ownsL (o.operands.toList.map ev)).all (isArr E st)
mutual
def clean {T : Nat → Type} : DVal T → Bool
 | .agg _ fs => cleanL fs
 | .tup fs => cleanL fs
 | .fn _ fs => cleanL fs
 | .ifc _ v => clean v
 | .stale _ => false
 | .undef => false
 | _ => true
termination_by structural x => x
def cleanL {T : Nat → Type} : List (DVal T) → Bool
 | [] => true
 | v :: r => clean v && cleanL r
termination_by structural x => x
end
structure Ent where
 mv : Bool
 lk : List Nat
 up : List Nat
 ks : List Nat
 vr : List Nat
 cl : Bool
 pan : Bool
 ld : Option (Nat × List Step × List Nat)
 sto : Option (Nat × List Step)
def effRefs : EffRes E.T → List Nat
 | .val v => refs v
 | .panic v => refs v
def cleanRes : EffRes E.T → Bool
 | .val v => clean v
 | .panic v => clean v
def isPan : EffRes E.T → Bool
 | .val _ => false
 | .panic _ => true
def entOf (ev : Operand → DVal E.T) (st : St E.T) (id : Nat) (o : Op) (e : Eff E.T) : Ent :=
 {mv := movable E ev o
  lk := look E ev st id o e
  up := e.ups.map (·.1) ++ List.range' st.length e.news.length
  ks := e.ks
  vr := refsL (o.operands.toList.map ev) ++ effRefs E e.res
  cl := cleanL (o.operands.toList.map ev) && cleanRes E e.res
  pan := isPan E e.res
  ld := match o with
   | .load _ a => match ev a, e.res with
    | .ptr k p, .val v => some (k, p, refs v)
    | _, _ => none
   | _ => none
  sto := match o with
   | .store _ a v => match ev a with
    | .ptr k p => bif (refs (ev v)).isEmpty then some (k, p) else none
    | _ => none
   | _ => none }
def disj (a b : List Nat) : Bool := a.all fun k => !(memB b k)
def apartP : List Step → List Step → Bool
 | .fld i j :: p, .fld i' j' :: q => Nat.beq i i' && (bif Nat.beq j j' then apartP p q else true)
 | _, _ => false
def sepB (a b : Ent) : Bool :=
 disj a.up b.lk || match a.sto, b.ld with
  | some (k, p), some (k', q, rs) => Nat.beq k k' && (apartP p q && disj a.up rs)
  | _, _ => false
def indep (a b : Ent) : Bool :=
 (a.mv || b.mv) && (disj a.up b.up && (sepB a b && (sepB b a && (disj a.ks b.vr && (disj b.ks a.vr && ((a.ks.isEmpty || b.cl) && (b.ks.isEmpty || a.cl)) && ((!a.pan || b.up.isEmpty) && (!b.pan || a.up.isEmpty)))))))
def befB (bef : List Nat) (i j : Nat) : Bool := Nat.testBit (nth bef i 0) j
def logOk (bef : List Nat) (i : Nat) (a : Ent) : List (Nat × Ent) → Bool
 | [] => true
 | (j, b) :: r => (befB bef i j || indep b a) && logOk bef i a r
def isMove (o : Oper) : Bool :=
 match o.op, o.guard with
 | .move _, none => true
 | _, _ => false
def bits (acc : List Nat) : List Edge → Nat
 | [] => 0
 | e :: r => bif Region.binds .any e then (bits acc r ||| (2 ^ e.on ||| nth acc e.on 0)) else bits acc r
def befs : List Nat → List Oper → List Nat
 | acc, [] => acc
 | acc, o :: r => befs (acc ++ [bits acc o.after.toList]) r
def edgesOk : Nat → List Oper → Bool
 | _, [] => true
 | i, o :: r => o.after.toList.all (fun e => !(Region.binds .any e) || Nat.blt e.on i) && edgesOk (i + 1) r
structure Tri where
 i : Nat
 id : Nat
 o : Oper
def restOk (bef : List Nat) (i : Nat) : List Tri → Bool
 | [] => true
 | x :: r => (befB bef x.i i || isMove x.o) && restOk bef i r
def tempsB (all : Array Oper) (bef : List Nat) : List Tri → Bool
 | [] => true
 | x :: r => r.all (fun y => befB bef y.i x.i || x.o.apart all y.o) && tempsB all bef r
def makes : Op → Bool
 | .alloc _ => true
 | .box _ _ => true
 | .convert _ d _ => isSl E d
 | .makeSlice _ _ _ => true
 | _ => false
def tris : Nat → Nat → List Oper → List Tri
 | _, _, [] => []
 | i, id, o :: r => { i := i, id := id, o := o } :: tris (i + 1) (bif makes E o.op then id + 1 else id) r
def nMakes : List Oper → Nat
 | [] => 0
 | o :: r => bif makes E o.op then nMakes r + 1 else nMakes r
def clearDst (fr : Fr E.T) : List Oper → Fr E.T
 | [] => fr
 | o :: r => clearDst (put E fr o.dst .undef) r
def drun (S : FuncId → Option (Spec E)) (fx bef : List Nat) (all : List Oper) : List Tri → List (Nat × Ent) → Fr E.T → St E.T → Tree (RgOut E)
 | [], _, fr, st => .ret (.done fr st)
 | x :: r, log, fr, st =>
  let go (fr : Fr E.T) : Tree (RgOut E) := (deff E S fx (dget E fr) st x.id x.o.op).bind fun e =>
   Tree.need (lookOk E (dget E fr) st x.o.op && logOk bef x.i (entOf E (dget E fr) st x.id x.o.op e) log) (match applyE E fr st x.o.dst e with
    | .next fr' st' => drun S fx bef all r ((x.i, entOf E (dget E fr) st x.id x.o.op e) :: log) fr' st'
    | .panic v fr' st' => Tree.need (restOk bef x.i r) (.ret (.panic v (clearDst E fr' all) st')))
  let pass (fr : Fr E.T) : Tree (RgOut E) := drun S fx bef all r log (put E fr x.o.dst (.tup [])) st
  guarded E all x.o.guard fr go pass
def dregion (S : FuncId → Option (Spec E)) (ops : Array Oper) (fr : Fr E.T) (st : St E.T) : Tree (RgOut E) :=
 Tree.need (edgesOk 0 ops.toList && tempsB ops (befs [] ops.toList) (tris E 0 st.length ops.toList))
  (drun E S (fxOf E fr st) (befs [] ops.toList) ops.toList (tris E 0 st.length ops.toList) [] fr (addNew E st (List.replicate (nMakes E ops.toList) .dead)))
inductive DExit (T : Nat → Type) where
 | normal
 | exit (id : Nat)
 | ret
 | panic (v : DVal T)
abbrev CodeOut (E : Env) := DExit E.T × Fr E.T × St E.T
def ofRg : RgOut E → CodeOut E
 | .done fr st => (.normal, fr, st)
 | .panic v fr st => (.panic v, fr, st)
inductive Whr where
 | slot (t : Nat)
 | obj (o : Nat)
inductive Adj where
 | pro (w : Whr) (p : List Nat) (e : Ty)
 | dat (w : Whr) (p : List Nat)
 | frz (o : Nat)
 | rd (t : Nat)
 | und (t : Nat)
structure LoopInfo (E : Env) where
 keep : List Nat
 mvs : List (Nat × Nat) := []
 pro : List Adj := []
 closed : Option (Fr E.T → St E.T → Tree (CodeOut E))
 reg : List Adj := []
def nLoops : Code → Nat
 | .seq a b => nLoops a + nLoops b
 | .cond _ a b => nLoops a + nLoops b
 | .block _ c => nLoops c
 | .loop c => nLoops c + 1
 | .scope c => nLoops c
 | _ => 0
def keepOnly (ks : List Nat) (i : Nat) : List (DVal E.T) → List (DVal E.T)
 | [] => []
 | v :: r => (bif memB ks i then v else .undef) :: keepOnly ks (i + 1) r
def proV (k : Nat) (e : Ty) : List Nat → Option Ty → DVal E.T → Option (DVal E.T)
 | [], t, .nils => match t with
  | none => some (.own k)
  | some t => bif tyEqb t (.slice e) then some (.own k) else none
 | j :: p, _, .agg i fs => match nth? (E.fields i) j, nth? fs j with
  | some t, some v => match proV k e p (some t) v with
   | some v' => some (.agg i (upd fs j v'))
   | none => none
  | _, _ => none
 | _, _, _ => none
def subV : List Nat → DVal E.T → DVal E.T
 | [], v => v
 | j :: p, .agg i fs => subV p (nth fs j .undef)
 | _, _ => .undef
def datAt (st : St E.T) : List Nat → DVal E.T → DVal E.T
 | [], v => datV E st 0 v
 | j :: p, .agg i fs => .agg i (upd fs j (datAt st p (nth fs j .undef)))
 | _, v => v
def whrV (w : Whr) (fr : Fr E.T) (st : St E.T) : DVal E.T :=
 match w with
 | .slot t => nth fr.s t .undef
 | .obj o => match nth? st o with
  | some (.box _ c) => c
  | _ => .undef
def whrPut (w : Whr) (v : DVal E.T) (fr : Fr E.T) (st : St E.T) : Fr E.T × St E.T :=
 match w with
 | .slot t => ({ fr with s := upd fr.s t v }, st)
 | .obj o => match nth? st o with
  | some (.box ro _) => (fr, upd st o (.box ro v))
  | _ => (fr, st)
def adj1 (a : Adj) (fr : Fr E.T) (st : St E.T) : Option (Fr E.T × St E.T) :=
 match a with
 | .pro w p e => match proV E st.length e p none (whrV E w fr st) with
  | some v => some (whrPut E w v fr (st ++ [.arr .live e []]))
  | none => some (fr, st)
 | .dat w p =>
  let st1 := freeze E st (refs (subV E p (whrV E w fr st)))
  some (whrPut E w (datAt E st1 p (whrV E w fr st)) fr st1)
 | .frz o => some (fr, freeze E st [o])
 | .und t => some ({ fr with s := upd fr.s t .undef }, st)
 | .rd t => match nth fr.s t .undef with
  | .ptr o [] => match nth? st o with
   | some (.box _ (.val ty x)) => some ({ fr with s := upd fr.s t (.rptr ty x) }, upd st o (.box true (.val ty x)))
   | _ => some (fr, st)
  | _ => some (fr, st)
def adjs : List Adj → Fr E.T → St E.T → Option (Fr E.T × St E.T)
 | [], fr, st => some (fr, st)
 | a :: r, fr, st => match adj1 E a fr st with
  | some p => adjs r p.1 p.2
  | none => none
def headR (n : Nat) (s : List (DVal E.T)) : List (Nat × Nat) → List Nat
 | [] => List.range n
 | (q, k) :: r => match nth s q .undef with
  | .own m => bif Nat.ble n m then upd (headR n s r) k m else headR n s r
  | _ => headR n s r
def movOk (st : St E.T) (i : Nat) : List Nat → Bool
 | [] => true
 | m :: r => (Nat.beq m i || (match nth? st i, nth? st m with
  | some (.arr _ e _), some (.arr .live e' _) => tyEqb e e'
  | _, _ => false)) && movOk st (i + 1) r
def mvLive (st : St E.T) (mvs : List (Nat × Nat)) : Bool := mvs.all fun x => match nth? st x.2 with
 | some (.arr .live _ _) => true
 | _ => false
def rnFr (ρ : Nat → Nat) (fr : Fr E.T) : Fr E.T := { s := rnL ρ fr.s, d := fr.d.map fun x => (x.1, rnL ρ x.2) }
def headOf (ks : List Nat) (mvs : List (Nat × Nat)) (n : Nat) (fr : Fr E.T) (st : St E.T) : Option (Fr E.T × St E.T) :=
 match mvs with
 | [] =>
  let st1 := freeze E st (List.range' n (st.length - n))
  let fr' : Fr E.T := { s := datL E st1 n (keepOnly E ks 0 fr.s), d := fr.d }
  let st2 := datSt E st1 n
  bif (frRefs E fr' ++ stRefs E (st2.take n)).all (fun k => Nat.blt k n) then some (fr', st2.take n) else none
 | mvs =>
  let R := headR E n (keepOnly E ks 0 fr.s) mvs
  let st1 := freeze E st ((List.range' n (st.length - n)).filter fun k => !(memB R k))
  let fr' : Fr E.T := { s := datL E st1 n (keepOnly E ks 0 fr.s), d := fr.d }
  let st2 := datSt E st1 n
  bif Nat.beq R.length n && (closedB E st2 R && (movOk E st2 0 R && (frRefs E fr').all (memB R))) then some (rnFr E (idx R) fr', locSt E st2 [] R) else none
def loopT (step : Fr E.T → St E.T → Tree (CodeOut E)) (ks : List Nat) (mvs : List (Nat × Nat)) (n : Nat) : Nat → Fr E.T → St E.T → Tree (CodeOut E)
 | 0, _, _ => .fail
 | m + 1, fr, st =>
  match headOf E ks mvs n fr st with
  | some (fr', st') => (step fr' st').bind fun p => match p.1 with
   | .normal => loopT step ks mvs n m p.2.1 p.2.2
   | e => .ret (e, p.2.1, p.2.2)
  | none => .fail
def dcode (S : FuncId → Option (Spec E)) (L : Nat → LoopInfo E) (N : Nat) : Nat → Code → Fr E.T → St E.T → Tree (CodeOut E)
 | _, .skip, fr, st => .ret (.normal, fr, st)
 | i, .seq a b, fr, st => (dcode S L N i a fr st).bind fun p => match p.1 with
  | .normal => dcode S L N (i + nLoops a) b p.2.1 p.2.2
  | e => .ret (e, p.2.1, p.2.2)
 | _, .region id ops draw, fr, st =>
  match adjs E (L id).reg fr st with
  | some p => match draw with
   | false => (dops E S ops.toList ops.toList p.1 p.2).bind fun r => .ret (ofRg E r)
   | true => (dregion E S ops p.1 p.2).bind fun r => .ret (ofRg E r)
  | none => .fail
 | i, .cond c a b, fr, st =>
  match c with
  | .tmp t => onSlot E fr t (fun fr => dcode S L N i a fr st) (fun fr => dcode S L N (i + nLoops a) b fr st)
  | _ => .fail
 | i, .block id c, fr, st => (dcode S L N i c fr st).bind fun p => match p.1 with
  | .exit id' => bif Nat.beq id' id then .ret (.normal, p.2.1, p.2.2) else .ret (.exit id', p.2.1, p.2.2)
  | e => .ret (e, p.2.1, p.2.2)
 | i, .loop c, fr, st =>
  match adjs E (L i).pro fr st with
  | some p => match headOf E (L i).keep [] p.2.length p.1 p.2 with
   | some (fr', st') => Tree.need (mvLive E st' (L i).mvs) (match (L i).closed with
    | some f => f fr' st'
    | none => loopT E (dcode S L N (i + 1) c) (L i).keep (L i).mvs st'.length N fr' st')
   | none => .fail
  | none => .fail
 | _, .exit id, fr, st => .ret (.exit id, fr, st)
 | _, .ret, fr, st => .ret (.ret, fr, st)
 | _, _, _, _ => .fail
def dresult (fr : Fr E.T) (st : St E.T) : ResultVar → Tree (DVal E.T)
 | .tmp s => .ret (nth fr.s s .undef)
 | .cell a ty => dload E st ty (nth fr.s a .undef)
def dresults (fr : Fr E.T) (st : St E.T) : List ResultVar → Tree (List (DVal E.T))
 | r :: rs => (dresult E fr st r).bind fun v => (dresults fr st rs).bind fun vs => .ret (v :: vs)
 | [] => .ret []
def asData (st : St E.T) : List TypeId → List (DVal E.T) → Option (List (DVal E.T))
 | t :: ts, v :: vs =>
  match E.tk t with
  | .data ty => match toData E st depth ty v with
   | some x => match asData st ts vs with
    | some r => some (.val ty x :: r)
    | none => none
   | none => none
  | .other => none
  | _ => match single E v with
   | true => match asData st ts vs with
    | some r => some (v :: r)
    | none => none
   | false => none
 | [], [] => some []
 | _, _ => none
def ending (keep : Bool) (base : Nat) (fn : Func) (fr : Fr E.T) (st : St E.T) (pan : Option (DVal E.T)) : Tree (Res E.T × St E.T) :=
 match pan with
 | some v => match keep with
  | true => .ret (.panic v, st)
  | false => Tree.need ((stRefs E (st.take base) ++ refs v).all fun k => Nat.blt k base) (.ret (.panic v, st.take base))
 | none => (dresults E fr st fn.results.toList).bind fun vs =>
  match keep with
  | true => .ret (.ret vs, st)
  | false => match asData E st fn.resultTypes.toList vs with
   | some ws => Tree.need (((stRefs E (st.take base)) ++ refsL ws).all fun k => Nat.blt k base)
     (.ret (.ret ws, (freeze E st (live E st (refsL vs))).take base))
   | none => .fail
def leave (SD : FuncId → Option (DSpec E)) (keep : Bool) (base : Nat) (fn : Func) (fr : Fr E.T) (st : St E.T) (pan : Option (DVal E.T)) : Tree (Res E.T × St E.T) :=
 match fr.d with
 | [] => ending E keep base fn fr st pan
 | [(g, as)] => match SD g with
  | some F =>
   let fs := movers E st (frRefs E fr)
   let bs := stRefs E st ++ refsL as
   let hid := fs.filter fun k => !(memB bs k)
   (F as (hide E hid st) pan).bind fun p =>
    ending E keep base fn { killFr E st (fs.filter (memB bs)) fr with d := [] } (unhide E st hid p.2) (match p.1 with
     | true => none
     | false => pan)
  | none => .fail
 | _ => .fail
def frame (fn : Func) (args : List (DVal E.T)) : Fr E.T := { s := args ++ List.replicate (fn.ntmps - args.length) .undef, d := [] }
def dbody (S : FuncId → Option (Spec E)) (SD : FuncId → Option (DSpec E)) (L : Nat → LoopInfo E) (N : Nat) (keep : Bool) (fn : Func) (args : List (DVal E.T)) (st : St E.T) : Tree (Res E.T × St E.T) :=
 match fn.body with
 | some c => (dcode E S L N 0 c (frame E fn args) st).bind fun p => match p.1 with
  | .normal => leave E SD keep st.length fn p.2.1 p.2.2 none
  | .ret => leave E SD keep st.length fn p.2.1 p.2.2 none
  | .panic v => Tree.need (refs v).isEmpty (leave E SD keep st.length fn p.2.1 p.2.2 (some v))
  | .exit _ => .fail
 | none => .fail
def panVal : Option (DVal E.T) → DVal E.T
 | some v => v
 | none => .nilifc
def panB : Option (DVal E.T) → Bool
 | some _ => true
 | none => false
def finD (base : Nat) (pan : Option (DVal E.T)) (fr : Fr E.T) (st' : St E.T) : Tree (Bool × St E.T) :=
 match fr.d with
 | [] =>
  let st1 := freeze E st' (List.range' base (st'.length - base))
  let st2 := datSt E st1 base
  Tree.need ((stRefs E (st2.take base)).all fun k => Nat.blt k base) (.ret (panB E pan, st2.take base))
 | _ => .fail
end
end
open Go
noncomputable section
theorem nth_eq {α : Type} (l : List α) (n : Nat) (d : α) : nth l n d = l.getD n d := by
 induction l generalizing n with
 | nil => simp [nth_nil, nth_zero, nth_succ]
 | cons x r ih => cases n <;> simp [nth_nil, nth_zero, nth_succ, ih]
theorem nth?_eq {α : Type} (l : List α) (n : Nat) : nth? l n = l[n]? := by
 induction l generalizing n with
 | nil => simp [nthq_nil, nthq_zero, nthq_succ]
 | cons x r ih => cases n <;> simp [nthq_nil, nthq_zero, nthq_succ, ih]
theorem upd_eq {α : Type} (l : List α) (n : Nat) (v : α) : upd l n v = l.set n v := by
 induction l generalizing n with
 | nil => simp [upd_nil, upd_zero, upd_succ]
 | cons x r ih => cases n <;> simp [upd_nil, upd_zero, upd_succ, ih]
theorem nth?_lt {α : Type} {l : List α} {n : Nat} {x : α} (h : nth? l n = some x) : n < l.length := by
 rw [nth?_eq] at h
 exact (List.getElem?_eq_some_iff.1 h).1
theorem nth?_upd {α : Type} (l : List α) (n m : Nat) (v : α) : nth? (upd l n v) m = if n = m ∧ m < l.length then some v else nth? l m := by
 simp only [nth?_eq, upd_eq, List.getElem?_set]
 by_cases h : n = m
 ·subst h
  by_cases h' : n < l.length
  ·simp [h']
  ·simp [h']
 ·simp [h]
theorem length_upd {α : Type} (l : List α) (n : Nat) (v : α) : (upd l n v).length = l.length := by simp [upd_eq]
theorem nth?_append {α : Type} (l : List α) (v : α) (m : Nat) : nth? (l ++ [v]) m = if m = l.length then some v else nth? l m := by
 simp only [nth?_eq]
 by_cases h : m < l.length
 ·rw [List.getElem?_append_left h, if_neg (by omega)]
 ·by_cases h' : m = l.length
  ·subst h'; simp
  ·rw [if_neg h', List.getElem?_eq_none (by simp; omega), List.getElem?_eq_none (by omega)]
structure Sg where
 f : Nat → Value
 m : Nat → Prop
instance : CoeFun Sg fun _ => Nat → Value := ⟨Sg.f⟩
def oneC : Value → Bool
 | .agg _ => false
 | .tuple _ => false
 | _ => true
section
variable (E : Env) (w : World) (M : Nat → Prop)
def Mem (a : Option Addr) (cs : List Value) : Prop :=
 ∃ b off, a = some ⟨b, off, none⟩ ∧ ¬ M b ∧ b < w.heap.size ∧ ∀ q v, cs[q]? = some v → w.cell? ⟨b, off + q, none⟩ = some v
mutual
inductive CRep : (t : Ty) → I E.T t → List Value → Prop where
 | bool (b : Bool) : CRep .bool b [.bool b]
 | int (k : IntKind) (x : IntT k) : CRep (.int k) x [.int k (toI k x)]
 | str (s : ByteArray) (h : s.size ≤ lim) : CRep .str s.data.toList [.string s]
 | named (i : Nat) (x : E.T i) (cs : List Value) (h : FRep (E.fields i) (E.out i x) cs) : CRep (.named i) x cs
 | slice (e : Ty) (xs : List (I E.T e)) (a : Option Addr) (cap : Nat) (cs : List Value) (hl : LRep e xs cs) (hm : xs = [] ∨ Mem w M a cs) (hn : xs.length ≤ lim) (hc : xs.length ≤ cap) :
   CRep (.slice e) xs [.slice a xs.length cap]
 | arr (n : Nat) (e : Ty) (xs : List (I E.T e)) (cs : List Value) (hn : xs.length = n) (hl : LRep e xs cs) : CRep (.arr n e) xs cs
inductive FRep : (ts : List Ty) → HL E.T ts → List Value → Prop where
 | nil : FRep [] () []
 | cons (t : Ty) (ts : List Ty) (x : I E.T t) (r : HL E.T ts) (c1 c2 : List Value) (h : CRep t x c1) (h' : FRep ts r c2) : FRep (t :: ts) (x, r) (c1 ++ c2)
inductive LRep : (e : Ty) → List (I E.T e) → List Value → Prop where
 | nil (e : Ty) : LRep e [] []
 | cons (e : Ty) (x : I E.T e) (r : List (I E.T e)) (c1 c2 : List Value) (h : CRep e x c1) (h' : LRep e r c2) : LRep e (x :: r) (c1 ++ c2)
end
end
structure Keep (M M' : Nat → Prop) (w w' : World) : Prop where
 os : w'.os = w.os
 tape : w'.tape = w.tape
 output : w'.output = w.output
 size : w.heap.size ≤ w'.heap.size
 block : ∀ b, b < w.heap.size → ¬ M b → w'.heap[b]? = w.heap[b]?
 may : ∀ b, b < w.heap.size → M' b → M b
theorem Keep.refl (M : Nat → Prop) (w : World) : Keep M M w w := ⟨rfl, rfl, rfl, Nat.le_refl _, fun _ _ _ => rfl, fun _ _ h => h⟩
theorem Keep.trans {M M' M'' : Nat → Prop} {w w' w'' : World} (h : Keep M M' w w') (k : Keep M' M'' w' w'') : Keep M M'' w w'' :=
 ⟨k.os.trans h.os, k.tape.trans h.tape, k.output.trans h.output, Nat.le_trans h.size k.size,
  fun b hb hm => (k.block b (Nat.lt_of_lt_of_le hb h.size) (fun hm' => hm (h.may b hb hm'))).trans (h.block b hb hm),
  fun b hb hm => h.may b hb (k.may b (Nat.lt_of_lt_of_le hb h.size) hm)⟩
theorem cell_lt {w : World} {a : Addr} {v : Value} (h : w.cell? a = some v) : a.block < w.heap.size := by
 unfold World.cell? at h
 split at h
 ·rename_i c _ _ hh
  exact (Array.getElem?_eq_some_iff.1 hh).1
 ·cases h
theorem cell_congr {w w' : World} {a : Addr} (h : w'.heap[a.block]? = w.heap[a.block]?) : w'.cell? a = w.cell? a := by
 unfold World.cell?
 rw [h]
section
variable {E : Env} {w w' : World} {M M' : Nat → Prop}
structure Kept (M M' : Nat → Prop) (w w' : World) : Prop where
 size : w.heap.size ≤ w'.heap.size
 block : ∀ b, b < w.heap.size → ¬ M b → w'.heap[b]? = w.heap[b]?
 may : ∀ b, b < w.heap.size → M' b → M b
theorem Keep.kept {M M' : Nat → Prop} {w w' : World} (h : Keep M M' w w') : Kept M M' w w' := ⟨h.size, h.block, h.may⟩
theorem Kept.weaken {M M' : Nat → Prop} {w : World} (h : ∀ b, M' b → M b) : Kept M M' w w := ⟨Nat.le_refl _, fun _ _ _ => rfl, fun b _ hm => h b hm⟩
theorem Mem.keep {a : Option Addr} {cs : List Value} (k : Kept M M' w w') (h : Mem w M a cs) : Mem w' M' a cs := by
 obtain ⟨b, off, rfl, hb, hlt, hc⟩ := h
 exact ⟨b, off, rfl, fun hm => hb (k.may b hlt hm), Nat.lt_of_lt_of_le hlt k.size, fun q v hv => (cell_congr (k.block b hlt hb)).trans (hc q v hv)⟩
mutual
theorem CRep.keep (k : Kept M M' w w') : ∀ {t : Ty} {x : I E.T t} {cs : List Value}, CRep E w M t x cs → CRep E w' M' t x cs
 | _, _, _, .bool b => .bool b
 | _, _, _, .int i x => .int i x
 | _, _, _, .str s h => .str s h
 | _, _, _, .named i x cs h => .named i x cs (FRep.keep k h)
 | _, _, _, .slice e xs a cap cs hl hm hn hc => .slice e xs a cap cs (LRep.keep k hl) (hm.imp id (Mem.keep k)) hn hc
 | _, _, _, .arr n e xs cs hn hl => .arr n e xs cs hn (LRep.keep k hl)
theorem FRep.keep (k : Kept M M' w w') : ∀ {ts : List Ty} {r : HL E.T ts} {cs : List Value}, FRep E w M ts r cs → FRep E w' M' ts r cs
 | _, _, _, .nil => .nil
 | _, _, _, .cons t ts x r c1 c2 h h' => .cons t ts x r c1 c2 (CRep.keep k h) (FRep.keep k h')
theorem LRep.keep (k : Kept M M' w w') : ∀ {e : Ty} {xs : List (I E.T e)} {cs : List Value}, LRep E w M e xs cs → LRep E w' M' e xs cs
 | _, _, _, .nil e => .nil e
 | _, _, _, .cons e x r c1 c2 h h' => .cons e x r c1 c2 (CRep.keep k h) (LRep.keep k h')
end
structure EnvOk (E : Env) : Prop where
 into_out : ∀ i x, E.into i (E.out i x) = x
 out_into : ∀ i r, E.out i (E.into i r) = r
 nsize : ∀ i, E.nsize i = ((E.fields i).map E.size).sum
mutual
theorem CRep.len (ok : EnvOk E) : ∀ {t : Ty} {x : I E.T t} {cs : List Value}, CRep E w M t x cs → cs.length = E.size t
 | _, _, _, .bool b => rfl
 | _, _, _, .int i x => rfl
 | _, _, _, .str s h => rfl
 | _, _, _, .named i x cs h => by rw [FRep.len ok h, Env.size, ok.nsize]
 | _, _, _, .slice e xs a cap cs hl hm hn hc => rfl
 | _, _, _, .arr n e xs cs hn hl => by rw [LRep.len ok hl, Env.size, hn]
theorem FRep.len (ok : EnvOk E) : ∀ {ts : List Ty} {r : HL E.T ts} {cs : List Value}, FRep E w M ts r cs → cs.length = (ts.map E.size).sum
 | _, _, _, .nil => rfl
 | _, _, _, .cons t ts x r c1 c2 h h' => by rw [List.length_append, CRep.len ok h, FRep.len ok h']; simp
theorem LRep.len (ok : EnvOk E) : ∀ {e : Ty} {xs : List (I E.T e)} {cs : List Value}, LRep E w M e xs cs → cs.length = xs.length * E.size e
 | _, _, _, .nil e => by simp
 | _, _, _, .cons e x r c1 c2 h h' => by rw [List.length_append, CRep.len ok h, LRep.len ok h', List.length_cons, Nat.add_mul]; omega
end
mutual
theorem CRep.one : ∀ {t : Ty} {x : I E.T t} {cs : List Value}, CRep E w M t x cs → ∀ v ∈ cs, oneC v = true
 | _, _, _, .bool b => by simp [oneC]
 | _, _, _, .int i x => by simp [oneC]
 | _, _, _, .str s h => by simp [oneC]
 | _, _, _, .named i x cs h => FRep.one h
 | _, _, _, .slice e xs a cap cs hl hm hn hc => by simp [oneC]
 | _, _, _, .arr n e xs cs hn hl => LRep.one hl
theorem FRep.one : ∀ {ts : List Ty} {r : HL E.T ts} {cs : List Value}, FRep E w M ts r cs → ∀ v ∈ cs, oneC v = true
 | _, _, _, .nil => by simp
 | _, _, _, .cons t ts x r c1 c2 h h' => by
  intro v hv
  rcases List.mem_append.1 hv with hv | hv
  ·exact CRep.one h v hv
  ·exact FRep.one h' v hv
theorem LRep.one : ∀ {e : Ty} {xs : List (I E.T e)} {cs : List Value}, LRep E w M e xs cs → ∀ v ∈ cs, oneC v = true
 | _, _, _, .nil e => by simp
 | _, _, _, .cons e x r c1 c2 h h' => by
  intro v hv
  rcases List.mem_append.1 hv with hv | hv
  ·exact CRep.one h v hv
  ·exact LRep.one h' v hv
end
theorem LRep.at (ok : EnvOk E) : ∀ {e : Ty} {xs : List (I E.T e)} {cs : List Value}, LRep E w M e xs cs → ∀ (i : Nat) (x : I E.T e), xs[i]? = some x →
  ∃ c, CRep E w M e x c ∧ ∀ q v, c[q]? = some v → cs[i * E.size e + q]? = some v
 | _, _, _, .nil e => by intro i x h; simp at h
 | _, _, _, .cons e y r c1 c2 h h' => by
  intro i x hx
  have hl := CRep.len ok h
  cases i with
  | zero =>
   simp at hx; subst hx
   refine ⟨c1, h, fun q v hv => ?_⟩
   rw [Nat.zero_mul, Nat.zero_add, List.getElem?_append_left (List.getElem?_eq_some_iff.1 hv).1]; exact hv
  | succ i =>
   simp at hx
   obtain ⟨c, hc, hq⟩ := LRep.at ok h' i x hx
   refine ⟨c, hc, fun q v hv => ?_⟩
   rw [List.getElem?_append_right (by rw [hl, Nat.add_mul]; omega), hl]
   have : (i + 1) * E.size e + q - E.size e = i * E.size e + q := by rw [Nat.add_mul]; omega
   rw [this]; exact hq q v hv
end
def sing (E : Env) : DVal E.T → Bool
 | .undef => true
 | d => single E d
theorem sing_of {E : Env} {d : DVal E.T} (h : single E d = true) : sing E d = true := by cases d <;> first | exact h | rfl
theorem single_of {E : Env} {d : DVal E.T} (h : sing E d = true) (hn : d ≠ .undef) : single E d = true := by cases d <;> first | exact h | exact absurd rfl hn
def toV (t : Ty) (cs : List Value) : Value :=
 match isAggTy t with
 | true => .agg cs.toArray
 | false => cs.headD (.tuple #[])
def blk : Value → Option Nat
 | .pointer (some a) => some a.block
 | .slice (some a) _ (_ + 1) => some a.block
 | _ => none
theorem blk_nil (a : Option Addr) : blk (.slice a 0 0) = none := by cases a <;> rfl
theorem blk_row {g n cap b : Nat} (h : blk (.slice (some ⟨g, 0, none⟩) n cap) = some b) : b = g := by
 cases cap with
 | zero => cases h
 | succ c => cases h; rfl
section
variable (E : Env) (σ : Sg) (st : St E.T) (w : World) (M : Nat → Prop)
mutual
inductive VT : Ty → DVal E.T → List Value → Prop where
 | val (t : Ty) (x : I E.T t) (cs : List Value) (h : CRep E w M t x cs) : VT t (.val t x) cs
 | nils (e : Ty) (a : Option Addr) : VT (.slice e) .nils [.slice a 0 0]
 | own (k : Nat) (l : RM) (e : Ty) (xs : List (I E.T e)) (h : nth? st k = some (.arr l e xs)) : VT (.slice e) (.own k) [σ k]
 | stale (e : Ty) (v : Value) (h : oneC v = true) : VT (.slice e) (.stale e) [v]
 | agg (i : Nat) (fs : List (DVal E.T)) (cs : List Value) (h : VTs (E.fields i) fs cs) : VT (.named i) (.agg i fs) cs
inductive VTs : List Ty → List (DVal E.T) → List Value → Prop where
 | nil : VTs [] [] []
 | cons (t : Ty) (ts : List Ty) (v : DVal E.T) (r : List (DVal E.T)) (c1 c2 : List Value) (h : VT t v c1) (h' : VTs ts r c2) : VTs (t :: ts) (v :: r) (c1 ++ c2)
end
mutual
inductive VRep : DVal E.T → Value → Prop where
 | undef (v : Value) : VRep .undef v
 | data (t : Ty) (d : DVal E.T) (cs : List Value) (h : VT E σ st w M t d cs) : VRep d (toV t cs)
 | ptr (o : Nat) (p : List Step) (b : Nat) (h : blk (σ o) = some b) (hl : o < st.length) : VRep (.ptr o p) (.pointer (some ⟨b, E.pathOff p, none⟩))
 | nilptr : VRep .nilptr (.pointer none)
 | rptr (t : Ty) (x : I E.T t) (a : Addr) (cs : List Value) (h : CRep E w M t x cs) (hm : Mem w M (some a) cs) : VRep (.rptr t x) (.pointer (some a))
 | tup (vs : List (DVal E.T)) (us : List Value) (h : VReps vs us) : VRep (.tup vs) (.tuple us.toArray)
 | fn (f : FuncId) (vs : List (DVal E.T)) (us : List Value) (h : VReps vs us) : VRep (.fn f vs) (.func (.func f) #[] us.toArray)
 | nilfn : VRep .nilfn .nilFunc
 | ifc (t : TypeId) (d : DVal E.T) (v : Value) (h : VRep d v) : VRep (.ifc t d) (.iface t v)
 | nilifc : VRep .nilifc .nilIface
inductive VReps : List (DVal E.T) → List Value → Prop where
 | nil : VReps [] []
 | cons (v : DVal E.T) (r : List (DVal E.T)) (u : Value) (us : List Value) (h : VRep v u) (h' : VReps r us) : VReps (v :: r) (u :: us)
end
def OwnRow (e : Ty) (xs : List (I E.T e)) (v : Value) : Prop :=
 xs.length ≤ lim ∧ (((∃ a, v = .slice a 0 0) ∧ xs = []) ∨
  ∃ (g cap : Nat) (c : Array Value) (el : TypeId) (fr : Nat × Nat) (cs : List Value), v = .slice (some ⟨g, 0, none⟩) xs.length (cap + 1) ∧ xs.length ≤ cap + 1 ∧ w.heap[g]? = some (.cells c el fr) ∧ (cap + 1) * E.size e ≤ c.size ∧
   (∀ q, (e = .int .u8 → q < (cap + 1) * E.size e) → w.frozen? ⟨g, q, none⟩ = false) ∧ LRep E w M e xs cs ∧ (∀ (q : Nat) (u : Value), cs[q]? = some u → c[q]? = some u) ∧ (e = .int .u8 → fr.1 ≤ fr.2))
theorem OwnRow.mk' {e : Ty} {xs : List (I E.T e)} {g cap : Nat} {c : Array Value} {el : TypeId} {fr : Nat × Nat} {cs : List Value} (hx : xs.length ≤ lim) (hc : xs.length ≤ cap) (hh : w.heap[g]? = some (.cells c el fr)) (hz : cap * E.size e ≤ c.size)
  (hf : ∀ q, (e = .int .u8 → q < cap * E.size e) → w.frozen? ⟨g, q, none⟩ = false) (hl : LRep E w M e xs cs) (hq : ∀ (q : Nat) (u : Value), cs[q]? = some u → c[q]? = some u) {n : Nat} (hn : n = xs.length)
  (ho : e = .int .u8 → fr.1 ≤ fr.2 := by first | assumption | (intro _; exact Nat.le_refl _) | (intro _; exact Nat.le_succ _) | (intro h; exact absurd h (by assumption)) | (intro _; assumption)) : OwnRow E w M e xs (.slice (some ⟨g, 0, none⟩) n cap) := by
 subst hn
 cases cap with
 | zero => exact ⟨hx, .inl ⟨⟨some ⟨g, 0, none⟩, by rw [Nat.le_zero.1 hc]⟩, List.eq_nil_of_length_eq_zero (Nat.le_zero.1 hc)⟩⟩
 | succ cap => exact ⟨hx, .inr ⟨g, cap, c, el, fr, cs, rfl, hc, hh, hz, hf, hl, hq, ho⟩⟩
inductive ObRep : Value → Obj E.T → Prop where
 | box (ro : Bool) (d : DVal E.T) (b : Nat) (c : Array Value) (el : TypeId) (fr : Nat × Nat) (hh : w.heap[b]? = some (.cells c el fr))
   (hf : ∀ q, w.frozen? ⟨b, q, none⟩ = false)
   (hc : (∃ t, VT E σ st w M t d c.toList) ∨ (sing E d = true ∧ ∃ v, c.toList = [v] ∧ oneC v = true ∧ VRep E σ st w M d v)) : ObRep (.pointer (some ⟨b, 0, none⟩)) (.box ro d)
 | arr (l : RM) (e : Ty) (xs : List (I E.T e)) (v : Value) (h : OwnRow E w M e xs v) : ObRep v (.arr l e xs)
 | dead (v : Value) : ObRep v .dead
end
def mutable {T : Nat → Type} : Obj T → Bool
 | .box ro _ => !ro
 | .arr l _ _ => l.may
 | .dead => false
def isDead {T : Nat → Type} : Obj T → Bool
 | .dead => true
 | _ => false
def MB {T : Nat → Type} (σ : Sg) (st : St T) (b : Nat) : Prop := σ.m b ∨ ∃ o ob, nth? st o = some ob ∧ mutable ob = true ∧ blk (σ o) = some b
structure StRep (E : Env) (σ : Sg) (st : St E.T) (w : World) : Prop where
 obj : ∀ o ob, nth? st o = some ob → ObRep E σ st w (MB σ st) (σ o) ob
 apart : ∀ o o' ob ob' b, o ≠ o' → nth? st o = some ob → nth? st o' = some ob' → mutable ob = true → isDead ob' = false → blk (σ o) = some b → blk (σ o') = some b → False
 amb : ∀ b, σ.m b → b < w.heap.size
 out : ∀ o ob b, nth? st o = some ob → isDead ob = false → blk (σ o) = some b → ¬ σ.m b
end
open Go
section
variable {E : Env} {σ σ' : Sg} {st st' : St E.T} {w w' : World} {M M' : Nat → Prop}
structure Same (σ σ' : Sg) (st st' : St E.T) (k : Nat) : Prop where
 at_ : σ' k = σ k
 arr : ∀ l e xs, nth? st k = some (.arr l e xs) → ∃ l' xs', nth? st' k = some (.arr l' e xs')
 lt : k < st.length → k < st'.length
theorem Same.refl (k : Nat) : Same σ σ st st k := ⟨rfl, fun l e xs h => ⟨l, xs, h⟩, id⟩
mutual
theorem VT.keep (kp : Kept M M' w w') : ∀ {t : Ty} {d : DVal E.T} {cs : List Value}, VT E σ st w M t d cs → (∀ k ∈ refs d, Same σ σ' st st' k) → VT E σ' st' w' M' t d cs
 | _, _, _, .val t x cs h, hs => .val t x cs (CRep.keep kp h)
 | _, _, _, .nils e a, hs => .nils e a
 | _, _, _, .own k l e xs h, hs => by
  have hk := hs k (by simp [refs])
  obtain ⟨l', xs', h'⟩ := hk.arr l e xs h
  have := VT.own (σ := σ') (w := w') (M := M') k l' e xs' h'
  rwa [hk.at_] at this
 | _, _, _, .stale e v h, hs => .stale e v h
 | _, _, _, .agg i fs cs h, hs => .agg i fs cs (VTs.keep kp h (fun k hk => hs k (by simpa [refs] using hk)))
theorem VTs.keep (kp : Kept M M' w w') : ∀ {ts : List Ty} {ds : List (DVal E.T)} {cs : List Value}, VTs E σ st w M ts ds cs → (∀ k ∈ refsL ds, Same σ σ' st st' k) → VTs E σ' st' w' M' ts ds cs
 | _, _, _, .nil, hs => .nil
 | _, _, _, .cons t ts v r c1 c2 h h', hs => .cons t ts v r c1 c2 (VT.keep kp h (fun k hk => hs k (by simp [refsL, hk]))) (VTs.keep kp h' (fun k hk => hs k (by simp [refsL, hk])))
end
mutual
theorem VRep.keep (kp : Kept M M' w w') : ∀ {d : DVal E.T} {v : Value}, VRep E σ st w M d v → (∀ k ∈ refs d, Same σ σ' st st' k) → VRep E σ' st' w' M' d v
 | _, _, .undef v, hs => .undef v
 | _, _, .data t d cs h, hs => .data t d cs (VT.keep kp h hs)
 | _, _, .ptr o p b h hl, hs => by
  have hk := hs o (by simp [refs])
  exact .ptr o p b (by rw [hk.at_]; exact h) (hk.lt hl)
 | _, _, .nilptr, hs => .nilptr
 | _, _, .rptr t x a cs h hm, hs => .rptr t x a cs (CRep.keep kp h) (Mem.keep kp hm)
 | _, _, .tup vs us h, hs => .tup vs us (VReps.keep kp h (fun k hk => hs k (by simpa [refs] using hk)))
 | _, _, .fn f vs us h, hs => .fn f vs us (VReps.keep kp h (fun k hk => hs k (by simpa [refs] using hk)))
 | _, _, .nilfn, hs => .nilfn
 | _, _, .ifc t d v h, hs => .ifc t d v (VRep.keep kp h (fun k hk => hs k (by simpa [refs] using hk)))
 | _, _, .nilifc, hs => .nilifc
theorem VReps.keep (kp : Kept M M' w w') : ∀ {ds : List (DVal E.T)} {us : List Value}, VReps E σ st w M ds us → (∀ k ∈ refsL ds, Same σ σ' st st' k) → VReps E σ' st' w' M' ds us
 | _, _, .nil, hs => .nil
 | _, _, .cons v r u us h h', hs => .cons v r u us (VRep.keep kp h (fun k hk => hs k (by simp [refsL, hk]))) (VReps.keep kp h' (fun k hk => hs k (by simp [refsL, hk])))
end
theorem OwnRow.keep (kp : Kept M M' w w') {e : Ty} {xs : List (I E.T e)} {v : Value} (hb : ∀ g, blk v = some g → w'.heap[g]? = w.heap[g]?) (h : OwnRow E w M e xs v) : OwnRow E w' M' e xs v := by
 refine ⟨h.1, ?_⟩
 rcases h.2 with h | ⟨g, cap, c, el, fr, cs, rfl, hc, hh, hz, hf, hl, hq, ho⟩
 ·exact .inl h
 ·have hg := hb g rfl
  refine .inr ⟨g, cap, c, el, fr, cs, rfl, hc, hg.trans hh, hz, fun q hq => ?_, LRep.keep kp hl, hq, ho⟩
  have := hf q hq
  unfold World.frozen? at this ⊢
  simp only [hg]
  exact this
theorem ObRep.keep (kp : Kept M M' w w') {v : Value} {ob : Obj E.T} (hb : ∀ g, blk v = some g → w'.heap[g]? = w.heap[g]?) (hs : ∀ k ∈ objRefs E ob, Same σ σ' st st' k) (h : ObRep E σ st w M v ob) :
  ObRep E σ' st' w' M' v ob := by
 cases h with
 | box ro d b c el fr hh hf hc =>
  have hg := hb b rfl
  refine .box ro d b c el fr (hg.trans hh) (fun q => ?_) ?_
  ·have := hf q
   unfold World.frozen? at this ⊢
   simp only [hg]
   exact this
  ·rcases hc with ⟨t, ht⟩ | ⟨hs1, u, hu, ho, hv⟩
   ·exact .inl ⟨t, VT.keep kp ht hs⟩
   ·exact .inr ⟨hs1, u, hu, ho, VRep.keep kp hv hs⟩
 | arr l e xs v h => exact .arr l e xs v (OwnRow.keep kp hb h)
 | dead v => exact .dead v
mutual
theorem VT.len (ok : EnvOk E) : ∀ {t : Ty} {d : DVal E.T} {cs : List Value}, VT E σ st w M t d cs → cs.length = E.size t
 | _, _, _, .val t x cs h => CRep.len ok h
 | _, _, _, .nils e a => rfl
 | _, _, _, .own k l e xs h => rfl
 | _, _, _, .stale e v h => rfl
 | _, _, _, .agg i fs cs h => by rw [VTs.len ok h, Env.size, ok.nsize]
theorem VTs.len (ok : EnvOk E) : ∀ {ts : List Ty} {ds : List (DVal E.T)} {cs : List Value}, VTs E σ st w M ts ds cs → cs.length = (ts.map E.size).sum
 | _, _, _, .nil => rfl
 | _, _, _, .cons t ts v r c1 c2 h h' => by rw [List.length_append, VT.len ok h, VTs.len ok h']; simp
end
theorem own_one (hst : StRep E σ st w) {k : Nat} {l : RM} {e : Ty} {xs : List (I E.T e)} (h : nth? st k = some (.arr l e xs)) : oneC (σ k) = true := by
 have := hst.obj k _ h
 generalize σ k = u at this
 cases this with
 | arr l e xs v h =>
  rcases h.2 with ⟨⟨a, h⟩, _⟩ | ⟨g, cap, c, el, fr, cs, h, _⟩ <;> rw [h] <;> rfl
mutual
theorem VT.one (hst : StRep E σ st w) : ∀ {t : Ty} {d : DVal E.T} {cs : List Value}, VT E σ st w M t d cs → ∀ v ∈ cs, oneC v = true
 | _, _, _, .val t x cs h => CRep.one h
 | _, _, _, .nils e a => by simp [oneC]
 | _, _, _, .own k l e xs h => by simpa using own_one hst h
 | _, _, _, .stale e v h => by simpa using h
 | _, _, _, .agg i fs cs h => VTs.one hst h
theorem VTs.one (hst : StRep E σ st w) : ∀ {ts : List Ty} {ds : List (DVal E.T)} {cs : List Value}, VTs E σ st w M ts ds cs → ∀ v ∈ cs, oneC v = true
 | _, _, _, .nil => by simp
 | _, _, _, .cons t ts v r c1 c2 h h' => by
  intro u hu
  rcases List.mem_append.1 hu with hu | hu
  ·exact VT.one hst h u hu
  ·exact VTs.one hst h' u hu
end
theorem memB_iff (ks : List Nat) (k : Nat) : memB ks k = true ↔ k ∈ ks := by
 unfold memB
 rw [List.any_eq_true]
 constructor
 ·rintro ⟨x, hx, h⟩
  rw [Nat.eq_of_beq_eq_true h]; exact hx
 ·intro h; exact ⟨k, h, Nat.beq_refl k⟩
mutual
theorem refs_kill (ks : List Nat) : ∀ (d : DVal E.T) (k : Nat), k ∈ refs (kill E st ks d) → k ∈ refs d ∧ k ∉ ks
 | .own o, k => by
  unfold kill
  cases hm : memB ks o with
  | true => simp only [cond_true]; split <;> simp [refs]
  | false =>
   simp only [cond_false, refs]
   intro h
   have hk : k = o := by simpa using h
   subst hk
   exact ⟨by simp, fun hk => by rw [(memB_iff ks k).2 hk] at hm; cases hm⟩
 | .ptr o p, k => by
  unfold kill
  cases hm : memB ks o with
  | true => simp [refs]
  | false =>
   simp only [cond_false, refs]
   intro h
   have hk : k = o := by simpa using h
   subst hk
   exact ⟨by simp, fun hk => by rw [(memB_iff ks k).2 hk] at hm; cases hm⟩
 | .agg i fs, k => by unfold kill; simpa [refs] using refsL_kill ks fs k
 | .tup fs, k => by unfold kill; simpa [refs] using refsL_kill ks fs k
 | .fn f fs, k => by unfold kill; simpa [refs] using refsL_kill ks fs k
 | .ifc t v, k => by unfold kill; simpa [refs] using refs_kill ks v k
 | .val t x, k => by unfold kill; simp [refs]
 | .nils, k => by unfold kill; simp [refs]
 | .nilptr, k => by unfold kill; simp [refs]
 | .rptr t x, k => by unfold kill; simp [refs]
 | .nilfn, k => by unfold kill; simp [refs]
 | .nilifc, k => by unfold kill; simp [refs]
 | .stale e, k => by unfold kill; simp [refs]
 | .undef, k => by unfold kill; simp [refs]
theorem refsL_kill (ks : List Nat) : ∀ (ds : List (DVal E.T)) (k : Nat), k ∈ refsL (killL E st ks ds) → k ∈ refsL ds ∧ k ∉ ks
 | [], k => by simp [killL, refsL]
 | d :: r, k => by
  simp only [killL, refsL, List.mem_append]
  rintro (h | h)
  ·obtain ⟨h1, h2⟩ := refs_kill ks d k h; exact ⟨.inl h1, h2⟩
  ·obtain ⟨h1, h2⟩ := refsL_kill ks r k h; exact ⟨.inr h1, h2⟩
end
mutual
theorem VT.kill (hst : StRep E σ st w) (ks : List Nat) : ∀ {t : Ty} {d : DVal E.T} {cs : List Value}, VT E σ st w M t d cs → VT E σ st w M t (D.kill E st ks d) cs
 | _, _, _, .val t x cs h => by unfold D.kill; exact .val t x cs h
 | _, _, _, .nils e a => by unfold D.kill; exact .nils e a
 | _, _, _, .own k l e xs h => by
  unfold D.kill
  cases memB ks k with
  | true => simp only [cond_true, h]; exact .stale e _ (own_one hst h)
  | false => simp only [cond_false]; exact .own k l e xs h
 | _, _, _, .stale e v h => by unfold D.kill; exact .stale e v h
 | _, _, _, .agg i fs cs h => by unfold D.kill; exact .agg i _ cs (VTs.kill hst ks h)
theorem VTs.kill (hst : StRep E σ st w) (ks : List Nat) : ∀ {ts : List Ty} {ds : List (DVal E.T)} {cs : List Value}, VTs E σ st w M ts ds cs → VTs E σ st w M ts (D.killL E st ks ds) cs
 | _, _, _, .nil => by unfold D.killL; exact .nil
 | _, _, _, .cons t ts v r c1 c2 h h' => by unfold D.killL; exact .cons t ts _ _ c1 c2 (VT.kill hst ks h) (VTs.kill hst ks h')
end
mutual
theorem VRep.kill (hst : StRep E σ st w) (ks : List Nat) : ∀ {d : DVal E.T} {v : Value}, VRep E σ st w M d v → VRep E σ st w M (D.kill E st ks d) v
 | _, _, .undef v => by unfold D.kill; exact .undef v
 | _, _, .data t d cs h => .data t _ cs (VT.kill hst ks h)
 | _, _, .ptr o p b h hl => by
  unfold D.kill
  cases memB ks o with
  | true => exact .undef _
  | false => exact .ptr o p b h hl
 | _, _, .nilptr => by unfold D.kill; exact .nilptr
 | _, _, .rptr t x a cs h hm => by unfold D.kill; exact .rptr t x a cs h hm
 | _, _, .tup vs us h => by unfold D.kill; exact .tup _ us (VReps.kill hst ks h)
 | _, _, .fn f vs us h => by unfold D.kill; exact .fn f _ us (VReps.kill hst ks h)
 | _, _, .nilfn => by unfold D.kill; exact .nilfn
 | _, _, .ifc t d v h => by unfold D.kill; exact .ifc t _ v (VRep.kill hst ks h)
 | _, _, .nilifc => by unfold D.kill; exact .nilifc
theorem VReps.kill (hst : StRep E σ st w) (ks : List Nat) : ∀ {ds : List (DVal E.T)} {us : List Value}, VReps E σ st w M ds us → VReps E σ st w M (D.killL E st ks ds) us
 | _, _, .nil => by unfold D.killL; exact .nil
 | _, _, .cons v r u us h h' => by unfold D.killL; exact .cons _ _ u us (VRep.kill hst ks h) (VReps.kill hst ks h')
end
end
open Go
noncomputable section
def spl (c : Array Value) (o : Nat) : List Value → Array Value
 | [] => c
 | v :: r => spl (c.setIfInBounds o v) (o + 1) r
theorem spl_size (vs : List Value) : ∀ (c : Array Value) (o : Nat), (spl c o vs).size = c.size := by
 induction vs with
 | nil => intro c o; rfl
 | cons v r ih => intro c o; simp [spl, ih]
theorem spl_get (vs : List Value) : ∀ (c : Array Value) (o q : Nat), o + vs.length ≤ c.size → (spl c o vs)[q]? = if o ≤ q ∧ q < o + vs.length then vs[q - o]? else c[q]? := by
 induction vs with
 | nil => intro c o q h; rw [if_neg (by simp)]; rfl
 | cons v r ih =>
  intro c o q h
  simp only [spl]
  rw [ih _ _ _ (by simp at h ⊢; omega)]
  simp only [List.length_cons] at h ⊢
  by_cases h1 : o + 1 ≤ q ∧ q < o + 1 + r.length
  ·rw [if_pos h1, if_pos (by omega)]
   have : q - o = (q - (o + 1)) + 1 := by omega
   rw [this]; rfl
  ·rw [if_neg h1]
   by_cases h2 : q = o
   ·subst h2
    rw [if_pos (by omega), Array.getElem?_setIfInBounds]
    simp; omega
   ·rw [if_neg (by omega), Array.getElem?_setIfInBounds, if_neg (by omega)]
def putB (w : World) (b : Nat) (o : Go.Obj) : World := { w with heap := w.heap.setIfInBounds b o }
theorem putB_at {w : World} {b : Nat} {o : Go.Obj} (h : b < w.heap.size) : (putB w b o).heap[b]? = some o := by
 simp [putB, h]
theorem putB_ne {w : World} {b b' : Nat} {o : Go.Obj} (h : b ≠ b') : (putB w b o).heap[b']? = w.heap[b']? := by
 simp [putB, h]
theorem putB_size {w : World} {b : Nat} {o : Go.Obj} : (putB w b o).heap.size = w.heap.size := by simp [putB]
theorem putB_same {w : World} {b : Nat} {o : Go.Obj} (h : w.heap[b]? = some o) : putB w b o = w := by
 have : w.heap.setIfInBounds b o = w.heap := by
  apply Array.ext_getElem?
  intro i
  rw [Array.getElem?_setIfInBounds]
  split
  ·rename_i hi; subst hi
   obtain ⟨hb, h'⟩ := Array.getElem?_eq_some_iff.1 h
   simp [hb, h']
  ·rfl
 unfold putB
 rw [this]
theorem addr_add (b off i : Nat) : (⟨b, off, none⟩ : Addr).add i = ⟨b, off + i, none⟩ := by
 unfold Addr.add
 split
 ·rename_i h; subst h; rfl
 ·rfl
theorem one_store (P : Program) (w : World) (b q : Nat) (v : Value) (c : Array Value) (el : TypeId) (fr : Nat × Nat) (hv : oneC v = true) (hh : w.heap[b]? = some (.cells c el fr)) (hq : q < c.size)
  (hf : w.frozen? ⟨b, q, none⟩ = false) : (store ⟨b, q, none⟩ v).run P w = .ok () (putB w b (.cells (c.setIfInBounds q v) el fr)) := by
 have hc : w.cell? ⟨b, q, none⟩ = some c[q] := by simp [World.cell?, hh, hq]
 have hw : w.setCell ⟨b, q, none⟩ v = putB w b (.cells (c.setIfInBounds q v) el fr) := by
  obtain ⟨hb, hh'⟩ := Array.getElem?_eq_some_iff.1 hh
  unfold World.setCell putB
  congr 1
  apply Array.ext_getElem?
  intro i
  rw [Array.getElem?_setIfInBounds, Array.getElem?_modify]
  by_cases hi : b = i
  ·subst hi; simp [hh', hb]
  ·simp [hi]
 cases v <;> first | (simp [oneC] at hv; done) | simp [store, Sem.run, hc, hf, hw]
theorem run_store_list (P : Program) (b off : Nat) (el : TypeId) (fr : Nat × Nat) : ∀ (vs : List Value) (i : Nat) (w : World) (c : Array Value), w.heap[b]? = some (.cells c el fr) → off + i + vs.length ≤ c.size →
  (∀ v ∈ vs, oneC v = true) → (∀ q, off + i ≤ q → q < off + i + vs.length → w.frozen? ⟨b, q, none⟩ = false) →
  (storeCells ⟨b, off, none⟩ vs i).run P w = .ok () (putB w b (.cells (spl c (off + i) vs) el fr)) := by
 intro vs
 induction vs with
 | nil =>
  intro i w c hh _ _ _
  simp [storeCells, spl, putB_same hh]
 | cons v r ih =>
  intro i w c hh hl h1 hf
  simp only [List.length_cons] at hl hf
  have hst := one_store P w b (off + i) v c el fr (h1 v (by simp)) hh (by omega) (hf _ (Nat.le_refl _) (by omega))
  have hb := (Array.getElem?_eq_some_iff.1 hh).1
  simp only [storeCells, addr_add, Sem.run_bind, hst, Result.andThen_ok]
  have hp := ih (i + 1) (putB w b (.cells (c.setIfInBounds (off + i) v) el fr)) (c.setIfInBounds (off + i) v) (putB_at hb) (by simp; omega) (fun v hv => h1 v (by simp [hv])) (by
   intro q h2 h3
   have := hf q (by omega) (by omega)
   unfold World.frozen? at this ⊢
   rw [putB_at hb]
   rw [hh] at this
   exact this)
  rw [hp]
  simp [spl, putB, Nat.add_assoc]
def liveArr {T : Nat → Type} : Obj T → Bool
 | .arr l _ _ => l.grows
 | _ => false
inductive Turn {T : Nat → Type} : Obj T → Obj T → Prop where
 | box (ro ro' : Bool) (c c' : DVal T) : Turn (.box ro c) (.box ro' c')
 | arr (l l' : RM) (e : Ty) (xs xs' : List (I T e)) : Turn (.arr l e xs) (.arr l' e xs')
 | dead : Turn .dead .dead
theorem Turn.refl {T : Nat → Type} (o : Obj T) : Turn o o := by
 cases o with
 | box ro c => exact .box ro ro c c
 | arr l e xs => exact .arr l l e xs xs
 | dead => exact .dead
theorem Turn.trans {T : Nat → Type} {a b c : Obj T} (h : Turn a b) (k : Turn b c) : Turn a c := by
 cases h <;> cases k <;> constructor
structure Stay {T : Nat → Type} (σ σ' : Sg) (st st' : St T) : Prop where
 same : ∀ o ob, nth? st o = some ob → liveArr ob = false → σ' o = σ o
 kind : ∀ o ob, nth? st o = some ob → ∃ ob', nth? st' o = some ob' ∧ Turn ob ob' ∧ (liveArr ob = false → liveArr ob' = false)
theorem Stay.refl {T : Nat → Type} (σ : Sg) (st : St T) : Stay σ σ st st := ⟨fun _ _ _ _ => rfl, fun o ob h => ⟨ob, h, Turn.refl ob, id⟩⟩
theorem Stay.trans {T : Nat → Type} {σ σ' σ'' : Sg} {st st' st'' : St T} (h : Stay σ σ' st st') (k : Stay σ' σ'' st' st'') : Stay σ σ'' st st'' := by
 refine ⟨fun o ob ho hl => ?_, fun o ob ho => ?_⟩
 ·obtain ⟨ob', h', _, hl'⟩ := h.kind o ob ho
  rw [k.same o ob' h' (hl' hl), h.same o ob ho hl]
 ·obtain ⟨ob', h', t', hl'⟩ := h.kind o ob ho
  obtain ⟨ob'', h'', t'', hl''⟩ := k.kind o ob' h'
  exact ⟨ob'', h'', t'.trans t'', fun hl => hl'' (hl' hl)⟩
theorem Stay.len {T : Nat → Type} {σ σ' : Sg} {st st' : St T} (h : Stay σ σ' st st') : st.length ≤ st'.length := by
 rcases Nat.eq_zero_or_pos st.length with h0 | h0
 ·omega
 ·have : nth? st (st.length - 1) = some (st[st.length - 1]'(by omega)) := by rw [nth?_eq]; exact List.getElem?_eq_getElem _
  obtain ⟨ob', h', _⟩ := h.kind _ _ this
  have := nth?_lt h'
  omega
structure Amb (σ σ' : Sg) (w w' : World) : Prop where
 m : σ'.m = σ.m
 hid : ∀ b, σ.m b → w'.heap[b]? = w.heap[b]?
theorem Amb.refl (σ : Sg) (w : World) : Amb σ σ w w := ⟨rfl, fun _ _ => rfl⟩
theorem Amb.trans {σ σ' σ'' : Sg} {w w' w'' : World} (h : Amb σ σ' w w') (k : Amb σ' σ'' w' w'') : Amb σ σ'' w w'' :=
 ⟨k.m.trans h.m, fun b hb => (k.hid b (by rw [h.m]; exact hb)).trans (h.hid b hb)⟩
structure Mv {E : Env} (σ σ' : Sg) (st st' : St E.T) (w w' : World) : Prop where
 rep : StRep E σ' st' w'
 keep : Keep (MB σ st) (MB σ' st') w w'
 stay : Stay σ σ' st st'
 amb : Amb σ σ' w w'
 name : ∀ k, k < st.length → σ' k = σ k
section
variable {E : Env} {σ σ' σ'' : Sg} {st st' st'' : St E.T} {w w' w'' : World}
theorem Mv.refl (h : StRep E σ st w) : Mv σ σ st st w w := ⟨h, Keep.refl _ _, Stay.refl _ _, Amb.refl _ _, fun _ _ => rfl⟩
theorem Mv.trans (h : Mv (E := E) σ σ' st st' w w') (k : Mv σ' σ'' st' st'' w' w'') : Mv σ σ'' st st'' w w'' :=
 ⟨k.rep, h.keep.trans k.keep, h.stay.trans k.stay, h.amb.trans k.amb, fun o ho => (k.name o (Nat.lt_of_lt_of_le ho h.stay.len)).trans (h.name o ho)⟩
theorem Mv.same (h : Mv (E := E) σ σ' st st' w w') (k : Nat) (hk : k < st.length) : Same σ σ' st st' k := by
 refine ⟨h.name k hk, fun l e xs hh => ?_, fun _ => Nat.lt_of_lt_of_le hk h.stay.len⟩
 obtain ⟨ob', h', t', _⟩ := h.stay.kind k _ hh
 cases t' with
 | arr l l' e xs xs' => exact ⟨l', xs', h'⟩
mutual
theorem VT.refs : ∀ {t : Ty} {d : DVal E.T} {cs : List Value} {M : Nat → Prop}, VT E σ st w M t d cs → ∀ k ∈ D.refs d, k < st.length
 | _, _, _, _, .val t x cs h => by simp [D.refs]
 | _, _, _, _, .nils e a => by simp [D.refs]
 | _, _, _, _, .own k l e xs h => by simpa [D.refs] using nth?_lt h
 | _, _, _, _, .stale e v h => by simp [D.refs]
 | _, _, _, _, .agg i fs cs h => by simpa [D.refs] using VTs.refs h
theorem VTs.refs : ∀ {ts : List Ty} {ds : List (DVal E.T)} {cs : List Value} {M : Nat → Prop}, VTs E σ st w M ts ds cs → ∀ k ∈ refsL ds, k < st.length
 | _, _, _, _, .nil => by simp [refsL]
 | _, _, _, _, .cons t ts v r c1 c2 h h' => by
  intro k hk
  simp only [refsL, List.mem_append] at hk
  rcases hk with hk | hk
  ·exact VT.refs h k hk
  ·exact VTs.refs h' k hk
end
mutual
theorem VRep.refs : ∀ {d : DVal E.T} {v : Value} {M : Nat → Prop}, VRep E σ st w M d v → ∀ k ∈ D.refs d, k < st.length
 | _, _, _, .undef v => by simp [D.refs]
 | _, _, _, .data t d cs h => VT.refs h
 | _, _, _, .ptr o p b h hl => by simpa [D.refs] using hl
 | _, _, _, .nilptr => by simp [D.refs]
 | _, _, _, .rptr t x a cs h hm => by simp [D.refs]
 | _, _, _, .tup vs us h => by simpa [D.refs] using VReps.refs h
 | _, _, _, .fn f vs us h => by simpa [D.refs] using VReps.refs h
 | _, _, _, .nilfn => by simp [D.refs]
 | _, _, _, .ifc t d v h => by simpa [D.refs] using VRep.refs h
 | _, _, _, .nilifc => by simp [D.refs]
theorem VReps.refs : ∀ {ds : List (DVal E.T)} {us : List Value} {M : Nat → Prop}, VReps E σ st w M ds us → ∀ k ∈ refsL ds, k < st.length
 | _, _, _, .nil => by simp [refsL]
 | _, _, _, .cons v r u us h h' => by
  intro k hk
  simp only [refsL, List.mem_append] at hk
  rcases hk with hk | hk
  ·exact VRep.refs h k hk
  ·exact VReps.refs h' k hk
end
theorem Mv.vrep (h : Mv (E := E) σ σ' st st' w w') {d : DVal E.T} {v : Value} (hv : VRep E σ st w (MB σ st) d v) : VRep E σ' st' w' (MB σ' st') d v :=
 VRep.keep h.keep.kept hv fun k hk => h.same k (VRep.refs hv k hk)
theorem Mv.vreps (h : Mv (E := E) σ σ' st st' w w') {ds : List (DVal E.T)} {us : List Value} (hv : VReps E σ st w (MB σ st) ds us) : VReps E σ' st' w' (MB σ' st') ds us :=
 VReps.keep h.keep.kept hv fun k hk => h.same k (VReps.refs hv k hk)
theorem objRefs_lt (hst : StRep E σ st w) {o : Nat} {ob : Obj E.T} (h : nth? st o = some ob) : ∀ k ∈ objRefs E ob, k < st.length := by
 intro k hk
 have := hst.obj o ob h
 generalize σ o = u at this
 cases this with
 | box ro d b c el fr hh hf hc =>
  simp only [objRefs] at hk
  rcases hc with ⟨t, ht⟩ | ⟨_, v, _, _, hv⟩
  ·exact VT.refs ht k hk
  ·exact VRep.refs hv k hk
 | arr l e xs v h => simp [objRefs] at hk
 | dead v => simp [objRefs] at hk
theorem Mv.mk' (hst : StRep E σ st w) (hk : Keep (MB σ st) (MB σ' st') w w') (hs : Stay σ σ' st st') (hamb : Amb σ σ' w w') (hn : ∀ k, k < st.length → σ' k = σ k)
  (hout : ∀ o ob b, nth? st' o = some ob → isDead ob = false → blk (σ' o) = some b → ¬ σ.m b)
  (hob : ∀ o ob', nth? st' o = some ob' → (nth? st o = some ob' ∧ ∀ g, blk (σ o) = some g → isDead ob' = false → w'.heap[g]? = w.heap[g]?) ∨ ObRep E σ' st' w' (MB σ' st') (σ' o) ob')
  (hap : ∀ o o' ob ob' b, o ≠ o' → nth? st' o = some ob → nth? st' o' = some ob' → mutable ob = true → isDead ob' = false → blk (σ' o) = some b → blk (σ' o') = some b → False) :
  Mv σ σ' st st' w w' := by
 have hsame : ∀ k, k < st.length → Same σ σ' st st' k := by
  intro k hk
  refine ⟨hn k hk, fun l e xs hh => ?_, fun _ => Nat.lt_of_lt_of_le hk hs.len⟩
  obtain ⟨ob', h', t', _⟩ := hs.kind k _ hh
  cases t' with
  | arr l l' e xs xs' => exact ⟨l', xs', h'⟩
 refine ⟨⟨fun o ob' ho => ?_, hap, fun b hb => Nat.lt_of_lt_of_le (hst.amb b (by rw [← hamb.m]; exact hb)) hk.size, fun o ob b ho hd hb => by rw [hamb.m]; exact hout o ob b ho hd hb⟩, hk, hs, hamb, hn⟩
 rcases hob o ob' ho with ⟨ho', hb⟩ | h
 ·have hlt := nth?_lt ho'
  rw [hn o hlt]
  cases hd : isDead ob' with
  | true =>
   cases ob' with
   | dead => exact .dead _
   | box ro c => cases hd
   | arr l e xs => cases hd
  | false => exact ObRep.keep hk.kept (fun g hg => hb g hg hd) (fun k hk => hsame k (objRefs_lt hst ho' k hk)) (hst.obj o ob' ho')
 ·exact h
theorem blk_lt (hst : StRep E σ st w) {o : Nat} {ob : Obj E.T} (h : nth? st o = some ob) (hd : isDead ob = false) {b : Nat} (hb : blk (σ o) = some b) : b < w.heap.size := by
 have := hst.obj o ob h
 generalize σ o = u at this hb
 cases this with
 | box ro d b' c el fr hh hf hc =>
  simp only [blk, Option.some.injEq] at hb
  subst hb
  exact (Array.getElem?_eq_some_iff.1 hh).1
 | arr l e xs _ hr =>
  rcases hr.2 with ⟨⟨a, rfl⟩, _⟩ | ⟨g, cap, c, el, fr, cs, rfl, hc, hh, _⟩
  ·rw [blk_nil] at hb; cases hb
  ·simp only [blk, Option.some.injEq] at hb
   subst hb
   exact (Array.getElem?_eq_some_iff.1 hh).1
 | dead v => cases hd
theorem Mv.grow (hst : StRep E σ st w) (o : Go.Obj) : Mv σ σ st st w { w with heap := w.heap.push o } := by
 have hb : ∀ b, b < w.heap.size → (w.heap.push o)[b]? = w.heap[b]? := fun b hb => by simp [Array.getElem?_push, Nat.ne_of_lt hb]
 refine Mv.mk' hst ⟨rfl, rfl, rfl, by simp, fun b hlt _ => hb b hlt, fun _ _ h => h⟩ (Stay.refl _ _) ⟨rfl, fun b h => hb b (hst.amb b h)⟩ (fun _ _ => rfl) hst.out (fun p ob' ho => .inl ⟨ho, fun g hg hd => hb g (blk_lt hst ho hd hg)⟩) hst.apart
theorem Mv.drawn (hst : StRep E σ st w) (n : Nat) : Mv σ σ st st w { w with drawn := n } := by
 refine Mv.mk' hst ⟨rfl, rfl, rfl, Nat.le_refl _, fun b hlt _ => rfl, fun _ _ h => h⟩ (Stay.refl _ _) ⟨rfl, fun _ _ => rfl⟩ (fun _ _ => rfl) hst.out (fun p ob' ho => .inl ⟨ho, fun g hg hd => rfl⟩) hst.apart
def setN (σ : Sg) (n : Nat) (v : Value) : Sg := { σ with f := fun k => if k = n then v else σ k }
theorem setN_ne {n k : Nat} {v : Value} (h : k ≠ n) : setN σ n v k = σ k := if_neg h
theorem setN_at {n : Nat} {v : Value} : setN σ n v n = v := if_pos rfl
theorem MB_push {ob : Obj E.T} {v : Value} {b : Nat} (h : MB (setN σ st.length v) (st ++ [ob]) b) : MB σ st b ∨ blk v = some b := by
 rcases h with h | ⟨o, ob', ho, hm, hb⟩
 ·exact .inl (.inl h)
 rw [nth?_append] at ho
 by_cases h' : o = st.length
 ·subst h'; rw [setN_at] at hb; exact .inr hb
 ·rw [setN_ne h'] at hb; rw [if_neg h'] at ho; exact .inl (.inr ⟨o, ob', ho, hm, hb⟩)
theorem Mv.new (hst : StRep E σ st w) (v : Value) (ob : Obj E.T) (w' : World) (h1 : w'.os = w.os) (h2 : w'.tape = w.tape) (h3 : w'.output = w.output) (h4 : w.heap.size ≤ w'.heap.size) (h5 : ∀ b, b < w.heap.size → w'.heap[b]? = w.heap[b]?)
  (hv : ∀ b, blk v = some b → w.heap.size ≤ b) (hob : ObRep E (setN σ st.length v) (st ++ [ob]) w' (MB (setN σ st.length v) (st ++ [ob])) v ob) :
  Mv σ (setN σ st.length v) st (st ++ [ob]) w w' := by
 refine Mv.mk' hst ⟨h1, h2, h3, h4, fun b hlt _ => h5 b hlt, fun b hlt h => ?_⟩ ⟨fun p q hp _ => ?_, fun p q hp => ⟨q, ?_, Turn.refl q, id⟩⟩ ⟨rfl, fun b h => h5 b (hst.amb b h)⟩ (fun k hk => setN_ne (Nat.ne_of_lt hk)) (fun p q b hp hd hb => ?_) (fun p ob' ho => ?_) ?_
 ·rcases MB_push h with h | h
  ·exact h
  ·have := hv b h; omega
 ·exact setN_ne (Nat.ne_of_lt (nth?_lt hp))
 ·rw [nth?_append, if_neg (Nat.ne_of_lt (nth?_lt hp))]; exact hp
 ·rw [nth?_append] at hp
  by_cases h' : p = st.length
  ·subst h'
   rw [setN_at] at hb
   intro h
   have e1 := hv b hb
   have e2 := hst.amb b h
   omega
  ·rw [if_neg h'] at hp
   rw [setN_ne h'] at hb
   exact hst.out p q b hp hd hb
 ·rw [nth?_append] at ho
  by_cases h' : p = st.length
  ·subst h'
   rw [if_pos rfl] at ho
   cases ho
   right
   rw [setN_at]; exact hob
  ·rw [if_neg h'] at ho
   exact .inl ⟨ho, fun g hg hd => h5 g (blk_lt hst ho hd hg)⟩
 ·intro p q ob1 ob2 b hne hp hq hm hd hb1 hb2
  rw [nth?_append] at hp hq
  by_cases h1 : p = st.length
  ·subst h1
   rw [setN_at] at hb1
   have h2 : q ≠ st.length := fun h => hne h.symm
   rw [setN_ne h2] at hb2
   rw [if_neg h2] at hq
   have e1 := hv b hb1
   have e2 := blk_lt hst hq hd hb2
   omega
  ·rw [setN_ne h1] at hb1
   rw [if_neg h1] at hp
   by_cases h2 : q = st.length
   ·subst h2
    rw [setN_at] at hb2
    have e1 := hv b hb2
    have e2 := blk_lt hst hp (by cases ob1 <;> first | rfl | cases hm) hb1
    omega
   ·rw [setN_ne h2] at hb2
    rw [if_neg h2] at hq
    exact hst.apart p q ob1 ob2 b hne hp hq hm hd hb1 hb2
theorem Mv.push (hst : StRep E σ st w) (o : Go.Obj) (v : Value) (ob : Obj E.T) (hv : ∀ b, blk v = some b → b = w.heap.size)
  (hob : ObRep E (setN σ st.length v) (st ++ [ob]) { w with heap := w.heap.push o } (MB (setN σ st.length v) (st ++ [ob])) v ob) :
  Mv σ (setN σ st.length v) st (st ++ [ob]) w { w with heap := w.heap.push o } :=
 Mv.new hst v ob _ rfl rfl rfl (by simp) (fun b hb => by simp [Array.getElem?_push, Nat.ne_of_lt hb]) (fun b hb => Nat.le_of_eq (hv b hb).symm) hob
theorem Mv.push0 (hst : StRep E σ st w) (v : Value) (ob : Obj E.T) (hv : blk v = none) (hob : ∀ σ' st' w' M', ObRep E σ' st' w' M' v ob) : Mv σ (setN σ st.length v) st (st ++ [ob]) w w :=
 Mv.new hst v ob _ rfl rfl rfl (Nat.le_refl _) (fun _ _ => rfl) (fun b hb => by rw [hv] at hb; cases hb) (hob _ _ _ _)
theorem MB_upd {o : Nat} {ob ob' : Obj E.T} {b : Nat} (ho : nth? st o = some ob) (hm : mutable ob' = true → mutable ob = true) (h : MB σ (upd st o ob') b) : MB σ st b := by
 rcases h with h | ⟨p, q, hp, hq, hb⟩
 ·exact .inl h
 right
 rw [nth?_upd] at hp
 by_cases h' : o = p ∧ p < st.length
 ·rw [if_pos h'] at hp
  cases hp
  exact ⟨o, ob, ho, hm hq, by rw [h'.1]; exact hb⟩
 ·rw [if_neg h'] at hp; exact ⟨p, q, hp, hq, hb⟩
theorem Mv.upd (hst : StRep E σ st w) {o : Nat} {ob ob' : Obj E.T} (ho : nth? st o = some ob) (ht : Turn ob ob') (hm : mutable ob' = true → mutable ob = true) (hl : liveArr ob = false → liveArr ob' = false)
  (w' : World) (h1 : w'.os = w.os) (h2 : w'.tape = w.tape) (h3 : w'.output = w.output) (h4 : w'.heap.size = w.heap.size)
  (h5 : ∀ b, (mutable ob = true → blk (σ o) ≠ some b) → w'.heap[b]? = w.heap[b]?)
  (hob : ObRep E σ (D.upd st o ob') w' (MB σ (D.upd st o ob')) (σ o) ob') : Mv σ σ st (D.upd st o ob') w w' := by
 have hlt := nth?_lt ho
 have hdd : isDead ob' = isDead ob := by cases ht <;> rfl
 refine Mv.mk' hst ⟨h1, h2, h3, by omega, fun b hb hM => h5 b (fun hmu hbb => hM (.inr ⟨o, ob, ho, hmu, hbb⟩)), fun b _ h => MB_upd ho hm h⟩ ⟨fun _ _ _ _ => rfl, fun p q hp => ?_⟩ ⟨rfl, fun b hb => h5 b (fun hmu hbb => hst.out o ob b ho (by cases ob <;> first | rfl | cases hmu) hbb hb)⟩ (fun _ _ => rfl) (fun p q b hp hd hb => ?_) (fun p q hp => ?_) ?_
 ·by_cases h : o = p
  ·subst h
   rw [ho] at hp; cases hp
   exact ⟨ob', by rw [nth?_upd, if_pos ⟨rfl, hlt⟩], ht, hl⟩
  ·exact ⟨q, by rw [nth?_upd, if_neg (fun h' => h h'.1)]; exact hp, Turn.refl q, id⟩
 ·rw [nth?_upd] at hp
  by_cases h : o = p
  ·subst h
   rw [if_pos ⟨rfl, hlt⟩] at hp; cases hp
   exact hst.out o ob b ho (by rw [← hdd]; exact hd) hb
  ·rw [if_neg (fun h' => h h'.1)] at hp
   exact hst.out p q b hp hd hb
 ·rw [nth?_upd] at hp
  by_cases h : o = p
  ·subst h
   rw [if_pos ⟨rfl, hlt⟩] at hp; cases hp
   exact .inr hob
  ·rw [if_neg (fun h' => h h'.1)] at hp
   exact .inl ⟨hp, fun g hg hd => h5 g (fun hmu hbb => hst.apart o p ob q g h ho hp hmu hd hbb hg)⟩
 ·intro p q ob1 ob2 b hne hp hq hmu hd hb1 hb2
  rw [nth?_upd] at hp hq
  by_cases h : o = p
  ·subst h
   rw [if_pos ⟨rfl, hlt⟩] at hp; cases hp
   rw [if_neg (fun h' => hne h'.1)] at hq
   exact hst.apart o q ob ob2 b hne ho hq (hm hmu) hd hb1 hb2
  ·rw [if_neg (fun h' => h h'.1)] at hp
   by_cases h' : o = q
   ·subst h'
    rw [if_pos ⟨rfl, hlt⟩] at hq; cases hq
    exact hst.apart p o ob1 ob b hne hp ho hmu (by rw [← hdd]; exact hd) hb1 hb2
   ·rw [if_neg (fun h'' => h' h''.1)] at hq
    exact hst.apart p q ob1 ob2 b hne hp hq hmu hd hb1 hb2
end
end
open Go
noncomputable section
def zeroC (E : Env) : Nat → Ty → List Value
 | 0, _ => []
 | d + 1, t =>
  match t with
  | .bool => [.bool false]
  | .int k => [.int k 0]
  | .str => [.string ⟨#[]⟩]
  | .slice _ => [.slice none 0 0]
  | .arr n e => (List.replicate n (zeroC E d e)).flatten
  | .named i => (E.fields i).flatMap (zeroC E d)
def Desc (P : Program) (E : Env) (t : TypeId) : Ty → Prop
 | .bool => P.underlying t = some .bool
 | .int k => P.underlying t = some (.int k)
 | .str => P.underlying t = some .string
 | .slice e => ∃ te, P.underlying t = some (.slice te) ∧ E.tk te = .data e
 | .arr n e => ∃ te, P.underlying t = some (.array n te) ∧ E.tk te = .data e
 | .named i => ∃ fs, P.underlying t = some (.struct fs) ∧ fs.size = (E.fields i).length ∧
   ∀ (j : Nat) (f : Field), fs[j]? = some f → ∃ ty, nth? (E.fields i) j = some ty ∧ E.tk f.type = .data ty ∧ f.offset = E.foff i j ∧ E.size ty ≠ 0 ∧ f.name ≠ "_"
def zOk (E : Env) : Nat → Ty → Bool
 | 0, _ => false
 | d + 1, t =>
  match t with
  | .arr _ e => zOk E d e
  | .named i => (E.fields i).all (zOk E d)
  | _ => true
structure TyM (P : Program) (E : Env) (t : TypeId) (ty : Ty) : Prop where
 info : ∃ i, P.info? t = some i ∧ i.size = E.size ty ∧ i.bytes ≤ 8192 ∧ i.zero = some (toV ty (zeroC E depth ty))
 desc : Desc P E t ty
 deep : zOk E depth ty = true
structure Sound (P : Program) (E : Env) : Prop extends EnvOk E where
 eqb : ∀ i x y, E.eqb i x y = eqHL E (E.fields i) (E.out i x) (E.out i y)
 cmp : ∀ t, E.cmp t = true → P.eqGuardType P.depth t = false ∧ P.stoodInHeld t = false ∧ (∀ fs, P.underlying t = some (.struct fs) → ∀ f ∈ fs.toList, E.cmp f.type = true) ∧ ∀ n e, P.underlying t = some (.array n e) → E.cmp e = true
 data : ∀ t ty, E.tk t = .data ty → TyM P E t ty
 ptr : ∀ t, E.tk t = .ptr → (∃ e, P.underlying t = some (.pointer e)) ∧ ∃ i, P.info? t = some i ∧ i.size = 1 ∧ i.zero = some (.pointer none)
 func : ∀ t, E.tk t = .func → (∃ a b c, P.underlying t = some (.func a b c)) ∧ ∃ i, P.info? t = some i ∧ i.size = 1 ∧ i.zero = some .nilFunc
 iface : ∀ t, E.tk t = .iface → (∃ m, P.underlying t = some (.interface m)) ∧ ∃ i, P.info? t = some i ∧ i.size = 1 ∧ i.zero = some .nilIface
section
variable {P : Program} {E : Env} {w : World}
theorem run_info {t : TypeId} {i : TypeInfo} (h : P.info? t = some i) (w : World) : (typeInfo t).run P w = .ok i w := by simp [typeInfo, h]
theorem run_size {t : TypeId} {i : TypeInfo} (h : P.info? t = some i) (w : World) : (sizeOf t).run P w = .ok i.size w := by simp [sizeOf, run_info h]
theorem run_under {t : TypeId} {d : TypeDesc} (h : P.underlying t = some d) (w : World) : (underlying t).run P w = .ok d w := by simp [underlying, h]
theorem run_isAgg (S : Sound P E) {t : TypeId} {ty : Ty} (h : E.tk t = .data ty) (w : World) : (isAgg t).run P w = .ok (isAggTy ty) w := by
 have hd := (S.data t ty h).desc
 unfold isAgg
 cases ty with
 | bool => simp [run_under hd, isAggTy]
 | int k => simp [run_under hd, isAggTy]
 | str => simp [run_under hd, isAggTy]
 | slice e => obtain ⟨te, hu, _⟩ := hd; simp [run_under hu, isAggTy]
 | arr n e => obtain ⟨te, hu, _⟩ := hd; simp [run_under hu, isAggTy]
 | named i => obtain ⟨fs, hu, _⟩ := hd; simp [run_under hu, isAggTy]
theorem run_isAgg_single (S : Sound P E) {t : TypeId} (h : E.tk t = .ptr ∨ E.tk t = .func ∨ E.tk t = .iface) (w : World) : (isAgg t).run P w = .ok false w := by
 unfold isAgg
 rcases h with h | h | h
 ·obtain ⟨⟨e, hu⟩, _⟩ := S.ptr t h; simp [run_under hu]
 ·obtain ⟨⟨a, b, c, hu⟩, _⟩ := S.func t h; simp [run_under hu]
 ·obtain ⟨⟨e, hu⟩, _⟩ := S.iface t h; simp [run_under hu]
theorem run_loadVar_data (S : Sound P E) {t : TypeId} {ty : Ty} (h : E.tk t = .data ty) (b off : Nat) (cs : List Value) (hl : cs.length = E.size ty)
  (hc : ∀ q v, cs[q]? = some v → w.cell? ⟨b, off + q, none⟩ = some v) (h1 : isAggTy ty = false → E.size ty = 1) :
  (loadVar t ⟨b, off, none⟩).run P w = .ok (toV ty cs) w := by
 obtain ⟨i, hi, hs, _⟩ := (S.data t ty h).info
 unfold loadVar
 simp only [Sem.run_bind, run_isAgg S h, Result.andThen_ok]
 cases ha : isAggTy ty with
 | true =>
  have := run_loadCells_list (P := P) (w := w) ⟨b, off, none⟩ cs (fun j v hv => by rw [addr_add]; exact hc j v hv)
  simp [run_size hi, hs, ← hl, this, toV, ha]
 | false =>
  have hs1 := h1 ha
  obtain ⟨v, rfl⟩ : ∃ v, cs = [v] := List.length_eq_one_iff.1 (by omega)
  have := hc 0 v rfl
  rw [Nat.add_zero] at this
  simp [run_load, this, toV, ha]
theorem size_one {ty : Ty} (h : isAggTy ty = false) : E.size ty = 1 := by
 cases ty <;> first | rfl | cases h
variable {σ : Sg} {st : St E.T} {M : Nat → Prop}
theorem dataTy {d : DVal E.T} {v : Value} (hd : ∃ t, fitsD E st t d = true) (h : VRep E σ st w M d v) : ∃ t cs, VT E σ st w M t d cs ∧ v = toV t cs := by
 obtain ⟨t, ht⟩ := hd
 cases h with
 | data t d cs h => exact ⟨t, cs, h, rfl⟩
 | undef v => cases ht
 | ptr o p b h hl => cases ht
 | nilptr => cases ht
 | rptr t x a cs h hm => cases ht
 | tup vs us h => cases ht
 | fn f vs us h => cases ht
 | nilfn => cases ht
 | ifc t d v h => cases ht
 | nilifc => cases ht
theorem tyEqb_eq {a b : Ty} (h : tyEqb a b = true) : a = b := by
 unfold tyEqb at h
 split at h
 ·rename_i p _; exact p.down
 ·cases h
theorem fitsD_VT {t ty : Ty} {d : DVal E.T} {cs : List Value} (h : VT E σ st w M t d cs) (hf : fitsD E st ty d = true) : VT E σ st w M ty d cs := by
 cases h with
 | val t x cs h =>
  have := tyEqb_eq hf
  subst this; exact .val t x cs h
 | nils e a =>
  cases ty with
  | slice e' => exact .nils e' a
  | _ => cases hf
 | own k l e xs h =>
  simp only [fitsD, h] at hf
  have := tyEqb_eq hf
  subst this; exact .own k l e xs h
 | stale e v h => cases hf
 | agg i fs cs h =>
  cases ty with
  | named j =>
   have : i = j := Nat.eq_of_beq_eq_true hf
   subst this; exact .agg i fs cs h
  | _ => cases hf
theorem oldD_VT {t ty : Ty} {d : DVal E.T} {cs : List Value} (h : VT E σ st w M t d cs) (hf : oldD E st ty d = true) : VT E σ st w M ty d cs := by
 cases h with
 | stale e v h =>
  have := tyEqb_eq hf
  cases ty with
  | slice e' => cases this; exact .stale e v h
  | _ => cases this
 | val t x cs h => exact fitsD_VT (.val t x cs h) hf
 | nils e a => exact fitsD_VT (.nils e a) hf
 | own k l e xs h => exact fitsD_VT (.own k l e xs h) hf
 | agg i fs cs h => exact fitsD_VT (.agg i fs cs h) hf
theorem fits_data {t : TypeId} {ty : Ty} (ht : E.tk t = .data ty) {d : DVal E.T} {v : Value} (hf : fits E st t d = true) (h : VRep E σ st w M d v) : ∃ cs, VT E σ st w M ty d cs ∧ v = toV ty cs := by
 have hf' : fitsD E st ty d = true := by unfold fits at hf; rw [ht] at hf; exact hf
 obtain ⟨t', cs, hv, rfl⟩ := dataTy ⟨ty, hf'⟩ h
 have h2 := fitsD_VT hv hf'
 refine ⟨cs, h2, ?_⟩
 cases hv with
 | val t x cs h =>
  have := tyEqb_eq hf'
  subst this; rfl
 | nils e a =>
  cases ty with
  | slice e' => rfl
  | _ => cases hf'
 | own k l e xs hk =>
  simp only [fitsD, hk] at hf'
  have := tyEqb_eq hf'
  subst this; rfl
 | stale e v h => cases hf'
 | agg i fs cs h =>
  cases ty with
  | named j =>
   have : i = j := Nat.eq_of_beq_eq_true hf'
   subst this; rfl
  | _ => cases hf'
theorem VTs.ofF : ∀ {ts : List Ty} {r : HL E.T ts} {cs : List Value}, FRep E w M ts r cs → VTs E σ st w M ts (hlL E ts r) cs
 | _, _, _, .nil => .nil
 | _, _, _, .cons t ts x r c1 c2 h h' => .cons t ts _ _ c1 c2 (.val t x c1 h) (VTs.ofF h')
theorem explode_VT {t : Ty} {d : DVal E.T} {cs : List Value} {i : Nat} {fs : List (DVal E.T)} (h : VT E σ st w M t d cs) (he : explode E d = some (i, fs)) : t = .named i ∧ VTs E σ st w M (E.fields i) fs cs := by
 cases h with
 | val t x cs h =>
  cases h with
  | named j y cs h =>
   simp only [explode, Option.some.injEq, Prod.mk.injEq] at he
   obtain ⟨rfl, rfl⟩ := he
   exact ⟨rfl, VTs.ofF h⟩
  | bool b => cases he
  | int k x => cases he
  | str s h => cases he
  | slice e xs a cap cs hl hm hn hc => cases he
  | arr n e xs cs hn hl => cases he
 | agg j gs cs h =>
  simp only [explode, Option.some.injEq, Prod.mk.injEq] at he
  obtain ⟨rfl, rfl⟩ := he
  exact ⟨rfl, h⟩
 | nils e a => cases he
 | own k l e xs h => cases he
 | stale e v h => cases he
theorem VTs.at (ok : EnvOk E) : ∀ {ts : List Ty} {fs : List (DVal E.T)} {cs : List Value}, VTs E σ st w M ts fs cs → ∀ (j : Nat) (d : DVal E.T), nth? fs j = some d →
  ∃ t c l r, nth? ts j = some t ∧ VT E σ st w M t d c ∧ cs = l ++ c ++ r ∧ l.length = ((ts.take j).map E.size).sum ∧
   ∀ (d' : DVal E.T) (c' : List Value), VT E σ st w M t d' c' → VTs E σ st w M ts (upd fs j d') (l ++ c' ++ r)
 | _, _, _, .nil => by intro j d h; simp [nthq_nil, nthq_zero, nthq_succ] at h
 | _, _, _, .cons t ts v r c1 c2 h h' => by
  intro j d hd
  cases j with
  | zero =>
   simp only [nthq_nil, nthq_zero, nthq_succ, Option.some.injEq] at hd; subst hd
   exact ⟨t, c1, [], c2, rfl, h, by simp, by simp, fun d' c' hv => by simpa [upd_nil, upd_zero, upd_succ] using VTs.cons t ts d' r c' c2 hv h'⟩
  | succ j =>
   simp only [nthq_nil, nthq_zero, nthq_succ] at hd
   obtain ⟨t', c, l, r', h1, h2, rfl, h4, h5⟩ := VTs.at ok h' j d hd
   refine ⟨t', c, c1 ++ l, r', h1, h2, by simp, ?_, fun d' c' hv => ?_⟩
   ·simp [h4, VT.len ok h]
   ·have := VTs.cons t ts v _ c1 _ h (h5 d' c' hv)
    simpa [upd_nil, upd_zero, upd_succ] using this
theorem nth_some {α : Type} {l : List α} {j : Nat} {d : α} (h : j < l.length) : nth? l j = some (nth l j d) := by
 rw [nth?_eq, nth_eq, List.getD_eq_getElem?_getD, List.getElem?_eq_getElem h]; rfl
theorem LRep.split (ok : EnvOk E) : ∀ {e : Ty} {xs : List (I E.T e)} {cs : List Value}, LRep E w M e xs cs → ∀ (i : Nat) (x : I E.T e), xs[i]? = some x →
  ∃ c l r, CRep E w M e x c ∧ cs = l ++ c ++ r ∧ l.length = i * E.size e ∧ ∀ (y : I E.T e) (c' : List Value), CRep E w M e y c' → LRep E w M e (xs.set i y) (l ++ c' ++ r)
 | _, _, _, .nil e => by intro i x h; simp at h
 | _, _, _, .cons e y r c1 c2 h h' => by
  intro i x hx
  cases i with
  | zero =>
   simp only [List.getElem?_cons_zero, Option.some.injEq] at hx; subst hx
   exact ⟨c1, [], c2, h, by simp, by simp, fun y' c' hv => by simpa using LRep.cons e y' r c' c2 hv h'⟩
  | succ i =>
   simp only [List.getElem?_cons_succ] at hx
   obtain ⟨c, l, r', h2, rfl, h4, h5⟩ := LRep.split ok h' i x hx
   refine ⟨c, c1 ++ l, r', h2, by simp, ?_, fun y' c' hv => ?_⟩
   ·rw [List.length_append, h4, CRep.len ok h, Nat.add_mul]; omega
   ·have := LRep.cons e y _ c1 _ h (h5 y' c' hv)
    simpa using this
theorem toHLWith_ok {f : (t : Ty) → DVal E.T → Option (I E.T t)} (hf : ∀ t d x cs, f t d = some x → VT E σ st w M t d cs → CRep E w M t x cs) :
  ∀ {ts : List Ty} {fs : List (DVal E.T)} {cs : List Value}, VTs E σ st w M ts fs cs → ∀ {r : HL E.T ts}, toHLWith E f ts fs = some r → FRep E w M ts r cs
 | _, _, _, .nil => by
  intro _
  exact .nil
 | _, _, _, .cons t ts v vs c1 c2 hv hvs => by
  intro h
  simp only [toHLWith] at h
  split at h
  ·rename_i x hx
   split at h
   ·rename_i y hy
    cases h
    exact .cons t ts x y c1 c2 (hf t v x c1 hx hv) (toHLWith_ok hf hvs hy)
   ·cases h
  ·cases h
theorem toData_nil (ok : EnvOk E) : ∀ (n : Nat) {t : Ty} {d : DVal E.T} {x : I E.T t} {cs : List Value}, toData E [] n t d = some x → VT E σ st w M t d cs → CRep E w M t x cs
 | 0, _, _, _, _, h, _ => by cases h
 | n + 1, t, d, x, cs, h, hv => by
  cases hv with
  | val t y cs hc =>
   simp only [toData] at h
   split at h
   ·rename_i p _
    cases p with | up p =>
    cases h; exact hc
   ·cases h
  | nils e a =>
   simp only [toData, Option.some.injEq] at h
   subst h
   exact .slice e [] a 0 [] (.nil e) (.inl rfl) (Nat.zero_le _) (Nat.le_refl _)
  | own k l e xs hk => simp [toData, nthq_nil, nthq_zero, nthq_succ] at h
  | stale e v hv => simp [toData] at h
  | agg i fs cs hs =>
   simp only [toData] at h
   split at h
   ·split at h
    ·rename_i r hr
     cases h
     exact .named i _ cs (by rw [ok.out_into]; exact toHLWith_ok (fun t d x cs => toData_nil ok n) hs hr)
    ·cases h
   ·cases h
theorem getP_ok (ok : EnvOk E) : ∀ (p : List Step) {d v : DVal E.T} {t : Ty} {cs : List Value}, (getP E p d).get = some v → VT E σ st w M t d cs → v ≠ .undef →
  ∃ t' c l r, VT E σ st w M t' v c ∧ cs = l ++ c ++ r ∧ l.length = E.pathOff p
 | [], d, v, t, cs, h, hv, _ => by
  cases h
  exact ⟨t, cs, [], [], hv, by simp, by simp [Env.pathOff]⟩
 | .fld i j :: p, d, v, t, cs, h, hv, hn => by
  simp only [getP] at h
  have hex : ∃ fs, explode E d = some (i, fs) ∧ dfld E i j d = nth fs j .undef := by
   cases hv with
   | val t x cs hc =>
    cases hc with
    | named i' x cs hf =>
     cases hb : Nat.beq i i' with
     | true =>
      have := Nat.eq_of_beq_eq_true hb; subst this
      exact ⟨_, rfl, by simp [dfld]⟩
     | false => rw [show dfld E i j (.val (.named i') x) = .undef by simp [dfld, hb]] at h; exact absurd (getP_undef p h) hn
    | bool b => exact absurd (getP_undef p h) hn
    | int k x => exact absurd (getP_undef p h) hn
    | str s hs => exact absurd (getP_undef p h) hn
    | slice e xs a cap cs hl hm hn' hc => exact absurd (getP_undef p h) hn
    | arr n e xs cs hn' hl => exact absurd (getP_undef p h) hn
   | agg i' fs cs hs =>
    cases hb : Nat.beq i i' with
    | true =>
     have := Nat.eq_of_beq_eq_true hb; subst this
     exact ⟨_, rfl, by simp [dfld]⟩
    | false => rw [show dfld E i j (.agg i' fs) = .undef by simp [dfld, hb]] at h; exact absurd (getP_undef p h) hn
   | nils e a => exact absurd (getP_undef p h) hn
   | own k l e xs hk => exact absurd (getP_undef p h) hn
   | stale e v hs => exact absurd (getP_undef p h) hn
  obtain ⟨fs, he, hd⟩ := hex
  rw [hd] at h
  obtain ⟨rfl, hs⟩ := explode_VT hv he
  have hj : nth? fs j = some (nth fs j .undef) := by
   rcases Nat.lt_or_ge j fs.length with hlt | hge
   ·exact nth_some hlt
   ·rw [show nth fs j .undef = .undef by rw [nth_eq, List.getD_eq_getElem?_getD, List.getElem?_eq_none hge]; rfl] at h
    exact absurd (getP_undef p h) hn
  obtain ⟨t1, c1, l1, r1, h1, h2, rfl, h4, _⟩ := VTs.at ok hs j _ hj
  obtain ⟨t', c, l, r, h5, rfl, h6⟩ := getP_ok ok p h h2 hn
  exact ⟨t', c, l1 ++ l, r ++ r1, h5, by simp, by simp [Env.pathOff, Env.stepOff, Env.foff, h4, h6]⟩
 | .idx e n :: p, d, v, t, cs, h, hv, hn => by
  cases hv with
  | val t x cs hc =>
   cases hc with
   | arr m e' xs cs hm hl =>
    simp only [getP] at h
    obtain ⟨he, h⟩ := Tree.get_need h
    have := tyEqb_eq he; subst this
    simp only [Tree.get] at h
    obtain ⟨x, hx, h⟩ := Option.bind_eq_some_iff.1 h
    obtain ⟨c1, l1, r1, h1, rfl, h3, _⟩ := LRep.split ok hl n x hx
    obtain ⟨t', c, l, r, h5, rfl, h6⟩ := getP_ok ok p h (.val e x c1 h1) hn
    exact ⟨t', c, l1 ++ l, r ++ r1, h5, by simp, by simp [Env.pathOff, Env.stepOff, h3, h6]⟩
   | bool b => cases h
   | int k x => cases h
   | str s hs => cases h
   | slice e xs a cap cs hl hm hn' hc => cases h
   | named i x cs hf => cases h
  | nils e a => cases h
  | own k l e xs hk => cases h
  | stale e v hs => cases h
  | agg i fs cs hs => cases h
where
 getP_undef : ∀ (p : List Step) {v : DVal E.T}, (getP E p .undef).get = some v → v = .undef
  | [], v, h => by cases h; rfl
  | .fld i j :: p, v, h => by simp only [getP, dfld] at h; exact getP_undef p h
  | .idx e n :: p, v, h => by cases h
end
end
end Go.Proofs.YthabbcjjecpbmaaGreat.D

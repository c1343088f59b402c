/- Proved: ClockAll answers true at all arguments of bounded bulk. No condition beyond the statement's. (This text joins: The Clock seat: its types. The Clock seat: its functions. The Clock seat: more of its functions. The Clock seat: Long, Fits. The Clock seat: Mul64. The Clock seat: Fits, begun. The Clock seat: begun. The Clock seat: ClockGrows. The Clock seat: ClockGrows, plain. The Clock seat: ClockForms. The Clock seat: loops in closed form. The Clock seat: ClockSums. The Clock seat: ClockSums, plain. The Clock seat: ClockAll. The Clock seat: the rows' measure.) -/
import Derived.Test.YtbdkijiaojbmgaaChecked
import Derived.Test.YtbdkijiaojbmgaaBase5
import Derived.KernelRfl
import Derived.Test.YtbdkijiaojbmgaaRows
import Derived.WalkKit
import Derived.ProofKit
import Derived.OpenShut
import Derived.JoinedCond
set_option linter.unusedVariables false
set_option maxRecDepth 100000
namespace Go.Proofs.Ytbdkijiaojbmgaa.C
open Go Go.Proofs.Ytbdkijiaojbmgaa.D

def tbl : List TK := [.other, .other, .other, .data (.int .i64), .data .bool, .data (.int .u8), .other, .other, .other, .data .str,
  .other, .other, .other, .other, .other, .other, .other, .other, .other, .other,
  .iface, .other, .data (.int .u16), .other, .data (.slice (.int .i64)), .other, .other, .other, .data (.slice (.arr 3 (.int .u8))), .data (.arr 3 (.int .u8)),
  .other, .data (.slice (.arr 2 (.int .u8))), .data (.arr 2 (.int .u8)), .other, .data (.int .u32), .other, .other, .ptr, .other, .other,
  .data (.int .u64), .other, .other, .other, .data (.named 0)]

def E : Env where
  T := fun _ => Unit
  fields := fun _ => []
  out := fun _ _ => ()
  into := fun _ _ => ()
  eqb := fun _ _ _ => true
  nsize := fun _ => 0
  tk := fun t => nth tbl t .other
  cmp := fun _ => false

theorem ok : EnvOk E := ⟨fun _ _ => rfl, fun _ _ => rfl, fun _ => rfl⟩

theorem sound : Sound Try.prog E := by
  refine sound_of ok (fun _ _ _ => rfl) (fun t h => by cases h) tbl (fun _ => rfl) ?_
  have tm : ∀ {t : TypeId} {ty : Ty} {i : TypeInfo}, Try.prog.info? t = some i → i.size = E.size ty → i.bytes ≤ 8192 → i.zero = some (toV ty (zeroC E depth ty)) → Desc Try.prog E t ty → zOk E depth ty = true → TyM Try.prog E t ty :=
    fun h1 h2 h3 h4 h5 h6 => ⟨⟨_, h1, h2, h3, h4⟩, h5, h6⟩
  have sl : ∀ {t te : TypeId} {e : Ty}, Try.prog.underlying t = some (.slice te) → E.tk te = .data e → Desc Try.prog E t (.slice e) := fun h1 h2 => ⟨_, h1, h2⟩
  have ar : ∀ {t te : TypeId} {n : Nat} {e : Ty}, Try.prog.underlying t = some (.array n te) → E.tk te = .data e → Desc Try.prog E t (.arr n e) := fun h1 h2 => ⟨_, h1, h2⟩
  have t3 : TyM Try.prog E 3 (.int .i64) := tm (i := Try.t3) (by kernel_rfl) (by kernel_rfl) (by decide) (by kernel_rfl) Try.underlying3 (by kernel_rfl)
  have t4 : TyM Try.prog E 4 (.bool) := tm (i := Try.t4) (by kernel_rfl) (by kernel_rfl) (by decide) (by kernel_rfl) Try.underlying4 (by kernel_rfl)
  have t5 : TyM Try.prog E 5 (.int .u8) := tm (i := Try.t5) (by kernel_rfl) (by kernel_rfl) (by decide) (by kernel_rfl) Try.underlying5 (by kernel_rfl)
  have t9 : TyM Try.prog E 9 (.str) := tm (i := Try.t9) (by kernel_rfl) (by kernel_rfl) (by decide) (by kernel_rfl) Try.underlying9 (by kernel_rfl)
  have t22 : TyM Try.prog E 22 (.int .u16) := tm (i := Try.t22) (by kernel_rfl) (by kernel_rfl) (by decide) (by kernel_rfl) Try.underlying22 (by kernel_rfl)
  have t24 : TyM Try.prog E 24 (.slice (.int .i64)) := tm (i := Try.t24) (by kernel_rfl) (by kernel_rfl) (by decide) (by kernel_rfl) (sl Try.underlying24 (by kernel_rfl)) (by kernel_rfl)
  have t28 : TyM Try.prog E 28 (.slice (.arr 3 (.int .u8))) := tm (i := Try.t28) (by kernel_rfl) (by kernel_rfl) (by decide) (by kernel_rfl) (sl Try.underlying28 (by kernel_rfl)) (by kernel_rfl)
  have t29 : TyM Try.prog E 29 (.arr 3 (.int .u8)) := tm (i := Try.t29) (by kernel_rfl) (by kernel_rfl) (by decide) (by kernel_rfl) (ar Try.underlying29 (by kernel_rfl)) (by kernel_rfl)
  have t31 : TyM Try.prog E 31 (.slice (.arr 2 (.int .u8))) := tm (i := Try.t31) (by kernel_rfl) (by kernel_rfl) (by decide) (by kernel_rfl) (sl Try.underlying31 (by kernel_rfl)) (by kernel_rfl)
  have t32 : TyM Try.prog E 32 (.arr 2 (.int .u8)) := tm (i := Try.t32) (by kernel_rfl) (by kernel_rfl) (by decide) (by kernel_rfl) (ar Try.underlying32 (by kernel_rfl)) (by kernel_rfl)
  have t34 : TyM Try.prog E 34 (.int .u32) := tm (i := Try.t34) (by kernel_rfl) (by kernel_rfl) (by decide) (by kernel_rfl) Try.underlying34 (by kernel_rfl)
  have t40 : TyM Try.prog E 40 (.int .u64) := tm (i := Try.t40) (by kernel_rfl) (by kernel_rfl) (by decide) (by kernel_rfl) Try.underlying40 (by kernel_rfl)
  have t44 : TyM Try.prog E 44 (.named 0) := tm (i := Try.t44) (by kernel_rfl) (by kernel_rfl) (by decide) (by kernel_rfl) ⟨_, Try.underlying44, rfl, fun j f h => by simp at h⟩ (by kernel_rfl)
  exact ⟨trivial, trivial, trivial, t3, t4, t5, trivial, trivial, trivial, t9, trivial, trivial, trivial, trivial, trivial, trivial, trivial, trivial, trivial, trivial, ⟨⟨_, Try.underlying20⟩, Try.t20, by kernel_rfl, by kernel_rfl, by kernel_rfl⟩, trivial, t22, trivial, t24, trivial, trivial, trivial, t28, t29, trivial, t31, t32, trivial, t34, trivial, trivial, ⟨⟨_, Try.underlying37⟩, Try.t37, by kernel_rfl, by kernel_rfl, by kernel_rfl⟩, trivial, trivial, t40, trivial, trivial, trivial, t44, trivial⟩
theorem mix : Try.prog.follows .mixedOrders = true := by kernel_rfl
end Go.Proofs.Ytbdkijiaojbmgaa.C

set_option linter.unusedVariables false
set_option maxRecDepth 100000
namespace Go.Proofs.Ytbdkijiaojbmgaa.C
open Go Go.Proofs.Ytbdkijiaojbmgaa.D

abbrev i64 (a : Int) : DVal E.T := .val (.int .i64) a
abbrev u64 (a : Int) : DVal E.T := .val (.int .u64) a
abbrev bo (b : Bool) : DVal E.T := .val .bool b
abbrev i64T : Ty := .int .i64
abbrev wr (n : Int) : Int := IntKind.i64.wrap n

noncomputable def body (S : List (Nat × D.Spec E)) (SD : List (Nat × DSpec E)) (N : Nat) (keep : Bool) (fn : Func) : List (DVal E.T) → St E.T → Tree (Res E.T × St E.T) := dbody E (lookS S) (lookD SD) (noL E) N keep fn

theorem body_ok {S : List (Nat × D.Spec E)} (hS : AllS Try.prog E S) {SD : List (Nat × DSpec E)} (hD : AllD Try.prog E SD) {N : Nat} {keep : Bool} {f : FuncId} {fn : Func} {c : Code} (hf : Try.prog.funcs[f]? = some fn) (hb : fn.body = some c) :
    FnOk Try.prog E f (body S SD N keep fn) := dbody_ok sound mix (callOk sound (lookS_ok hS)) (lookD_ok hD) hf hb (loopsOk_open (fun _ => rfl) c 0)

/-! Add -/
def add (a b : Int) : Int := bif decide (a > 0) then (bif decide (b > wr (9223372036854775807 - a)) then 9223372036854775807 else wr (a + b)) else wr (a + b)
def refAdd (a b : Int) : Int := bif decide (a > wr (9223372036854775807 - b)) then 9223372036854775807 else wr (a + b)

def G9 : List (DVal E.T) → Tree (Res E.T)
  | [.val (.int .i64) a, .val (.int .i64) b] => .ret (.ret [i64 (add a b)])
  | _ => .fail

theorem F9 (a b : Int) : (body [] [] 0 false Try.f9 [i64 a, i64 b] []).get = (bif decide (a > 0) then (bif decide (b > wr (9223372036854775807 - a)) then some (.ret [i64 9223372036854775807], []) else some (.ret [i64 (wr (a + b))], [])) else some (.ret [i64 (wr (a + b))], [])) := by kernel_rfl

theorem spec9 : SpecOk Try.prog E 9 (.pure [i64T, i64T] G9) := by
  refine ⟨Try.call9, pure_ok (body_ok (S := []) trivial (SD := []) trivial (N := 0) (keep := false) Try.func9 rfl) (fun ds r h => ?_)⟩
  unfold G9 at h
  split at h
  · rename_i a b
    cases h
    rw [F9]
    unfold add
    cases decide (a > 0) <;> cases decide (b > wr (9223372036854775807 - a)) <;> rfl
  · cases h

/-! within -/
def G18 : List (DVal E.T) → Tree (Res E.T)
  | [.val (.int .i64) a, .val (.int .i64) b] => .ite (decide (a < 0) || decide (a > b)) (.ret (.panic (.ifc 44 (.val (.named 0) ())))) (.ret (.ret []))
  | _ => .fail

theorem F18 (a b : Int) : (body [] [] 0 false Try.f18 [i64 a, i64 b] []).get = (bif decide (a < 0) then some (.panic (.ifc 44 (.val (.named 0) ())), []) else bif decide (a > b) then some (.panic (.ifc 44 (.val (.named 0) ())), []) else some (.ret [], [])) := by kernel_rfl

theorem spec18 : SpecOk Try.prog E 18 (.pure [i64T, i64T] G18) := by
  refine ⟨Try.call18, pure_ok (body_ok (S := []) trivial (SD := []) trivial (N := 0) (keep := false) Try.func18 rfl) (fun ds r h => ?_)⟩
  unfold G18 at h
  split at h
  · rename_i a b
    rw [F18]
    simp only [Tree.get] at h
    cases h1 : decide (a < 0) <;> cases h2 : decide (a > b) <;> rw [h1, h2] at h <;> cases h <;> rfl
  · cases h

/-! refAdd -/
def G10 : List (DVal E.T) → Tree (Res E.T)
  | [.val (.int .i64) a, .val (.int .i64) b] => .ret (.ret [i64 (refAdd a b)])
  | _ => .fail

theorem F10 (a b : Int) : (body [] [] 0 false Try.f10 [i64 a, i64 b] []).get = (bif decide (a > wr (9223372036854775807 - b)) then some (.ret [i64 9223372036854775807], []) else some (.ret [i64 (wr (a + b))], [])) := by kernel_rfl

theorem spec10 : SpecOk Try.prog E 10 (.pure [i64T, i64T] G10) := by
  refine ⟨Try.call10, pure_ok (body_ok (S := []) trivial (SD := []) trivial (N := 0) (keep := false) Try.func10 rfl) (fun ds r h => ?_)⟩
  unfold G10 at h
  split at h
  · rename_i a b
    cases h
    rw [F10]
    unfold refAdd
    cases decide (a > wr (9223372036854775807 - b)) <;> rfl
  · cases h

/-! may -/
def may (t e : Int) : Bool := decide (t ≥ 0) && (decide (t ≤ 1099511627776) && (decide (e ≥ 0) && decide (e ≤ 500)))

def G19 : List (DVal E.T) → Tree (Res E.T)
  | [.val (.int .i64) a, .val (.int .i64) b] => .ret (.ret [bo (may a b)])
  | _ => .fail

theorem F19 (a b : Int) : (body [] [] 0 false Try.f19 [i64 a, i64 b] []).get = (bif decide (a ≥ 0) then (bif decide (a ≤ 1099511627776) then (bif decide (b ≥ 0) then (some (.ret [bo (decide (b ≤ 500))], [])) else some (.ret [bo false], [])) else some (.ret [bo false], [])) else some (.ret [bo false], [])) := by kernel_rfl

theorem spec19 : SpecOk Try.prog E 19 (.pure [i64T, i64T] G19) := by
  refine ⟨Try.call19, pure_ok (body_ok (S := []) trivial (SD := []) trivial (N := 0) (keep := false) Try.func19 rfl) (fun ds r h => ?_)⟩
  unfold G19 at h
  split at h
  · rename_i a b
    cases h
    rw [F19]
    unfold may
    cases decide (a ≥ 0) <;> cases decide (a ≤ 1099511627776) <;> cases decide (b ≥ 0) <;> rfl
  · cases h

/-! told -/
theorem spec17 : DSpecOk Try.prog E 17 (dbodyD E (lookS []) (noL E) 0 Try.f17) :=
  dbodyD_ok sound mix (callOk sound (lookS_ok (l := []) trivial)) Try.func17 rfl (loopsOk_open (fun _ => rfl) _ 0) Try.call17

/-! Short, Long -/
noncomputable def S11 : List (Nat × D.Spec E) := [(18, .pure [i64T, i64T] G18)]
noncomputable def D11 : List (Nat × DSpec E) := [(17, dbodyD E (lookS []) (noL E) 0 Try.f17)]
theorem S11_ok : AllS Try.prog E S11 := ⟨spec18, trivial⟩
theorem D11_ok : AllD Try.prog E D11 := ⟨spec17, trivial⟩

theorem F11 (a b : Int) : (body S11 D11 0 false Try.f11 [i64 a, i64 b] []).get = (bif (decide (a < 0) || decide (a > 1099511627776)) then some (.ret [i64 0], []) else bif (decide (b < 0) || decide (b > 500)) then some (.ret [i64 0], []) else bif (wr (1000 + b) == 0) then none else
    some (.ret [i64 (wr ((wr (a * wr (1000 - b))).tdiv (wr (1000 + b))))], [])) := by kernel_rfl
end Go.Proofs.Ytbdkijiaojbmgaa.C

set_option linter.unusedVariables false
set_option maxRecDepth 100000
namespace Go.Proofs.Ytbdkijiaojbmgaa.C
open Go Go.Proofs.Ytbdkijiaojbmgaa.D

theorem wr_id {n : Int} (h1 : -9223372036854775808 ≤ n) (h2 : n ≤ 9223372036854775807) : wr n = n := by
  unfold wr; rw [IntKind.wrap_i64]; omega

def inB (t e : Int) : Bool := !(decide (t < 0) || decide (t > 1099511627776)) && !(decide (e < 0) || decide (e > 500))

theorem inB_iff {t e : Int} : inB t e = true ↔ (0 ≤ t ∧ t ≤ 1099511627776) ∧ (0 ≤ e ∧ e ≤ 500) := by
  unfold inB
  simp only [Bool.and_eq_true, Bool.not_eq_true', Bool.or_eq_false_iff, decide_eq_false_iff_not]
  omega

theorem inB_no {t e : Int} (h : inB t e = false) : (decide (t < 0) || decide (t > 1099511627776)) = true ∨ ((decide (t < 0) || decide (t > 1099511627776)) = false ∧ (decide (e < 0) || decide (e > 500)) = true) := by
  unfold inB at h
  cases h1 : (decide (t < 0) || decide (t > 1099511627776)) <;> cases h2 : (decide (e < 0) || decide (e > 500)) <;> rw [h1, h2] at h <;> simp_all

theorem prod_le {t e c : Int} (h0 : 0 ≤ t) (h1 : t ≤ 1099511627776) (h2 : 0 ≤ c) (h3 : c ≤ 2000) : 0 ≤ t * c ∧ t * c ≤ 2199023255552000 := by
  refine ⟨Int.mul_nonneg h0 h2, ?_⟩
  have := Int.mul_le_mul h1 h3 h2 (by omega)
  omega

/-! Short -/
def short (t e : Int) : Int := bif inB t e then (t * (1000 - e)).tdiv (1000 + e) else 0

def G11 : List (DVal E.T) → Tree (Res E.T)
  | [.val (.int .i64) a, .val (.int .i64) b] => .ret (.ret [i64 (short a b)])
  | _ => .fail

theorem short_eq {a b : Int} (h : inB a b = true) : wr ((wr (a * wr (1000 - b))).tdiv (wr (1000 + b))) = (a * (1000 - b)).tdiv (1000 + b) ∧ (wr (1000 + b) == 0) = false := by
  obtain ⟨⟨h1, h2⟩, h3, h4⟩ := inB_iff.1 h
  have e1 : wr (1000 - b) = 1000 - b := wr_id (by omega) (by omega)
  have e2 : wr (1000 + b) = 1000 + b := wr_id (by omega) (by omega)
  have hp := prod_le (e := b) h1 h2 (c := 1000 - b) (by omega) (by omega)
  have e3 : wr (a * (1000 - b)) = a * (1000 - b) := wr_id (by omega) (by omega)
  rw [e1, e2, e3]
  have hq : 0 ≤ (a * (1000 - b)).tdiv (1000 + b) := Int.tdiv_nonneg hp.1 (by omega)
  have hq2 : (a * (1000 - b)).tdiv (1000 + b) ≤ a * (1000 - b) := Int.tdiv_le_self _ hp.1
  refine ⟨wr_id (by omega) (by omega), ?_⟩
  rw [beq_eq_false_iff_ne]; omega

theorem spec11 : SpecOk Try.prog E 11 (.pure [i64T, i64T] G11) := by
  refine ⟨Try.call11, pure_ok (body_ok S11_ok D11_ok (N := 0) (keep := false) Try.func11 rfl) (fun ds r h => ?_)⟩
  unfold G11 at h
  split at h
  · rename_i a b
    cases h
    rw [F11]
    unfold short
    cases hb : inB a b with
    | true =>
      obtain ⟨e1, e2⟩ := short_eq hb
      have hh := hb
      unfold inB at hh
      rw [Bool.and_eq_true, Bool.not_eq_true', Bool.not_eq_true'] at hh
      rw [hh.1, hh.2, e1, e2]
      rfl
    | false =>
      rcases inB_no hb with h1 | ⟨h1, h2⟩
      · rw [h1]; rfl
      · rw [h1, h2]; rfl
  · cases h

/-! refShort -/
noncomputable def S12 : List (Nat × D.Spec E) := [(19, .pure [i64T, i64T] G19)]
theorem S12_ok : AllS Try.prog E S12 := ⟨spec19, trivial⟩

theorem F12 (a b : Int) : (body S12 [] 0 false Try.f12 [i64 a, i64 b] []).get = (bif !(may a b) then some (.ret [i64 0], []) else bif (wr (1000 + b) == 0) then none else
    some (.ret [i64 (wr ((wr (a * wr (1000 - b))).tdiv (wr (1000 + b))))], [])) := by kernel_rfl

theorem may_eq (a b : Int) : may a b = inB a b := by
  cases h : inB a b with
  | true =>
    obtain ⟨⟨h1, h2⟩, h3, h4⟩ := inB_iff.1 h
    unfold may
    simp only [Bool.and_eq_true, decide_eq_true_eq]
    omega
  | false =>
    cases hm : may a b with
    | false => rfl
    | true =>
      unfold may at hm
      simp only [Bool.and_eq_true, decide_eq_true_eq] at hm
      have := (inB_iff (t := a) (e := b)).2 (by omega)
      rw [h] at this; cases this

theorem spec12 : SpecOk Try.prog E 12 (.pure [i64T, i64T] G11) := by
  refine ⟨Try.call12, pure_ok (body_ok S12_ok (SD := []) trivial (N := 0) (keep := false) Try.func12 rfl) (fun ds r h => ?_)⟩
  unfold G11 at h
  split at h
  · rename_i a b
    cases h
    rw [F12, may_eq]
    unfold short
    cases hb : inB a b with
    | true =>
      obtain ⟨e1, e2⟩ := short_eq hb
      rw [e1, e2]
      rfl
    | false => rfl
  · cases h
end Go.Proofs.Ytbdkijiaojbmgaa.C

set_option linter.unusedVariables false
set_option maxRecDepth 100000
namespace Go.Proofs.Ytbdkijiaojbmgaa.C
open Go Go.Proofs.Ytbdkijiaojbmgaa.D

/-! Long -/
def long (t e : Int) : Int := bif inB t e then (t * (1000 + e) + (1000 - e) - 1).tdiv (1000 - e) else 0

def G13 : List (DVal E.T) → Tree (Res E.T)
  | [.val (.int .i64) a, .val (.int .i64) b] => .ret (.ret [i64 (long a b)])
  | _ => .fail

theorem F13 (a b : Int) : (body S11 D11 0 false Try.f13 [i64 a, i64 b] []).get = (bif (decide (a < 0) || decide (a > 1099511627776)) then some (.ret [i64 0], []) else bif (decide (b < 0) || decide (b > 500)) then some (.ret [i64 0], []) else bif (wr (1000 - b) == 0) then none else
    some (.ret [i64 (wr ((wr (wr (wr (wr (a * wr (1000 + b)) + 1000) - b) - 1)).tdiv (wr (1000 - b))))], [])) := by kernel_rfl

theorem long_eq {a b : Int} (h : inB a b = true) : wr ((wr (wr (wr (wr (a * wr (1000 + b)) + 1000) - b) - 1)).tdiv (wr (1000 - b))) = (a * (1000 + b) + (1000 - b) - 1).tdiv (1000 - b) ∧ (wr (1000 - b) == 0) = false := by
  obtain ⟨⟨h1, h2⟩, h3, h4⟩ := inB_iff.1 h
  have e1 : wr (1000 - b) = 1000 - b := wr_id (by omega) (by omega)
  have e2 : wr (1000 + b) = 1000 + b := wr_id (by omega) (by omega)
  have hp := prod_le (e := b) h1 h2 (c := 1000 + b) (by omega) (by omega)
  have e3 : wr (a * (1000 + b)) = a * (1000 + b) := wr_id (by omega) (by omega)
  rw [e1, e2, e3]
  have e4 : wr (a * (1000 + b) + 1000) = a * (1000 + b) + 1000 := wr_id (by omega) (by omega)
  rw [e4]
  have e5 : wr (a * (1000 + b) + 1000 - b) = a * (1000 + b) + 1000 - b := wr_id (by omega) (by omega)
  rw [e5]
  have e6 : wr (a * (1000 + b) + 1000 - b - 1) = a * (1000 + b) + 1000 - b - 1 := wr_id (by omega) (by omega)
  rw [e6, show a * (1000 + b) + 1000 - b - 1 = a * (1000 + b) + (1000 - b) - 1 by omega]
  have hq : 0 ≤ (a * (1000 + b) + (1000 - b) - 1).tdiv (1000 - b) := Int.tdiv_nonneg (by omega) (by omega)
  have hq2 : (a * (1000 + b) + (1000 - b) - 1).tdiv (1000 - b) ≤ a * (1000 + b) + (1000 - b) - 1 := Int.tdiv_le_self _ (by omega)
  refine ⟨wr_id (by omega) (by omega), ?_⟩
  rw [beq_eq_false_iff_ne]; omega

theorem spec13 : SpecOk Try.prog E 13 (.pure [i64T, i64T] G13) := by
  refine ⟨Try.call13, pure_ok (body_ok S11_ok D11_ok (N := 0) (keep := false) Try.func13 rfl) (fun ds r h => ?_)⟩
  unfold G13 at h
  split at h
  · rename_i a b
    cases h
    rw [F13]
    unfold long
    cases hb : inB a b with
    | true =>
      obtain ⟨e1, e2⟩ := long_eq hb
      have hh := hb
      unfold inB at hh
      rw [Bool.and_eq_true, Bool.not_eq_true', Bool.not_eq_true'] at hh
      rw [hh.1, hh.2, e1, e2]
      rfl
    | false =>
      rcases inB_no hb with h1 | ⟨h1, h2⟩
      · rw [h1]; rfl
      · rw [h1, h2]; rfl
  · cases h

/-! refLong -/
theorem F14 (a b : Int) : (body S12 [] 0 false Try.f14 [i64 a, i64 b] []).get = (bif !(may a b) then some (.ret [i64 0], []) else bif (wr (1000 - b) == 0) then none else
    bif ((wr (a * wr (1000 + b))).tmod (wr (1000 - b)) == 0) then (bif (wr (1000 - b) == 0) then none else some (.ret [i64 (wr ((wr (a * wr (1000 + b))).tdiv (wr (1000 - b))))], []))
    else (bif (wr (1000 - b) == 0) then none else some (.ret [i64 (wr (wr ((wr (a * wr (1000 + b))).tdiv (wr (1000 - b))) + 1))], []))) := by kernel_rfl

theorem ceil_eq {n d : Int} (hn : 0 ≤ n) (hd : 0 < d) : (n + d - 1).tdiv d = bif (n.tmod d == 0) then n.tdiv d else n.tdiv d + 1 := by
  rw [Int.tdiv_eq_ediv_of_nonneg (by omega), Int.tdiv_eq_ediv_of_nonneg hn, Int.tmod_eq_emod_of_nonneg hn]
  have hq := Int.mul_ediv_add_emod n d
  have hr0 := Int.emod_nonneg n (by omega : d ≠ 0)
  have hr1 := Int.emod_lt_of_pos n hd
  generalize n / d = q at *
  generalize n % d = r at *
  have hs : n + d - 1 = (r + d - 1) + d * q := by omega
  rw [hs, Int.add_mul_ediv_left _ _ (by omega)]
  cases hb : (r == 0) with
  | true =>
    have : r = 0 := by simpa using hb
    subst this
    rw [Int.ediv_eq_zero_of_lt (by omega) (by omega)]
    simp
  | false =>
    have : r ≠ 0 := by simpa using hb
    have h2 : r + d - 1 = (r - 1) + d * 1 := by omega
    rw [h2, Int.add_mul_ediv_left _ _ (by omega), Int.ediv_eq_zero_of_lt (by omega) (by omega)]
    simp; omega

theorem spec14 : SpecOk Try.prog E 14 (.pure [i64T, i64T] G13) := by
  refine ⟨Try.call14, pure_ok (body_ok S12_ok (SD := []) trivial (N := 0) (keep := false) Try.func14 rfl) (fun ds r h => ?_)⟩
  unfold G13 at h
  split at h
  · rename_i a b
    cases h
    rw [F14, may_eq]
    unfold long
    cases hb : inB a b with
    | true =>
      obtain ⟨⟨h1, h2⟩, h3, h4⟩ := inB_iff.1 hb
      have e1 : wr (1000 - b) = 1000 - b := wr_id (by omega) (by omega)
      have e2 : wr (1000 + b) = 1000 + b := wr_id (by omega) (by omega)
      have hp := prod_le (e := b) h1 h2 (c := 1000 + b) (by omega) (by omega)
      have e3 : wr (a * (1000 + b)) = a * (1000 + b) := wr_id (by omega) (by omega)
      rw [e1, e2, e3]
      have hz : (((1000 : Int) - b : Int) == 0) = false := by rw [beq_eq_false_iff_ne]; omega
      have hq : 0 ≤ (a * (1000 + b)).tdiv (1000 - b) := Int.tdiv_nonneg (by omega) (by omega)
      have hq2 : (a * (1000 + b)).tdiv (1000 - b) ≤ a * (1000 + b) := Int.tdiv_le_self _ (by omega)
      have e4 : wr ((a * (1000 + b)).tdiv (1000 - b)) = (a * (1000 + b)).tdiv (1000 - b) := wr_id (by omega) (by omega)
      have e5 : wr ((a * (1000 + b)).tdiv (1000 - b) + 1) = (a * (1000 + b)).tdiv (1000 - b) + 1 := wr_id (by omega) (by omega)
      have hc := ceil_eq (n := a * (1000 + b)) (d := 1000 - b) hp.1 (by omega)
      rw [e4, e5, hz]
      simp only [cond_true, cond_false, Bool.not_true]
      rw [hc]
      cases ((a * (1000 + b)).tmod (1000 - b) == 0) <;> rfl
    | false => rfl
  · cases h
end Go.Proofs.Ytbdkijiaojbmgaa.C

set_option linter.unusedVariables false
set_option maxRecDepth 100000
namespace Go.Proofs.Ytbdkijiaojbmgaa.C
open Go Go.Proofs.Ytbdkijiaojbmgaa.D

abbrev uw (n : Int) : Int := IntKind.u64.wrap n
def and32 (x : Int) : Int := uw ((BitVec.ofInt 64 x &&& BitVec.ofInt 64 4294967295).toNat)
def sh32 (x : Int) : Int := x.fdiv (2 ^ min (Int.toNat 32) 64)

def mhi (x y : Int) : Int :=
  let t := uw (uw (sh32 x * and32 y) + sh32 (uw (and32 x * and32 y)))
  uw (uw (uw (sh32 x * sh32 y) + sh32 t) + sh32 (uw (and32 t + uw (and32 x * sh32 y))))

theorem F20 (x y : Int) : (body [] [] 0 false Try.f20 [u64 x, u64 y] []).get = some (.ret [u64 (mhi x y), u64 (uw (x * y))], []) := by kernel_rfl

theorem uw_id {n : Int} (h1 : 0 ≤ n) (h2 : n < 18446744073709551616) : uw n = n := by
  unfold uw IntKind.wrap
  simp [IntKind.signed, IntKind.bits]
  omega

theorem and32_id {n : Int} (h1 : 0 ≤ n) (h2 : n < 18446744073709551616) : and32 n = n % 4294967296 := by
  obtain ⟨m, rfl⟩ := Int.eq_ofNat_of_zero_le h1
  unfold and32
  have : (BitVec.ofInt 64 (m : Int) &&& BitVec.ofInt 64 4294967295).toNat = m % 4294967296 := by
    rw [BitVec.toNat_and, BitVec.toNat_ofInt, BitVec.toNat_ofInt]
    have e1 : ((m : Int) % (2 ^ 64 : Nat)).toNat = m := by omega
    have e2 : ((4294967295 : Int) % (2 ^ 64 : Nat)).toNat = 2 ^ 32 - 1 := by decide
    rw [e1, e2, Nat.and_two_pow_sub_one_eq_mod]
  rw [this, uw_id (by omega) (by omega)]
  omega

theorem sh32_id {n : Int} (h1 : 0 ≤ n) : sh32 n = n / 4294967296 := by
  unfold sh32
  rw [Int.fdiv_eq_ediv_of_nonneg _ (by decide)]
  rfl

theorem mhi_1000 {x : Int} (h1 : 0 ≤ x) (h2 : x < 18446744073709551616) : mhi x 1000 = x * 1000 / 18446744073709551616 := by
  have a1 : and32 1000 = 1000 := by rw [and32_id (by omega) (by omega)]; rfl
  have a2 : sh32 1000 = 0 := by rw [sh32_id (by omega)]; rfl
  have a3 := and32_id h1 h2
  have a4 := sh32_id h1
  unfold mhi
  rw [a1, a2, a3, a4]
  have b1 : uw (x % 4294967296 * 1000) = x % 4294967296 * 1000 := uw_id (by omega) (by omega)
  have b2 : uw (x / 4294967296 * 1000) = x / 4294967296 * 1000 := uw_id (by omega) (by omega)
  have b3 : sh32 (x % 4294967296 * 1000) = x % 4294967296 * 1000 / 4294967296 := sh32_id (by omega)
  rw [b1, b2, b3]
  have b4 : uw (x / 4294967296 * 1000 + x % 4294967296 * 1000 / 4294967296) = x / 4294967296 * 1000 + x % 4294967296 * 1000 / 4294967296 := uw_id (by omega) (by omega)
  simp only [b4]
  have b5 : sh32 (x / 4294967296 * 1000 + x % 4294967296 * 1000 / 4294967296) = (x / 4294967296 * 1000 + x % 4294967296 * 1000 / 4294967296) / 4294967296 := sh32_id (by omega)
  have b6 : and32 (x / 4294967296 * 1000 + x % 4294967296 * 1000 / 4294967296) = (x / 4294967296 * 1000 + x % 4294967296 * 1000 / 4294967296) % 4294967296 := and32_id (by omega) (by omega)
  have b7 : uw (x / 4294967296 * 0) = 0 := by rw [Int.mul_zero]; exact uw_id (by omega) (by omega)
  have b8 : uw (x % 4294967296 * 0) = 0 := by rw [Int.mul_zero]; exact uw_id (by omega) (by omega)
  rw [b5, b6, b7, b8]
  have b9 : uw ((x / 4294967296 * 1000 + x % 4294967296 * 1000 / 4294967296) % 4294967296 + 0) = (x / 4294967296 * 1000 + x % 4294967296 * 1000 / 4294967296) % 4294967296 := by rw [Int.add_zero]; exact uw_id (by omega) (by omega)
  rw [b9]
  have b10 : sh32 ((x / 4294967296 * 1000 + x % 4294967296 * 1000 / 4294967296) % 4294967296) = 0 := by rw [sh32_id (by omega)]; omega
  rw [b10, Int.zero_add, Int.add_zero]
  rw [uw_id (n := (x / 4294967296 * 1000 + x % 4294967296 * 1000 / 4294967296) / 4294967296) (by omega) (by omega)]
  rw [uw_id (by omega) (by omega)]
  omega

def G20 : List (DVal E.T) → Tree (Res E.T)
  | [.val (.int .u64) x, .val (.int .u64) y] => .ret (.ret [u64 (mhi x y), u64 (uw (x * y))])
  | _ => .fail

theorem spec20 : SpecOk Try.prog E 20 (.pure [.int .u64, .int .u64] G20) := by
  refine ⟨Try.call20, pure_ok (body_ok (S := []) trivial (SD := []) trivial (N := 0) (keep := false) Try.func20 rfl) (fun ds r h => ?_)⟩
  unfold G20 at h
  split at h
  · rename_i a b
    cases h
    rw [F20]
  · cases h

/-! Fits -/
noncomputable def S15 : List (Nat × D.Spec E) := [(20, .pure [.int .u64, .int .u64] G20)]
theorem S15_ok : AllS Try.prog E S15 := ⟨spec20, trivial⟩

theorem F15 (a g e : Int) : (body S15 [] 0 false Try.f15 [i64 a, i64 g, i64 e] []).get =
    (bif decide (a < 0) then some (.ret [bo false], []) else bif decide (a > 1099511627776) then some (.ret [bo false], []) else bif decide (g < 0) then some (.ret [bo false], []) else
     bif decide (e < 0) then some (.ret [bo false], []) else bif decide (e > 500) then some (.ret [bo false], []) else
     bif mhi (uw g) 1000 == 0 then (bif decide (uw (uw g * 1000) ≥ uw (wr (a * wr (1000 - e)))) then some (.ret [bo (decide (uw (uw g * 1000) ≤ uw (wr (a * wr (1000 + e)))))], []) else some (.ret [bo false], [])) else some (.ret [bo false], [])) := by kernel_rfl
end Go.Proofs.Ytbdkijiaojbmgaa.C

set_option linter.unusedVariables false
set_option maxRecDepth 100000
namespace Go.Proofs.Ytbdkijiaojbmgaa.C
open Go Go.Proofs.Ytbdkijiaojbmgaa.D

def fits (a g e : Int) : Bool := inB a e && (decide (g ≥ 0) && (decide (g * 1000 ≥ a * (1000 - e)) && decide (g * 1000 ≤ a * (1000 + e))))

def G15 : List (DVal E.T) → Tree (Res E.T)
  | [.val (.int .i64) a, .val (.int .i64) g, .val (.int .i64) e] => .ite (decide (g ≤ (9223372036854775807 : Int))) (.ret (.ret [bo (Ytbdkijiaojbmgaa.C.fits a g e)])) .fail
  | _ => .fail

theorem F16 (a g e : Int) : (body S12 [] 0 false Try.f16 [i64 a, i64 g, i64 e] []).get =
    (bif may a e then (bif decide (g ≥ 0) then (bif decide (g ≤ 2199023255552) then (bif decide (wr (g * 1000) ≥ wr (a * wr (1000 - e))) then some (.ret [bo (decide (wr (g * 1000) ≤ wr (a * wr (1000 + e))))], []) else some (.ret [bo false], [])) else some (.ret [bo false], [])) else some (.ret [bo false], [])) else some (.ret [bo false], [])) := by kernel_rfl

theorem fits_out {a g e : Int} (h : inB a e = false) : Ytbdkijiaojbmgaa.C.fits a g e = false := by unfold Ytbdkijiaojbmgaa.C.fits; rw [h]; rfl

theorem fits16 (a g e : Int) (hg : g ≤ 9223372036854775807) : (((bif inB a e then (bif decide (g ≥ 0) then (bif decide (g ≤ 2199023255552) then (bif decide (wr (g * 1000) ≥ wr (a * wr (1000 - e))) then some (.ret [bo (decide (wr (g * 1000) ≤ wr (a * wr (1000 + e))))], []) else some (.ret [bo false], [])) else some (.ret [bo false], [])) else some (.ret [bo false], [])) else some (.ret [bo false], []))) : Option (Res E.T × St E.T)) = some (.ret [bo (Ytbdkijiaojbmgaa.C.fits a g e)], []) := by
  cases hb : inB a e with
  | false => rw [fits_out hb]; rfl
  | true =>
    obtain ⟨⟨h1, h2⟩, h3, h4⟩ := inB_iff.1 hb
    unfold Ytbdkijiaojbmgaa.C.fits
    rw [hb]
    have hp1 := prod_le (e := e) h1 h2 (c := 1000 + e) (by omega) (by omega)
    have hp2 := prod_le (e := e) h1 h2 (c := 1000 - e) (by omega) (by omega)
    have e1 : wr (1000 - e) = 1000 - e := wr_id (by omega) (by omega)
    have e2 : wr (1000 + e) = 1000 + e := wr_id (by omega) (by omega)
    have e3 : wr (a * (1000 - e)) = a * (1000 - e) := wr_id (by omega) (by omega)
    have e4 : wr (a * (1000 + e)) = a * (1000 + e) := wr_id (by omega) (by omega)
    rw [e1, e2, e3, e4]
    have hup : a * (1000 + e) ≤ 1099511627776 * 1500 := Int.mul_le_mul h2 (by omega) (by omega) (by omega)
    cases hg0 : decide (g ≥ (0 : Int)) with
    | false => rfl
    | true =>
      rw [decide_eq_true_eq] at hg0
      cases hg1 : decide (g ≤ (2199023255552 : Int)) with
      | false =>
        rw [decide_eq_false_iff_not] at hg1
        have : decide (g * 1000 ≤ a * (1000 + e)) = false := by rw [decide_eq_false_iff_not]; omega
        rw [this]
        cases decide (g * 1000 ≥ a * (1000 - e)) <;> rfl
      | true =>
        rw [decide_eq_true_eq] at hg1
        have e5 : wr (g * 1000) = g * 1000 := wr_id (by omega) (by omega)
        rw [e5]
        cases decide (g * 1000 ≥ a * (1000 - e)) <;> rfl

theorem spec16 : SpecOk Try.prog E 16 (.pure [i64T, i64T, i64T] G15) := by
  refine ⟨Try.call16, pure_ok (body_ok S12_ok (SD := []) trivial (N := 0) (keep := false) Try.func16 rfl) (fun ds r h => ?_)⟩
  unfold G15 at h
  split at h
  · rename_i a g e
    obtain ⟨hg, h⟩ := ite_get h
    cases h
    rw [F16, may_eq]
    exact fits16 a g e (of_decide_eq_true hg)
  · cases h

theorem fits15 (a g e : Int) (hg : g ≤ 9223372036854775807) : (((bif decide (a < 0) then some (.ret [bo false], []) else bif decide (a > 1099511627776) then some (.ret [bo false], []) else bif decide (g < 0) then some (.ret [bo false], []) else
     bif decide (e < 0) then some (.ret [bo false], []) else bif decide (e > 500) then some (.ret [bo false], []) else
     bif mhi (uw g) 1000 == 0 then (bif decide (uw (uw g * 1000) ≥ uw (wr (a * wr (1000 - e)))) then some (.ret [bo (decide (uw (uw g * 1000) ≤ uw (wr (a * wr (1000 + e)))))], []) else some (.ret [bo false], [])) else some (.ret [bo false], []))) : Option (Res E.T × St E.T)) = some (.ret [bo (Ytbdkijiaojbmgaa.C.fits a g e)], []) := by
  cases hb : inB a e with
  | false =>
    rw [fits_out hb]
    have hn : ¬ ((0 ≤ a ∧ a ≤ 1099511627776) ∧ (0 ≤ e ∧ e ≤ 500)) := fun hh => by rw [inB_iff.2 hh] at hb; cases hb
    cases q1 : decide (a < (0 : Int)) with
    | true => rfl
    | false =>
      cases q2 : decide (a > (1099511627776 : Int)) with
      | true => rfl
      | false =>
        cases q3 : decide (g < (0 : Int)) with
        | true => rfl
        | false =>
          cases q4 : decide (e < (0 : Int)) with
          | true => rfl
          | false =>
            cases q5 : decide (e > (500 : Int)) with
            | true => rfl
            | false =>
              rw [decide_eq_false_iff_not] at q1 q2 q4 q5
              exact absurd ⟨⟨by omega, by omega⟩, by omega, by omega⟩ hn
  | true =>
    obtain ⟨⟨h1, h2⟩, h3, h4⟩ := inB_iff.1 hb
    unfold Ytbdkijiaojbmgaa.C.fits
    rw [hb]
    have q1 : decide (a < (0 : Int)) = false := by rw [decide_eq_false_iff_not]; omega
    have q2 : decide (a > (1099511627776 : Int)) = false := by rw [decide_eq_false_iff_not]; omega
    have q4 : decide (e < (0 : Int)) = false := by rw [decide_eq_false_iff_not]; omega
    have q5 : decide (e > (500 : Int)) = false := by rw [decide_eq_false_iff_not]; omega
    rw [q1, q2, q4, q5]
    have hp1 := prod_le (e := e) h1 h2 (c := 1000 + e) (by omega) (by omega)
    have hp2 := prod_le (e := e) h1 h2 (c := 1000 - e) (by omega) (by omega)
    have e1 : wr (1000 - e) = 1000 - e := wr_id (by omega) (by omega)
    have e2 : wr (1000 + e) = 1000 + e := wr_id (by omega) (by omega)
    have e3 : wr (a * (1000 - e)) = a * (1000 - e) := wr_id (by omega) (by omega)
    have e4 : wr (a * (1000 + e)) = a * (1000 + e) := wr_id (by omega) (by omega)
    rw [e1, e2, e3, e4]
    cases hg0 : decide (g < (0 : Int)) with
    | true =>
      rw [decide_eq_true_eq] at hg0
      have : decide (g ≥ (0 : Int)) = false := by rw [decide_eq_false_iff_not]; omega
      rw [this]; rfl
    | false =>
      rw [decide_eq_false_iff_not] at hg0
      have hg1 : decide (g ≥ (0 : Int)) = true := by rw [decide_eq_true_eq]; omega
      have u1 : uw g = g := uw_id (by omega) (by omega)
      have u2 : uw (a * (1000 - e)) = a * (1000 - e) := uw_id (by omega) (by omega)
      have u3 : uw (a * (1000 + e)) = a * (1000 + e) := uw_id (by omega) (by omega)
      rw [hg1, u1, u2, u3, mhi_1000 (by omega) (by omega)]
      cases hh : (g * 1000 / 18446744073709551616 == 0) with
      | true =>
        have hz : g * 1000 / 18446744073709551616 = 0 := by simpa using hh
        have u4 : uw (g * 1000) = g * 1000 := uw_id (by omega) (by omega)
        rw [u4]
        cases decide (g * 1000 ≥ a * (1000 - e)) <;> rfl
      | false =>
        have hz : g * 1000 / 18446744073709551616 ≠ 0 := by simpa using hh
        have : decide (g * 1000 ≤ a * (1000 + e)) = false := by rw [decide_eq_false_iff_not]; omega
        rw [this]
        cases decide (g * 1000 ≥ a * (1000 - e)) <;> rfl

theorem spec15 : SpecOk Try.prog E 15 (.pure [i64T, i64T, i64T] G15) := by
  refine ⟨Try.call15, pure_ok (body_ok S15_ok (SD := []) trivial (N := 0) (keep := false) Try.func15 rfl) (fun ds r h => ?_)⟩
  unfold G15 at h
  split at h
  · rename_i a g e
    obtain ⟨hg, h⟩ := ite_get h
    cases h
    rw [F15]
    exact fits15 a g e (of_decide_eq_true hg)
  · cases h
end Go.Proofs.Ytbdkijiaojbmgaa.C

set_option linter.unusedVariables false
set_option maxRecDepth 100000
namespace Go.Proofs.Ytbdkijiaojbmgaa.C
open Go Go.Proofs.Ytbdkijiaojbmgaa.D

noncomputable def S8 : List (Nat × D.Spec E) := [(9, .pure [i64T, i64T] G9), (11, .pure [i64T, i64T] G11), (13, .pure [i64T, i64T] G13), (15, .pure [i64T, i64T, i64T] G15)]
theorem S8_ok : AllS Try.prog E S8 := ⟨spec9, spec11, spec13, spec15, trivial⟩

def G8 : List (DVal E.T) → Tree (Res E.T)
  | [] => .ret (.ret [bo true])
  | _ => .fail

theorem F8 : (body S8 [] 0 false Try.f8 [] []).get = some (.ret [bo true], []) := by kernel_rfl

theorem spec8 : SpecOk Try.prog E 8 (.pure [] G8) := by
  refine ⟨Try.call8, pure_ok (body_ok S8_ok (SD := []) trivial (N := 0) (keep := false) Try.func8 rfl) (fun ds r h => ?_)⟩
  unfold G8 at h
  split at h
  · cases h
    exact F8
  · cases h
end Go.Proofs.Ytbdkijiaojbmgaa.C

set_option linter.unusedVariables false
set_option maxRecDepth 100000
namespace Go.Proofs.Ytbdkijiaojbmgaa.C
open Go Go.Proofs.Ytbdkijiaojbmgaa.D

noncomputable def S7 : List (Nat × D.Spec E) := [(8, .pure [] G8), (11, .pure [i64T, i64T] G11), (13, .pure [i64T, i64T] G13)]
theorem S7_ok : AllS Try.prog E S7 := ⟨spec8, spec11, spec13, trivial⟩

def mn (a b : Int) : Int := if b < a then b else a
def mx (a b : Int) : Int := if b > a then b else a

abbrev Rb (b : Bool) : Option (Res E.T × St E.T) := some (.ret [bo b], [])

def growsB (t u x y : Int) : Option (Res E.T × St E.T) :=
  bif decide (short t x ≤ short u x) then (bif decide (long t x ≤ long u x) then (bif decide (short t y ≤ short t x) then (bif decide (long t y ≥ long t x) then (bif decide (short (long t x) x ≥ t) then Rb (decide (long (short t x) x ≤ t)) else Rb false) else Rb false) else Rb false) else Rb false) else Rb false

theorem F7 (a b d e : Int) : (body S7 [] 0 false Try.f7 [.val (.int .u32) a, .val (.int .u32) b, .val (.int .u16) d, .val (.int .u16) e] []).get =
    (bif decide (wr ((mn d e).tmod 501) > wr ((mx d e).tmod 501)) then growsB (wr (mn a b)) (wr (mx a b)) (wr ((mx d e).tmod 501)) (wr ((mn d e).tmod 501)) else growsB (wr (mn a b)) (wr (mx a b)) (wr ((mn d e).tmod 501)) (wr ((mx d e).tmod 501))) := by kernel_rfl

theorem inB_of {t e : Int} (h1 : 0 ≤ t) (h2 : t ≤ 1099511627776) (h3 : 0 ≤ e) (h4 : e ≤ 500) : inB t e = true := inB_iff.2 ⟨⟨h1, h2⟩, h3, h4⟩

theorem short_val {t e : Int} (h1 : 0 ≤ t) (h2 : t ≤ 1099511627776) (h3 : 0 ≤ e) (h4 : e ≤ 500) : short t e = t * (1000 - e) / (1000 + e) := by
  unfold short
  rw [inB_of h1 h2 h3 h4]
  exact Int.tdiv_eq_ediv_of_nonneg (Int.mul_nonneg h1 (by omega))

theorem long_val {t e : Int} (h1 : 0 ≤ t) (h2 : t ≤ 1099511627776) (h3 : 0 ≤ e) (h4 : e ≤ 500) : long t e = (t * (1000 + e) + (1000 - e) - 1) / (1000 - e) := by
  unfold long
  rw [inB_of h1 h2 h3 h4]
  have := Int.mul_nonneg h1 (show (0 : Int) ≤ 1000 + e by omega)
  exact Int.tdiv_eq_ediv_of_nonneg (by omega)

end Go.Proofs.Ytbdkijiaojbmgaa.C

set_option linter.unusedVariables false
set_option maxRecDepth 100000
namespace Go.Proofs.Ytbdkijiaojbmgaa.C
open Go Go.Proofs.Ytbdkijiaojbmgaa.D

theorem short_iff {t e q : Int} (h1 : 0 ≤ t) (h2 : t ≤ 1099511627776) (h3 : 0 ≤ e) (h4 : e ≤ 500) : q ≤ short t e ↔ q * (1000 + e) ≤ t * (1000 - e) := by
  rw [short_val h1 h2 h3 h4]
  exact Int.le_ediv_iff_mul_le (by omega)

theorem long_iff {t e q : Int} (h1 : 0 ≤ t) (h2 : t ≤ 1099511627776) (h3 : 0 ≤ e) (h4 : e ≤ 500) : long t e ≤ q ↔ t * (1000 + e) ≤ q * (1000 - e) := by
  rw [long_val h1 h2 h3 h4, ← Int.lt_add_one_iff, Int.ediv_lt_iff_lt_mul (by omega)]
  have : (q + 1) * (1000 - e) = q * (1000 - e) + (1000 - e) := by rw [Int.add_mul]; omega
  omega

theorem short_nonneg {t e : Int} (h1 : 0 ≤ t) (h2 : t ≤ 1099511627776) (h3 : 0 ≤ e) (h4 : e ≤ 500) : 0 ≤ short t e := by
  rw [short_iff h1 h2 h3 h4]
  have := Int.mul_nonneg h1 (show (0 : Int) ≤ 1000 - e by omega)
  omega

theorem short_le {t e : Int} (h1 : 0 ≤ t) (h2 : t ≤ 1099511627776) (h3 : 0 ≤ e) (h4 : e ≤ 500) : short t e ≤ t := by
  rw [short_val h1 h2 h3 h4, ← Int.lt_add_one_iff, Int.ediv_lt_iff_lt_mul (by omega)]
  have h5 : (t + 1) * (1000 + e) = t * (1000 + e) + (1000 + e) := by rw [Int.add_mul]; omega
  have := Int.mul_le_mul_of_nonneg_left (show 1000 - e ≤ 1000 + e by omega) h1
  omega

theorem long_nonneg {t e : Int} (h1 : 0 ≤ t) (h2 : t ≤ 1099511627776) (h3 : 0 ≤ e) (h4 : e ≤ 500) : 0 ≤ long t e := by
  rw [long_val h1 h2 h3 h4]
  have := Int.mul_nonneg h1 (show (0 : Int) ≤ 1000 + e by omega)
  exact Int.ediv_nonneg (by omega) (by omega)

theorem long_le {t e : Int} (h1 : 0 ≤ t) (h2 : t ≤ 1099511627776) (h3 : 0 ≤ e) (h4 : e ≤ 500) : long t e ≤ 3 * t := by
  rw [long_iff h1 h2 h3 h4]
  have := Int.mul_le_mul_of_nonneg_left (show 1000 + e ≤ 3 * (1000 - e) by omega) h1
  have h5 : 3 * t * (1000 - e) = t * (3 * (1000 - e)) := by rw [Int.mul_comm 3 t, Int.mul_assoc]
  omega

theorem short_mono {t u e : Int} (h1 : 0 ≤ t) (h : t ≤ u) (h2 : u ≤ 1099511627776) (h3 : 0 ≤ e) (h4 : e ≤ 500) : short t e ≤ short u e := by
  rw [short_iff (by omega) h2 h3 h4]
  have := (short_iff h1 (by omega) h3 h4).1 (Int.le_refl (short t e))
  have := Int.mul_le_mul_of_nonneg_right h (show (0 : Int) ≤ 1000 - e by omega)
  omega

theorem long_mono {t u e : Int} (h1 : 0 ≤ t) (h : t ≤ u) (h2 : u ≤ 1099511627776) (h3 : 0 ≤ e) (h4 : e ≤ 500) : long t e ≤ long u e := by
  rw [long_iff h1 (by omega) h3 h4]
  have := (long_iff (by omega) h2 h3 h4).1 (Int.le_refl (long u e))
  have := Int.mul_le_mul_of_nonneg_right h (show (0 : Int) ≤ 1000 + e by omega)
  omega

theorem short_wide {t d e : Int} (h1 : 0 ≤ t) (h2 : t ≤ 1099511627776) (h3 : 0 ≤ d) (h : d ≤ e) (h4 : e ≤ 500) : short t e ≤ short t d := by
  have hn := short_nonneg h1 h2 (by omega) h4
  rw [short_iff h1 h2 h3 (by omega)]
  have := (short_iff h1 h2 (by omega) h4).1 (Int.le_refl (short t e))
  have := Int.mul_le_mul_of_nonneg_left (show 1000 + d ≤ 1000 + e by omega) hn
  have := Int.mul_le_mul_of_nonneg_left (show 1000 - e ≤ 1000 - d by omega) h1
  omega

theorem long_wide {t d e : Int} (h1 : 0 ≤ t) (h2 : t ≤ 1099511627776) (h3 : 0 ≤ d) (h : d ≤ e) (h4 : e ≤ 500) : long t d ≤ long t e := by
  have hn := long_nonneg h1 h2 (by omega) h4
  rw [long_iff h1 h2 h3 (by omega)]
  have := (long_iff h1 h2 (by omega) h4).1 (Int.le_refl (long t e))
  have := Int.mul_le_mul_of_nonneg_left (show 1000 - e ≤ 1000 - d by omega) hn
  have := Int.mul_le_mul_of_nonneg_left (show 1000 + d ≤ 1000 + e by omega) h1
  omega

theorem short_long {t e : Int} (h1 : 0 ≤ t) (h2 : 3 * t ≤ 1099511627776) (h3 : 0 ≤ e) (h4 : e ≤ 500) : t ≤ short (long t e) e := by
  have hl := long_le h1 (by omega) h3 h4
  rw [short_iff (long_nonneg h1 (by omega) h3 h4) (by omega) h3 h4]
  exact (long_iff h1 (by omega) h3 h4).1 (Int.le_refl _)

theorem long_short {t e : Int} (h1 : 0 ≤ t) (h2 : t ≤ 1099511627776) (h3 : 0 ≤ e) (h4 : e ≤ 500) : long (short t e) e ≤ t := by
  have hl := short_le h1 h2 h3 h4
  rw [long_iff (short_nonneg h1 h2 h3 h4) (by omega) h3 h4]
  exact (short_iff h1 h2 h3 h4).1 (Int.le_refl _)

theorem growsB_true {t u x y : Int} (h1 : 0 ≤ t) (h : t ≤ u) (h2 : u ≤ 4294967295) (h3 : 0 ≤ x) (h5 : x ≤ y) (h4 : y ≤ 500) : growsB t u x y = Rb true := by
  unfold growsB
  rw [decide_eq_true (short_mono h1 h (by omega) h3 (by omega)), decide_eq_true (long_mono h1 h (by omega) h3 (by omega)), decide_eq_true (short_wide h1 (by omega) h3 h5 h4),
    decide_eq_true (long_wide h1 (by omega) h3 h5 h4 : long t y ≥ long t x), decide_eq_true (short_long h1 (by omega) h3 (by omega) : short (long t x) x ≥ t), decide_eq_true (long_short h1 (by omega) h3 (by omega))]
  rfl

theorem law7 {a b d e : Int} (ha : 0 ≤ a ∧ a ≤ 4294967295) (hb : 0 ≤ b ∧ b ≤ 4294967295) (hd : 0 ≤ d ∧ d ≤ 65535) (he : 0 ≤ e ∧ e ≤ 65535) :
    (body S7 [] 0 false Try.f7 [.val (.int .u32) a, .val (.int .u32) b, .val (.int .u16) d, .val (.int .u16) e] []).get = Rb true := by
  rw [F7]
  have m1 : 0 ≤ mn a b ∧ mn a b ≤ mx a b ∧ mx a b ≤ 4294967295 := by unfold mn mx; split <;> omega
  have m2 : 0 ≤ mn d e ∧ 0 ≤ mx d e := by unfold mn mx; split <;> omega
  generalize mn a b = t at *
  generalize mx a b = u at *
  generalize mn d e = x at *
  generalize mx d e = y at *
  rw [Int.tmod_eq_emod_of_nonneg m2.1, Int.tmod_eq_emod_of_nonneg m2.2]
  have e1 : 0 ≤ x % 501 ∧ x % 501 ≤ 500 := by omega
  have e2 : 0 ≤ y % 501 ∧ y % 501 ≤ 500 := by omega
  generalize x % 501 = x' at *
  generalize y % 501 = y' at *
  rw [wr_id (n := t) (by omega) (by omega), wr_id (n := u) (by omega) (by omega), wr_id (n := x') (by omega) (by omega), wr_id (n := y') (by omega) (by omega)]
  by_cases h : x' > y'
  · rw [decide_eq_true h]; exact growsB_true m1.1 m1.2.1 m1.2.2 e2.1 (by omega) e1.2
  · rw [decide_eq_false h]; exact growsB_true m1.1 m1.2.1 m1.2.2 e1.1 (by omega) e2.2

theorem law7_args (xs : List (DVal E.T)) (h : ArgsOk E 1048576 [.int .u32, .int .u32, .int .u16, .int .u16] xs) : (body S7 [] 0 false Try.f7 xs []).get = some (.ret [.val .bool true], []) := by
  obtain _ | ⟨_, _, a, _, ha, _ | ⟨_, _, b, _, hb, _ | ⟨_, _, d, _, hd, _ | ⟨_, _, e, _, he, h5⟩⟩⟩⟩ := h
  cases h5
  exact law7 (ha 1) (hb 1) (hd 1) (he 1)
end Go.Proofs.Ytbdkijiaojbmgaa.C

set_option linter.unusedVariables false
set_option maxRecDepth 100000
namespace Go.Proofs.Ytbdkijiaojbmgaa.C
open Go Go.Proofs.Ytbdkijiaojbmgaa.D

def kp (l : List (List Nat)) : Nat → LoopInfo E := fun i => { keep := nth l i [], closed := none }

noncomputable def bodyK (S : List (Nat × D.Spec E)) (SD : List (Nat × DSpec E)) (l : List (List Nat)) (N : Nat) (keep : Bool) (fn : Func) : List (DVal E.T) → St E.T → Tree (Res E.T × St E.T) := dbody E (lookS S) (lookD SD) (kp l) N keep fn

theorem bodyK_ok {S : List (Nat × D.Spec E)} (hS : AllS Try.prog E S) {SD : List (Nat × DSpec E)} (hD : AllD Try.prog E SD) {l : List (List Nat)} {N : Nat} {keep : Bool} {f : FuncId} {fn : Func} {c : Code} (hf : Try.prog.funcs[f]? = some fn) (hb : fn.body = some c) :
    FnOk Try.prog E f (bodyK S SD l N keep fn) := dbody_ok sound mix (callOk sound (lookS_ok hS)) (lookD_ok hD) hf hb (loopsOk_open (fun _ => rfl) c 0)

noncomputable def S6 : List (Nat × D.Spec E) := [(8, .pure [] G8), (9, .pure [i64T, i64T] G9), (11, .pure [i64T, i64T] G11), (13, .pure [i64T, i64T] G13), (15, .pure [i64T, i64T, i64T] G15)]
theorem S6_ok : AllS Try.prog E S6 := ⟨spec8, spec9, spec11, spec13, spec15, trivial⟩

theorem F6 : (bodyK S6 [] [[0, 1, 2, 3, 4, 5]] 12 false Try.f6 [] []).get = Rb true := by kernel_rfl

theorem law6_args (xs : List (DVal E.T)) (h : ArgsOk E 1048576 [] xs) : (bodyK S6 [] [[0, 1, 2, 3, 4, 5]] 12 false Try.f6 xs []).get = some (.ret [.val .bool true], []) := by
  cases h
  exact F6
end Go.Proofs.Ytbdkijiaojbmgaa.C

set_option linter.unusedVariables false
set_option maxRecDepth 100000
namespace Go.Proofs.Ytbdkijiaojbmgaa.C
open Go Go.Proofs.Ytbdkijiaojbmgaa.D

noncomputable def stepOf (S : List (Nat × D.Spec E)) (L : Nat → LoopInfo E) (N k : Nat) (fn : Func) : Fr E.T → St E.T → Tree (CodeOut E) :=
  match fn.body with
  | some c => match loopAt k c with
    | some cb => dcode E (lookS S) L N (k + 1) cb
    | none => fun _ _ => .fail
  | none => fun _ _ => .fail

noncomputable def bodyL (S : List (Nat × D.Spec E)) (SD : List (Nat × DSpec E)) (L : Nat → LoopInfo E) (N : Nat) (keep : Bool) (fn : Func) : List (DVal E.T) → St E.T → Tree (Res E.T × St E.T) := dbody E (lookS S) (lookD SD) L N keep fn

/-- One loop, in closed form. -/
def oneL (n : Nat) (ks : List Nat) (g : List (DVal E.T) → St E.T → Tree (CodeOut E)) : Nat → LoopInfo E
  | 0 => { keep := ks, closed := some (closedOf E n ks g) }
  | _ => { keep := [], closed := none }

theorem bodyL_ok {S : List (Nat × D.Spec E)} (hS : AllS Try.prog E S) {SD : List (Nat × DSpec E)} (hD : AllD Try.prog E SD) {n : Nat} {ks : List Nat} {g : List (DVal E.T) → St E.T → Tree (CodeOut E)} {N : Nat} {keep : Bool} {f : FuncId} {fn : Func} {c : Code} (hf : Try.prog.funcs[f]? = some fn) (hb : fn.body = some c)
    (h : ∀ vals st out, (g vals st).get = some out → LoopTo (stepOf S (oneL n ks g) N 0 fn) ks st.length (ofSlots E n ks vals) st out) :
    FnOk Try.prog E f (bodyL S SD (oneL n ks g) N keep fn) := by
  refine dbody_ok sound mix (callOk sound (lookS_ok hS)) (lookD_ok hD) hf hb (loopsOk_of c 0 fun k cb hk f' hf' => ?_)
  rw [Nat.zero_add] at hf' ⊢
  cases k with
  | zero =>
    cases hf'
    have := closed_ok (E := E) h
    unfold stepOf at this
    rw [hb] at this
    simp only [hk] at this
    exact this
  | succ k => cases hf'

noncomputable def S5 : List (Nat × D.Spec E) := [(8, .pure [] G8), (9, .pure [i64T, i64T] G9), (15, .pure [i64T, i64T, i64T] G15)]
theorem S5_ok : AllS Try.prog E S5 := ⟨spec8, spec9, spec15, trivial⟩
end Go.Proofs.Ytbdkijiaojbmgaa.C

set_option linter.unusedVariables false
set_option maxRecDepth 100000
namespace Go.Proofs.Ytbdkijiaojbmgaa.C
open Go Go.Proofs.Ytbdkijiaojbmgaa.D

def rd {β : Type} (n : Nat) (l : List (List UInt8)) (i j : Int) (k : UInt8 → Option β) : Option β :=
  bif inRange i l.length then Option.bind l[i.toNat]? fun z => bif inRange j n then Option.bind z[j.toNat]? k else none else none

def xx (u : UInt8) : Int := wr (u.toNat : Int)
def yd (u : UInt8) : Int := wr (wr ((xx u).tdiv 2) + 1)
def yy (u v : UInt8) : Int := wr (wr (xx u - wr ((xx u).tdiv 4)) + (xx v).tmod (yd u))

def ks5 : List Nat := [0, 1, 2, 3, 8, 9, 10, 11, 12]
def hd5 (e : Int) (l : List (List UInt8)) (a b : Int) (r : Bool) (eps x y i : Int) : Fr E.T :=
  ofSlots E 102 ks5 [.val (.int .u16) e, .val (.slice (.arr 2 (.int .u8))) l, i64 a, i64 b, bo r, i64 eps, i64 x, i64 y, i64 i]
def ex5 (e : Int) (l : List (List UInt8)) (a b : Int) (r : Bool) (eps x y i : Int) : Fr E.T :=
  { s := upd (upd (upd (upd (hd5 e l a b r eps x y i).s 26 (i64 i)) 27 (.val (.slice (.arr 2 (.int .u8))) l)) 28 (i64 (l.length : Int))) 29 (bo false), d := [] }

theorem step5 (L : Nat → LoopInfo E) (e : Int) (l : List (List UInt8)) (a b : Int) (r : Bool) (eps x y : Int) (k : Nat) :
    ((stepOf S5 L 0 0 Try.f5 (hd5 e l a b r eps x y (k : Int)) []).bind (nx E ks5 0)).get =
    (bif decide ((k : Int) < (l.length : Int)) then (rd 2 l k 0 fun u => rd 2 l k 1 fun v => bif (yd u == 0) then none else bif decide (yy u v ≤ 9223372036854775807) then
      (bif Ytbdkijiaojbmgaa.C.fits (xx u) (yy u v) eps then some (.inl (hd5 e l a b r eps (wr (x + xx u)) (wr (y + yy u v)) (wr (k + 1)), [])) else some (.inl (hd5 e l a b r eps x y (wr (k + 1)), []))) else none)
    else some (.inr (.exit 0, ex5 e l a b r eps x y k, []))) := by kernel_rfl

/-- Whether all rows have so many bytes. -/
def allLen (n : Nat) (l : List (List UInt8)) : Bool := l.all fun p => Nat.beq p.length n

def ac5 (eps : Int) (s : Int × Int) (p : List UInt8) : Int × Int :=
  match p with
  | [u, v] => bif Ytbdkijiaojbmgaa.C.fits (xx u) (yy u v) eps then (wr (s.1 + xx u), wr (s.2 + yy u v)) else s
  | _ => s

def sum5 (eps : Int) (l : List (List UInt8)) : Int × Int := l.foldl (ac5 eps) (0, 0)

def g5 (vals : List (DVal E.T)) (st : St E.T) : Tree (CodeOut E) :=
  match vals, st with
  | [.val (.int .u16) e, .val (.slice (.arr 2 (.int .u8))) l, .val (.int .i64) a, .val (.int .i64) b, .val .bool r, .val (.int .i64) eps, .val (.int .i64) x, .val (.int .i64) y, .val (.int .i64) i], [] =>
    .ite (allLen 2 l && decide (l.length ≤ 1000000) && (x == (0 : Int) && (y == (0 : Int) && i == (0 : Int)))) (.ret (.exit 0, ex5 e l a b r eps (sum5 eps l).1 (sum5 eps l).2 (l.length : Nat), [])) .fail
  | _, _ => .fail

theorem rd_at {β : Type} {n : Nat} {l : List (List UInt8)} {k : Nat} {j : Nat} {p : List UInt8} {u : UInt8} {f : UInt8 → Option β} (h : l[k]? = some p) (hj : j < n) (hu : p[j]? = some u) : rd n l (k : Int) (j : Int) f = f u := by
  unfold rd
  have hk := (List.getElem?_eq_some_iff.1 h).1
  rw [show inRange (k : Int) l.length = true by unfold inRange; simp; omega, show inRange (j : Int) n = true by unfold inRange; simp; omega]
  simp only [cond_true, Int.toNat_natCast, h, Option.bind_some, hu]

theorem rd0 {β : Type} {n : Nat} {l : List (List UInt8)} {k : Nat} {p : List UInt8} {u : UInt8} {f : UInt8 → Option β} (h : l[k]? = some p) (hj : 0 < n) (hu : p[0]? = some u) : rd n l (k : Int) 0 f = f u := rd_at (j := 0) h hj hu
theorem rd1 {β : Type} {n : Nat} {l : List (List UInt8)} {k : Nat} {p : List UInt8} {u : UInt8} {f : UInt8 → Option β} (h : l[k]? = some p) (hj : 1 < n) (hu : p[1]? = some u) : rd n l (k : Int) 1 f = f u := rd_at (j := 1) h hj hu
theorem rd2 {β : Type} {n : Nat} {l : List (List UInt8)} {k : Nat} {p : List UInt8} {u : UInt8} {f : UInt8 → Option β} (h : l[k]? = some p) (hj : 2 < n) (hu : p[2]? = some u) : rd n l (k : Int) 2 f = f u := rd_at (j := 2) h hj hu

theorem yd_ok (u : UInt8) : (yd u == 0) = false := by
  have h : u.toNat < 256 := u.toNat_lt
  have e1 : xx u = (u.toNat : Int) := wr_id (by omega) (by omega)
  unfold yd
  rw [e1, Int.tdiv_eq_ediv_of_nonneg (by omega), wr_id (n := (u.toNat : Int) / 2) (by omega) (by omega), wr_id (by omega) (by omega), beq_eq_false_iff_ne]
  omega

theorem yy_le (u v : UInt8) : yy u v ≤ 9223372036854775807 := by
  unfold yy wr; rw [IntKind.wrap_i64]; omega

theorem loop5 (L : Nat → LoopInfo E) (e : Int) (l : List (List UInt8)) (a b : Int) (r : Bool) (eps : Int) (hl : allLen 2 l = true) (hn : l.length ≤ 1000000) : ∀ (q : List (List UInt8)) (k : Nat) (x y : Int), l.drop k = q → k ≤ l.length →
    LoopTo (stepOf S5 L 0 0 Try.f5) ks5 0 (hd5 e l a b r eps x y (k : Int)) [] (.exit 0, ex5 e l a b r eps (q.foldl (ac5 eps) (x, y)).1 (q.foldl (ac5 eps) (x, y)).2 (l.length : Nat), [])
  | [], k, x, y, hq, hk => by
    have hkl : k = l.length := by
      have := congrArg List.length hq
      simp at this
      omega
    subst hkl
    refine LoopTo.stop ?_
    rw [step5, decide_eq_false (by omega)]
    rfl
  | p :: q, k, x, y, hq, hk => by
    have hlen := congrArg List.length hq
    simp only [List.length_drop, List.length_cons] at hlen
    have hat : l[k]? = some p := by
      have := congrArg (fun z => z[0]?) hq
      simpa using this
    have hp : p.length = 2 := by
      have := List.all_eq_true.1 hl p (List.mem_of_getElem? hat)
      exact Nat.eq_of_beq_eq_true this
    have hq' : l.drop (k + 1) = q := by
      have := congrArg (List.drop 1) hq
      simpa [List.drop_drop, Nat.add_comm] using this
    match p, hp with
    | [u, v], _ =>
      have ih := loop5 L e l a b r eps hl hn q (k + 1) (ac5 eps (x, y) [u, v]).1 (ac5 eps (x, y) [u, v]).2 hq' (by omega)
      rw [List.foldl_cons]
      refine LoopTo.next ?_ ih
      rw [step5, decide_eq_true (by omega)]
      simp only [cond_true]
      rw [rd0 hat (by omega) (u := u) rfl, rd1 hat (by omega) (u := v) rfl, yd_ok, decide_eq_true (yy_le u v)]
      have hw : wr ((k : Int) + 1) = ((k + 1 : Nat) : Int) := by
        rw [wr_id (by omega) (by omega)]; omega
      rw [hw]
      simp only [cond_false, cond_true]
      rw [show ac5 eps (x, y) [u, v] = bif Ytbdkijiaojbmgaa.C.fits (xx u) (yy u v) eps then (wr (x + xx u), wr (y + yy u v)) else (x, y) from rfl]
      cases Ytbdkijiaojbmgaa.C.fits (xx u) (yy u v) eps <;> rfl

theorem g5_ok (L : Nat → LoopInfo E) (vals : List (DVal E.T)) (st : St E.T) (out : CodeOut E) (h : (g5 vals st).get = some out) : LoopTo (stepOf S5 L 0 0 Try.f5) ks5 st.length (ofSlots E 102 ks5 vals) st out := by
  unfold g5 at h
  split at h
  · rename_i e l a b r eps x y i
    simp only [Tree.get] at h
    rw [cond_eq_ite] at h
    split at h
    · rename_i hc
      cases h
      simp only [Bool.and_eq_true, decide_eq_true_eq, beq_iff_eq] at hc
      obtain ⟨⟨h1, h2⟩, h3, h4, h5⟩ := hc
      have := loop5 L e l a b r eps h1 h2 l 0 0 0 rfl (Nat.zero_le _)
      rw [h3, h4, h5]
      exact this
    · cases h
  · cases h

noncomputable def B5 : List (DVal E.T) → St E.T → Tree (Res E.T × St E.T) := bodyL S5 [] (oneL 102 ks5 g5) 0 false Try.f5

theorem f5_ok : FnOk Try.prog E 5 B5 := bodyL_ok S5_ok (SD := []) trivial Try.func5 rfl (g5_ok _)

def cnd (b : Bool) (k : Option (Res E.T × St E.T)) : Option (Res E.T × St E.T) := bif b then k else none

def end5 (x y s gain by_ eps : Int) : Option (Res E.T × St E.T) :=
  bif decide (gain ≤ 9223372036854775807) then cnd (Ytbdkijiaojbmgaa.C.fits by_ gain eps) (cnd (decide (s ≥ x)) (cnd (decide (s ≥ y)) (cnd (s == add y x) (bif (s == 9223372036854775807) then Rb true else Rb (wr (s - x) == y))))) else none

theorem F5 (e : Int) (l : List (List UInt8)) (a b : Int) : (B5 [.val (.int .u16) e, .val (.slice (.arr 2 (.int .u8))) l, i64 a, i64 b] []).get =
    (bif decide ((l.length : Int) > 12) then Rb true else bif (allLen 2 l && decide (l.length ≤ 1000000)) && true then
      end5 (mx a 0) (mx b 0) (add (mx a 0) (mx b 0)) (sum5 (wr (e.tmod 501)) l).2 (sum5 (wr (e.tmod 501)) l).1 (wr (e.tmod 501)) else none) := by kernel_rfl
end Go.Proofs.Ytbdkijiaojbmgaa.C

set_option linter.unusedVariables false
set_option maxRecDepth 100000
namespace Go.Proofs.Ytbdkijiaojbmgaa.C
open Go Go.Proofs.Ytbdkijiaojbmgaa.D

theorem fits_iff {a g e : Int} : Ytbdkijiaojbmgaa.C.fits a g e = true ↔ (0 ≤ a ∧ a ≤ 1099511627776) ∧ (0 ≤ e ∧ e ≤ 500) ∧ 0 ≤ g ∧ a * (1000 - e) ≤ g * 1000 ∧ g * 1000 ≤ a * (1000 + e) := by
  unfold Ytbdkijiaojbmgaa.C.fits
  simp only [Bool.and_eq_true, inB_iff, decide_eq_true_eq]
  constructor
  · rintro ⟨⟨h1, h2⟩, h3, h4, h5⟩; exact ⟨h1, h2, h3, h4, h5⟩
  · rintro ⟨h1, h2, h3, h4, h5⟩; exact ⟨⟨h1, h2⟩, h3, h4, h5⟩

theorem xx_val (u : UInt8) : xx u = (u.toNat : Int) := by
  have h : u.toNat < 256 := u.toNat_lt
  exact wr_id (by omega) (by omega)

theorem yd_val (u : UInt8) : yd u = (u.toNat : Int) / 2 + 1 := by
  have h : u.toNat < 256 := u.toNat_lt
  unfold yd
  rw [xx_val, Int.tdiv_eq_ediv_of_nonneg (by omega), wr_id (n := (u.toNat : Int) / 2) (by omega) (by omega), wr_id (by omega) (by omega)]

theorem yy_bd (u v : UInt8) : 0 ≤ yy u v ∧ yy u v ≤ 1000 := by
  have h : u.toNat < 256 := u.toNat_lt
  have hv : v.toNat < 256 := v.toNat_lt
  unfold yy
  rw [yd_val, xx_val, xx_val, Int.tdiv_eq_ediv_of_nonneg (by omega), Int.tmod_eq_emod_of_nonneg (by omega)]
  have h1 := Int.emod_nonneg (v.toNat : Int) (show (u.toNat : Int) / 2 + 1 ≠ 0 by omega)
  have h2 := Int.emod_lt_of_pos (v.toNat : Int) (show (0 : Int) < (u.toNat : Int) / 2 + 1 by omega)
  generalize (v.toNat : Int) % ((u.toNat : Int) / 2 + 1) = m at *
  rw [wr_id (n := (u.toNat : Int) / 4) (by omega) (by omega), wr_id (n := (u.toNat : Int) - (u.toNat : Int) / 4) (by omega) (by omega), wr_id (by omega) (by omega)]
  omega

def Inv5 (eps : Int) (k : Nat) (x y : Int) : Prop := 0 ≤ x ∧ x ≤ 1000 * k ∧ 0 ≤ y ∧ y ≤ 1000 * k ∧ x * (1000 - eps) ≤ y * 1000 ∧ y * 1000 ≤ x * (1000 + eps)

theorem sum5_inv {eps : Int} : ∀ (q : List (List UInt8)) (k : Nat) (x y : Int), Inv5 eps k x y → k + q.length ≤ 12 → Inv5 eps (k + q.length) (q.foldl (ac5 eps) (x, y)).1 (q.foldl (ac5 eps) (x, y)).2
  | [], k, x, y, h, _ => h
  | p :: q, k, x, y, h, hk => by
    rw [List.length_cons] at hk ⊢
    rw [List.foldl_cons]
    have hstep : Inv5 eps (k + 1) (ac5 eps (x, y) p).1 (ac5 eps (x, y) p).2 := by
      obtain ⟨h1, h2, h3, h4, h5, h6⟩ := h
      have keep : Inv5 eps (k + 1) x y := ⟨h1, by omega, h3, by omega, h5, h6⟩
      unfold ac5
      split
      · rename_i u v
        cases hf : Ytbdkijiaojbmgaa.C.fits (xx u) (yy u v) eps with
        | false => exact keep
        | true =>
          obtain ⟨_, _, _, f4, f5⟩ := fits_iff.1 hf
          have hb := yy_bd u v
          have hu : u.toNat < 256 := u.toNat_lt
          rw [xx_val] at f4 f5 ⊢
          generalize yy u v = c at *
          simp only [cond_true]
          rw [wr_id (n := x + (u.toNat : Int)) (by omega) (by omega), wr_id (n := y + c) (by omega) (by omega)]
          refine ⟨by omega, by omega, by omega, by omega, ?_, ?_⟩
          · rw [Int.add_mul, Int.add_mul]; omega
          · rw [Int.add_mul, Int.add_mul]; omega
      · exact keep
    have := sum5_inv q (k + 1) _ _ hstep (by omega)
    rwa [show k + 1 + q.length = k + (q.length + 1) by omega] at this

theorem add_val {x y : Int} (h1 : 0 ≤ x) (h2 : x ≤ 9223372036854775807) (h3 : 0 ≤ y) (h4 : y ≤ 9223372036854775807) : add x y = if x + y > 9223372036854775807 then 9223372036854775807 else x + y := by
  unfold add
  rw [wr_id (n := 9223372036854775807 - x) (by omega) (by omega)]
  by_cases h : x > 0
  · rw [decide_eq_true h]
    by_cases hy : y > 9223372036854775807 - x
    · rw [decide_eq_true hy, if_pos (by omega)]; rfl
    · rw [decide_eq_false hy, if_neg (by omega)]; exact wr_id (by omega) (by omega)
  · rw [decide_eq_false h, if_neg (by omega)]; exact wr_id (by omega) (by omega)

theorem law5 {e : Int} {l : List (List UInt8)} {a b : Int} (he : 0 ≤ e) (he2 : e ≤ 65535) (hl : ∀ p ∈ l, p.length = 2) (hn : l.length ≤ 1048576) (ha : a ≤ 9223372036854775807) (hb : b ≤ 9223372036854775807) :
    (B5 [.val (.int .u16) e, .val (.slice (.arr 2 (.int .u8))) l, i64 a, i64 b] []).get = Rb true := by
  rw [F5]
  by_cases h12 : (l.length : Int) > 12
  · rw [decide_eq_true h12]; rfl
  · rw [decide_eq_false h12, show allLen 2 l = true from List.all_eq_true.2 fun p hp => by rw [hl p hp]; rfl, decide_eq_true (show l.length ≤ 1000000 by omega)]
    simp only [Bool.and_self, cond_true, cond_false]
    have m1 : 0 ≤ mx a 0 ∧ mx a 0 ≤ 9223372036854775807 := by unfold mx; split <;> omega
    have m2 : 0 ≤ mx b 0 ∧ mx b 0 ≤ 9223372036854775807 := by unfold mx; split <;> omega
    generalize mx a 0 = x at *
    generalize mx b 0 = y at *
    rw [Int.tmod_eq_emod_of_nonneg he, wr_id (n := e % 501) (by omega) (by omega)]
    have heps : 0 ≤ e % 501 ∧ e % 501 ≤ 500 := by omega
    generalize e % 501 = eps at *
    have hinv := sum5_inv (eps := eps) l 0 0 0 ⟨by omega, by omega, by omega, by omega, by omega, by omega⟩ (by omega)
    change Inv5 eps (0 + l.length) (sum5 eps l).1 (sum5 eps l).2 at hinv
    generalize (sum5 eps l).1 = by_ at *
    generalize (sum5 eps l).2 = gain at *
    obtain ⟨i1, i2, i3, i4, i5, i6⟩ := hinv
    have c1 := add_val m1.1 m1.2 m2.1 m2.2
    have c2 := add_val m2.1 m2.2 m1.1 m1.2
    unfold end5 cnd
    rw [decide_eq_true (show gain ≤ 9223372036854775807 by omega), fits_iff.2 ⟨⟨i1, by omega⟩, heps, i3, i5, i6⟩, c1, c2]
    by_cases hb : x + y > 9223372036854775807
    · rw [if_pos hb, if_pos (show y + x > 9223372036854775807 by omega), decide_eq_true (show (9223372036854775807 : Int) ≥ x by omega), decide_eq_true (show (9223372036854775807 : Int) ≥ y by omega)]
      rfl
    · rw [if_neg hb, if_neg (show ¬ y + x > 9223372036854775807 by omega), decide_eq_true (show x + y ≥ x by omega), decide_eq_true (show x + y ≥ y by omega), wr_id (n := x + y - x) (by omega) (by omega),
        show ((x + y == y + x) = true) by rw [beq_iff_eq]; omega, show ((x + y - x == y) = true) by rw [beq_iff_eq]; omega]
      cases (x + y == 9223372036854775807) <;> rfl

theorem law5_args (xs : List (DVal E.T)) (h : ArgsOk E 1048576 [.int .u16, .slice (.arr 2 (.int .u8)), .int .i64, .int .i64] xs) : (B5 xs []).get = some (.ret [.val .bool true], []) := by
  obtain _ | ⟨_, _, e, _, he, _ | ⟨_, _, l, _, hl, _ | ⟨_, _, a, _, ha, _ | ⟨_, _, b, _, hb, h5⟩⟩⟩⟩ := h
  cases h5
  exact law5 (he 1).1 (he 1).2 (fun p hp => ((hl 2).2 p hp).1) (hl 1).1 (ha 1).2 (hb 1).2
end Go.Proofs.Ytbdkijiaojbmgaa.C

set_option linter.unusedVariables false
set_option maxRecDepth 100000
namespace Go.Proofs.Ytbdkijiaojbmgaa.C
open Go Go.Proofs.Ytbdkijiaojbmgaa.D

noncomputable def S3 : List (Nat × D.Spec E) := [(8, .pure [] G8), (9, .pure [i64T, i64T] G9), (10, .pure [i64T, i64T] G10), (11, .pure [i64T, i64T] G11), (12, .pure [i64T, i64T] G11), (13, .pure [i64T, i64T] G13), (14, .pure [i64T, i64T] G13), (15, .pure [i64T, i64T, i64T] G15), (16, .pure [i64T, i64T, i64T] G15)]
theorem S3_ok : AllS Try.prog E S3 := ⟨spec8, spec9, spec10, spec11, spec12, spec13, spec14, spec15, spec16, trivial⟩

def gg (t y : Int) : Int := wr (wr (t - wr (t.tdiv 8)) + wr (y.tmod 300))
def fitT {β : Type} (a g e : Int) (k : Bool → Option β) : Option β := bif decide (g ≤ 9223372036854775807) then k (Ytbdkijiaojbmgaa.C.fits a g e) else none
def allT {β : Type} (a b t e y : Int) (next : Option β) : Option β :=
  bif !(add a b == refAdd a b) then none else bif !(short t e == short t e) then none else bif !(long t e == long t e) then none else
    bif decide (t ≤ 1099511627776) then (fitT t (gg t y) e fun p => fitT t (gg t y) e fun q => bif !(p == q) then none else next) else next

def ks3 : List Nat := [0, 1, 3, 5, 14, 15, 16, 17, 18]
abbrev V3 := Int × Int × Int
abbrev l3 (x : V3) : DVal E.T := .val (.slice (.int .i64)) [x.1, x.2.1, x.2.2]
def hd3 (a b e y : Int) (r : Bool) (x t s : V3) (i : Int) : Fr E.T := ofSlots E 154 ks3 [i64 a, i64 b, i64 e, .val (.int .u16) y, bo r, l3 x, l3 t, l3 s, i64 i]
def ex3 (a b e y : Int) (r : Bool) (x t s : V3) : Fr E.T := { s := upd (upd (hd3 a b e y r x t s 3).s 40 (i64 3)) 41 (bo false), d := [] }
theorem step3_0 (L : Nat → LoopInfo E) (a b e y : Int) (r : Bool) (x0 x1 x2 t0 t1 t2 e0 e1 e2 : Int) :
    ((stepOf S3 L 0 0 Try.f3 (hd3 a b e y r (x0, x1, x2) (t0, t1, t2) (e0, e1, e2) 0) []).bind (nx E ks3 0)).get = allT x0 (mx b 0) t0 e0 y (some (.inl (hd3 a b e y r (x0, x1, x2) (t0, t1, t2) (e0, e1, e2) 1, []))) := by kernel_rfl
theorem step3_1 (L : Nat → LoopInfo E) (a b e y : Int) (r : Bool) (x0 x1 x2 t0 t1 t2 e0 e1 e2 : Int) :
    ((stepOf S3 L 0 0 Try.f3 (hd3 a b e y r (x0, x1, x2) (t0, t1, t2) (e0, e1, e2) 1) []).bind (nx E ks3 0)).get = allT x1 (mx b 0) t1 e1 y (some (.inl (hd3 a b e y r (x0, x1, x2) (t0, t1, t2) (e0, e1, e2) 2, []))) := by kernel_rfl
theorem step3_2 (L : Nat → LoopInfo E) (a b e y : Int) (r : Bool) (x0 x1 x2 t0 t1 t2 e0 e1 e2 : Int) :
    ((stepOf S3 L 0 0 Try.f3 (hd3 a b e y r (x0, x1, x2) (t0, t1, t2) (e0, e1, e2) 2) []).bind (nx E ks3 0)).get = allT x2 (mx b 0) t2 e2 y (some (.inl (hd3 a b e y r (x0, x1, x2) (t0, t1, t2) (e0, e1, e2) 3, []))) := by kernel_rfl
theorem step3_3 (L : Nat → LoopInfo E) (a b e y : Int) (r : Bool) (x0 x1 x2 t0 t1 t2 e0 e1 e2 : Int) :
    ((stepOf S3 L 0 0 Try.f3 (hd3 a b e y r (x0, x1, x2) (t0, t1, t2) (e0, e1, e2) 3) []).bind (nx E ks3 0)).get = some (.inr (.exit 0, ex3 a b e y r (x0, x1, x2) (t0, t1, t2) (e0, e1, e2), [])) := by kernel_rfl

theorem fitT_of {β : Type} {a g e : Int} {k : Bool → Option β} (h : g ≤ 9223372036854775807) : fitT a g e k = k (Ytbdkijiaojbmgaa.C.fits a g e) := by
  unfold fitT
  rw [decide_eq_true h]
  rfl

theorem gg_le (t y : Int) : gg t y ≤ 9223372036854775807 := by
  unfold gg wr; rw [IntKind.wrap_i64]; omega

theorem allT_of {β : Type} {a b t e y : Int} {k : Option β} (h1 : add a b = refAdd a b) : allT a b t e y k = k := by
  unfold allT
  rw [fitT_of (gg_le t y), fitT_of (gg_le t y), h1]
  simp only [beq_self_eq_true, Bool.not_true, cond_false]
  cases decide (t ≤ 1099511627776) <;> rfl

def sameAdd (a b : Int) : Bool := add a b == refAdd a b

def g3 (vals : List (DVal E.T)) (st : St E.T) : Tree (CodeOut E) :=
  match vals, st with
  | [.val (.int .i64) a, .val (.int .i64) b, .val (.int .i64) e, .val (.int .u16) y, .val .bool r, .val (.slice (.int .i64)) [x0, x1, x2], .val (.slice (.int .i64)) [t0, t1, t2], .val (.slice (.int .i64)) [e0, e1, e2], .val (.int .i64) i], [] =>
    .ite (i == (0 : Int) && (sameAdd x0 (mx b 0) && (sameAdd x1 (mx b 0) && sameAdd x2 (mx b 0)))) (.ret (.exit 0, ex3 a b e y r (x0, x1, x2) (t0, t1, t2) (e0, e1, e2), [])) .fail
  | _, _ => .fail

theorem g3_ok (L : Nat → LoopInfo E) (vals : List (DVal E.T)) (st : St E.T) (out : CodeOut E) (h : (g3 vals st).get = some out) : LoopTo (stepOf S3 L 0 0 Try.f3) ks3 st.length (ofSlots E 154 ks3 vals) st out := by
  unfold g3 at h
  split at h
  · rename_i a b e y r x0 x1 x2 t0 t1 t2 e0 e1 e2 i
    simp only [Tree.get] at h
    rw [cond_eq_ite] at h
    split at h
    · rename_i hc
      cases h
      simp only [Bool.and_eq_true, beq_iff_eq, sameAdd] at hc
      obtain ⟨h0, h1, h2, h3⟩ := hc
      rw [h0]
      refine LoopTo.next (h' := hd3 a b e y r (x0, x1, x2) (t0, t1, t2) (e0, e1, e2) 1) (st' := []) ?_ (LoopTo.next (h' := hd3 a b e y r (x0, x1, x2) (t0, t1, t2) (e0, e1, e2) 2) (st' := []) ?_ (LoopTo.next (h' := hd3 a b e y r (x0, x1, x2) (t0, t1, t2) (e0, e1, e2) 3) (st' := []) ?_ (LoopTo.stop ?_)))
      · exact (step3_0 L a b e y r x0 x1 x2 t0 t1 t2 e0 e1 e2).trans (allT_of h1)
      · exact (step3_1 L a b e y r x0 x1 x2 t0 t1 t2 e0 e1 e2).trans (allT_of h2)
      · exact (step3_2 L a b e y r x0 x1 x2 t0 t1 t2 e0 e1 e2).trans (allT_of h3)
      · exact step3_3 L a b e y r x0 x1 x2 t0 t1 t2 e0 e1 e2
    · cases h
  · cases h

noncomputable def B3 : List (DVal E.T) → St E.T → Tree (Res E.T × St E.T) := bodyL S3 [] (oneL 154 ks3 g3) 0 false Try.f3

theorem f3_ok : FnOk Try.prog E 3 B3 := bodyL_ok S3_ok (SD := []) trivial Try.func3 rfl (g3_ok _)

theorem F3 (a b t e x y z : Int) : (B3 [i64 a, i64 b, i64 t, i64 e, .val (.int .u16) x, .val (.int .u16) y, .val (.int .u16) z] []).get =
    (bif sameAdd (mx a 0) (mx b 0) && (sameAdd (wr x) (mx b 0) && sameAdd (mx b 0) (mx b 0)) then fitT a (mn b 1099511627776) e fun p => fitT a (mn b 1099511627776) e fun q => Rb (p == q) else none) := by kernel_rfl

theorem add_ref {a b : Int} (h0 : 0 ≤ a) (ha : a ≤ 9223372036854775807) (hb : 0 ≤ b) (hb2 : b ≤ 9223372036854775807) : sameAdd a b = true := by
  unfold sameAdd
  rw [beq_iff_eq, add_val h0 ha hb hb2]
  unfold refAdd
  rw [wr_id (n := 9223372036854775807 - b) (by omega) (by omega)]
  by_cases h : a + b > 9223372036854775807
  · rw [if_pos h, decide_eq_true (show a > 9223372036854775807 - b by omega)]; rfl
  · rw [if_neg h, decide_eq_false (show ¬ a > 9223372036854775807 - b by omega)]; exact (wr_id (by omega) (by omega)).symm

theorem law3 {a b t e x y z : Int} (ha : a ≤ 9223372036854775807) (hb : b ≤ 9223372036854775807) (hx : 0 ≤ x) (hx2 : x ≤ 65535) :
    (B3 [i64 a, i64 b, i64 t, i64 e, .val (.int .u16) x, .val (.int .u16) y, .val (.int .u16) z] []).get = Rb true := by
  rw [F3]
  have m1 : 0 ≤ mx a 0 ∧ mx a 0 ≤ 9223372036854775807 := by unfold mx; split <;> omega
  have m2 : 0 ≤ mx b 0 ∧ mx b 0 ≤ 9223372036854775807 := by unfold mx; split <;> omega
  have m3 : mn b 1099511627776 ≤ 9223372036854775807 := by unfold mn; split <;> omega
  rw [fitT_of m3, fitT_of m3, beq_self_eq_true, wr_id (n := x) (by omega) (by omega), add_ref m1.1 m1.2 m2.1 m2.2, add_ref hx (by omega) m2.1 m2.2, add_ref m2.1 m2.2 m2.1 m2.2]
  rfl

theorem law3_args (xs : List (DVal E.T)) (h : ArgsOk E 1048576 [.int .i64, .int .i64, .int .i64, .int .i64, .int .u16, .int .u16, .int .u16] xs) : (B3 xs []).get = some (.ret [.val .bool true], []) := by
  obtain _ | ⟨_, _, a, _, ha, _ | ⟨_, _, b, _, hb, _ | ⟨_, _, t, _, ht, _ | ⟨_, _, e, _, he, _ | ⟨_, _, x, _, hx, _ | ⟨_, _, y, _, hy, _ | ⟨_, _, z, _, hz, h5⟩⟩⟩⟩⟩⟩⟩ := h
  cases h5
  exact law3 (ha 1).2 (hb 1).2 (hx 1).1 (hx 1).2
end Go.Proofs.Ytbdkijiaojbmgaa.C

set_option linter.unusedVariables false
set_option maxRecDepth 100000
namespace Go.Proofs.Ytbdkijiaojbmgaa.C
open Go Go.Proofs.Ytbdkijiaojbmgaa.D Go.ChangeShapes Go.RowKit
open Go.Proofs.Ytbdkijiaojbmgaa

theorem one_le {H : Type} (d : DataW H) : 1 ≤ Rows.uptoBulk d := by
  cases d with
  | lit l => cases l <;> simp [Rows.uptoBulk]
  | nil => simp [Rows.uptoBulk]
  | ptr d => simp [Rows.uptoBulk]
  | slice elems spare => simp [Rows.uptoBulk]
  | agg parts => simp [Rows.uptoBulk]
  | iface t d => simp [Rows.uptoBulk]
  | map entries => simp [Rows.uptoBulk]
  | held h => simp [Rows.uptoBulk]

theorem part_le {H : Type} {d : DataW H} {l : List (DataW H)} (h : d ∈ l) : Rows.uptoBulk d ≤ Rows.uptoBulkAll l := by
  induction l with
  | nil => cases h
  | cons x r ih =>
    simp only [Rows.uptoBulkAll]
    cases List.mem_cons.1 h with
    | inl e => subst e; omega
    | inr e => have := ih e; omega

theorem length_le {H : Type} (l : List (DataW H)) : l.length ≤ Rows.uptoBulkAll l := by
  induction l with
  | nil => simp [Rows.uptoBulkAll]
  | cons x r ih => have := one_le x; simp only [Rows.uptoBulkAll, List.length_cons]; omega

theorem meas {H : Type} : Meas (Rows.uptoBulk (H := H)) where
  str := fun b => by simp [Rows.uptoBulk]
  len := fun l r => by have := length_le l; simp only [Rows.uptoBulk]; omega
  el := fun l r d h => by have := part_le h; simp only [Rows.uptoBulk]; omega
  part := fun l d h => by have := part_le h; simp only [Rows.uptoBulk]; omega

theorem own : ownKnob Try.prog.godebug = none := by kernel_rfl
theorem laid : laidOutB Try.prog = true := by kernel_rfl
theorem full : ∀ t e, t < Try.prog.types.size → Try.prog.underlying t = some (.slice e) → 0 < Try.prog.cellsOf e := fun t e => slices_full_of Try.prog (by kernel_rfl) t e
theorem tl : ∀ t, E.tk t ≠ .other → t < Try.prog.types.size := tbl_lt (tbl := tbl) (fun _ => rfl) (of_decide_eq_true (by kernel_rfl))
theorem bl : 1048576 ≤ lim := of_decide_eq_true (by kernel_rfl)

theorem small {H : Type} {ds : List (DataW H)} (hk : Rows.uptoSmall H (ds ++ []) = true) : ∀ d ∈ ds, Rows.uptoBulk d ≤ 1048576 := by
  rw [List.append_nil] at hk
  have h : Rows.uptoBulkAll ds ≤ 1048576 := of_decide_eq_true hk
  exact fun d hd => Nat.le_trans (part_le hd) h
end Go.Proofs.Ytbdkijiaojbmgaa.C

set_option linter.unusedVariables false
set_option maxRecDepth 100000
namespace Go.Proofs.Ytbdkijiaojbmgaa
open Go Go.ChangeShapes Go.WideShapes Go.ChangeAt Go.RowKit
namespace Q3
open Go.Proofs.Ytbdkijiaojbmgaa.D Go.Proofs.Ytbdkijiaojbmgaa.C

theorem contract (H : Type) (enc : TypeId × Value → H) (W : World) (base : Nat) (args : Array Value) (ds gs : List (DataW H)) (before : List MemPlace)
    (hval : ∀ (j : Nat) t v, Try.f3.params[j]? = some t → args[j]? = some v → Value.okWide Try.prog W .any base t v)
    (hW : DataW.Whole enc Try.prog Try.f3.params.toList Rows.clockAllSpec.vars false W args.toList ds gs before) (hk : ∀ d ∈ ds, Rows.uptoBulk d ≤ 1048576) :
    Calls Try.prog 3 args W fun e W' => ∃ v, e = .returned v ∧ Rows.clockAllSpec.post enc Try.prog Try.f3 false true false false W args v W' :=
  law_contract sound tl laid full meas bl (fn := Try.f3) (tb := 4) rfl Try.underlying4 (ps := [.int .i64, .int .i64, .int .i64, .int .i64, .int .u16, .int .u16, .int .u16]) rfl
    (by
      have h : (Try.f3.params.toList.all fun t => Try.prog.readableRec t && decide (t < Try.prog.types.size)) = true := by kernel_rfl
      intro t ht
      have := List.all_eq_true.1 h t ht
      simpa using this) rfl
    (fun ds hd => by
      match ds, hd with
      | [x0, x1, x2, x3, x4, x5, x6], _ => rfl)
    (f3_ok) law3_args W base args ds gs before hval hW hk

theorem lifted (os : Os) (started : os.Started) (H : Type) (enc : TypeId × Value → H) (F : Stop.Interp) :
    ReturnsInHanded {} Try.checked os 3 .any ((Rows.OpenSpec.upto Rows.clockAllSpec).pre6 enc Try.prog Try.f3 Rows.clockAllUptoRow.domain false) (((Rows.OpenSpec.upto Rows.clockAllSpec).at F).post enc Try.prog Try.f3 false true false false) := by
  refine returnsInHanded_of_cond (C := Try.checked) (s := Rows.OpenSpec.upto Rows.clockAllSpec) (k := Rows.uptoSmall) rfl own started (by kernel_rfl) Try.func3
    (OpenSpec.witness (enc := enc) (C := Try.checked) (s := Rows.OpenSpec.upto Rows.clockAllSpec) (k := Rows.uptoSmall) rfl false ⟨#[], #[.int .i64 0, .int .i64 0, .int .i64 0, .int .i64 0, .int .u16 0, .int .u16 0, .int .u16 0], []⟩ 8 (by kernel_rfl) (by kernel_rfl) (by kernel_rfl)
      (x := ([.lit (.int .i64 0), .lit (.int .i64 0), .lit (.int .i64 0), .lit (.int .i64 0), .lit (.int .u16 0), .lit (.int .u16 0), .lit (.int .u16 0)], [], [])) (by kernel_rfl) rfl (by kernel_rfl)) ?_
  intro W base args ds gs before hval hW _ hk _
  have hgs : gs = [] := by
    obtain ⟨p, q, hA, hV, _⟩ := hW
    cases gs with
    | nil => rfl
    | cons g gs => exact hV.elim
  subst hgs
  exact contract H enc W base args ds [] before hval hW (small hk)

theorem over : Rows.clockAllUptoRow.holds Try.pinned (Rows.OpenSpec.upto Rows.clockAllSpec) :=
  OpenClaim.holds_of_cond 3 Try.f3 rfl rfl rfl rfl rfl rfl rfl ⟨rfl, rfl, rfl, rfl, rfl⟩ rfl rfl rfl rfl rfl (by kernel_rfl) Try.func3 (by kernel_rfl)
    (of_decide_eq_true (by kernel_rfl)) (by unfold Func.isWrapper; first | (rw [if_pos (by decide +kernel)]; kernel_rfl) | (rw [if_neg (by decide +kernel)]; exact ⟨rfl, rfl⟩))
    (fun os started H enc _ F => lifted os started H enc F)
end Q3
theorem clockAll_holds : Rows.ClockAllUptoSaid := Q3.over
end Go.Proofs.Ytbdkijiaojbmgaa

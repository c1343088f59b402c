/- A seat's types. The rows' measure. -/
import Derived.Test.YtphcaobgkegbaaaChecked
import Derived.Test.YtphcaobgkegbaaaBase5
import Derived.Test.YtphcaobgkegbaaaBase6
import Derived.KernelRfl
import Derived.Test.YtphcaobgkegbaaaRows
import Derived.WalkKit
import Derived.ProofKit
import Derived.OpenShut
import Derived.JoinedCond
set_option linter.unusedVariables false
set_option maxRecDepth 100000
namespace Go.Proofs.Ytphcaobgkegbaaa.M
open Go Go.Proofs.Ytphcaobgkegbaaa.D

def tbl : List TK := [.other, .func, .data (.int .i64), .data (.int .i64), .data .bool, .data (.int .u8), .other, .other, .other, .data .str, .other, .other, .data (.int .u64), .other, .other, .other, .other, .other, .other, .other, .iface, .data (.int .i32), .data (.slice (.named 0)), .data (.named 1), .data (.named 1), .data (.int .i64), .data (.named 2), .data (.named 2), .data (.slice (.int .u8)), .func, .func, .ptr, .func, .func, .data (.slice (.named 1)), .func, .data (.slice (.named 2)), .func, .func, .func, .func, .other, .func, .other, .func, .func, .data (.int .u16), .func, .data (.named 0), .data (.named 0), .func, .data (.named 3), .data (.named 3), .func, .data (.slice .str), .func, .func, .func, .func, .func, .func, .func, .func, .func, .func, .func, .func, .func, .ptr, .ptr, .data (.named 4), .data (.named 4), .func, .func, .func, .func, .func, .data (.named 5), .data (.named 5), .other, .data (.named 6), .data (.named 6), .other, .func, .other, .func, .func, .data (.int .u64), .func, .ptr, .func, .data (.named 5), .other, .other, .other, .other, .other, .other, .func, .data (.int .u32), .other, .other, .other, .ptr, .other, .other, .other, .other, .other]

def T : Nat → Type
  | 0 => N.TWrite
  | 1 => N.TAsk
  | 2 => N.TTell
  | 3 => N.Ttenancymade_Picks
  | 4 => N.Ttenancyref13_Reader
  | 5 => N.TNil0
  | 6 => N.Tmsg_reader
  | _ + 7 => Unit
def fields : Nat → List Ty
  | 0 => [(.int .i64), .str]
  | 1 => [(.int .i64), (.int .i64), (.int .i64), (.int .i64), .str, (.int .i64), (.int .i64), (.slice (.named 0))]
  | 2 => [(.int .i64), (.int .i64), (.int .i64), (.int .i64), (.int .i64), (.int .i64), (.int .i64), (.int .i64), .str]
  | 3 => [(.slice (.int .u8)), (.int .i64)]
  | 4 => [(.slice (.int .u8)), .bool]
  | 5 => []
  | 6 => [(.slice (.int .u8))]
  | _ + 7 => []
def out : (i : Nat) → T i → HL T (fields i)
  | 0, x => (x.Off, x.B, ())
  | 1, x => (x.Kind, x.From, x.Epoch, x.Seq, x.Name, x.File, x.Mode, x.Writes, ())
  | 2, x => (x.Kind, x.To, x.Epoch, x.Seq, x.Err, x.File, x.Mode, x.Ver, x.Body, ())
  | 3, x => (x.l, x.n, ())
  | 4, x => (x.B, x.Bad, ())
  | 5, _ => ()
  | 6, x => (x.b, ())
  | _ + 7, _ => ()
def into : (i : Nat) → HL T (fields i) → T i
  | 0, x => ⟨x.1, x.2.1⟩
  | 1, x => ⟨x.1, x.2.1, x.2.2.1, x.2.2.2.1, x.2.2.2.2.1, x.2.2.2.2.2.1, x.2.2.2.2.2.2.1, x.2.2.2.2.2.2.2.1⟩
  | 2, x => ⟨x.1, x.2.1, x.2.2.1, x.2.2.2.1, x.2.2.2.2.1, x.2.2.2.2.2.1, x.2.2.2.2.2.2.1, x.2.2.2.2.2.2.2.1, x.2.2.2.2.2.2.2.2.1⟩
  | 3, x => ⟨x.1, x.2.1⟩
  | 4, x => ⟨x.1, x.2.1⟩
  | 5, _ => ⟨⟩
  | 6, x => ⟨x.1⟩
  | _ + 7, _ => ()
def eqb : (i : Nat) → T i → T i → Bool
  | 0, x, y => N.TWrite.eqb x y
  | 1, x, y => N.TAsk.eqb x y
  | 2, x, y => N.TTell.eqb x y
  | 3, x, y => N.Ttenancymade_Picks.eqb x y
  | 4, x, y => N.Ttenancyref13_Reader.eqb x y
  | 5, x, y => N.TNil0.eqb x y
  | 6, x, y => N.Tmsg_reader.eqb x y
  | _ + 7, _, _ => true
def nsize : Nat → Nat
  | 0 => 2
  | 1 => 8
  | 2 => 9
  | 3 => 2
  | 4 => 2
  | 5 => 0
  | 6 => 1
  | _ + 7 => 0
def cmpT : List Nat := [2, 3, 4, 5, 9, 12, 21, 25, 26, 27, 46, 48, 49, 77, 78, 87, 91, 99]

def E : Env where
  T := T
  fields := fields
  out := out
  into := into
  eqb := eqb
  nsize := nsize
  tk := fun t => nth tbl t .other
  cmp := fun t => memB cmpT t

theorem into_out : ∀ i x, E.into i (E.out i x) = x
  | 0, _ => rfl
  | 1, _ => rfl
  | 2, _ => rfl
  | 3, _ => rfl
  | 4, _ => rfl
  | 5, _ => rfl
  | 6, _ => rfl
  | _ + 7, _ => rfl
theorem out_into : ∀ i r, E.out i (E.into i r) = r
  | 0, _ => rfl
  | 1, _ => rfl
  | 2, _ => rfl
  | 3, _ => rfl
  | 4, _ => rfl
  | 5, _ => rfl
  | 6, _ => rfl
  | _ + 7, () => rfl
theorem nsize_ok : ∀ i, E.nsize i = ((E.fields i).map E.size).sum
  | 0 => rfl
  | 1 => rfl
  | 2 => rfl
  | 3 => rfl
  | 4 => rfl
  | 5 => rfl
  | 6 => rfl
  | _ + 7 => rfl
theorem eqb_ok : ∀ i x y, E.eqb i x y = eqHL E (E.fields i) (E.out i x) (E.out i y)
  | 0, _, _ => rfl
  | 1, _, _ => rfl
  | 2, _, _ => rfl
  | 3, _, _ => rfl
  | 4, _, _ => rfl
  | 5, _, _ => rfl
  | 6, _, _ => rfl
  | _ + 7, _, _ => rfl
theorem ok : EnvOk E := ⟨into_out, out_into, nsize_ok⟩

theorem cmp_ok : ∀ t, E.cmp t = true → Try.prog.eqGuardType Try.prog.depth t = false ∧ Try.prog.stoodInHeld t = false ∧ ∀ fs, Try.prog.underlying t = some (.struct fs) → ∀ f ∈ fs.toList, E.cmp f.type = true :=
  cmp_of Try.prog cmpT (by kernel_rfl)

theorem sound : Sound Try.prog E := by
  refine sound_of ok eqb_ok cmp_ok tbl (fun _ => rfl) ?_
  have t2 : TyM Try.prog E 2 (.int .i64) := tym_of (i := Try.t2) (by kernel_rfl) (by kernel_rfl) (by decide) (by kernel_rfl) (Try.underlying2) (by kernel_rfl)
  have t3 : TyM Try.prog E 3 (.int .i64) := tym_of (i := Try.t3) (by kernel_rfl) (by kernel_rfl) (by decide) (by kernel_rfl) (Try.underlying3) (by kernel_rfl)
  have t4 : TyM Try.prog E 4 .bool := tym_of (i := Try.t4) (by kernel_rfl) (by kernel_rfl) (by decide) (by kernel_rfl) (Try.underlying4) (by kernel_rfl)
  have t5 : TyM Try.prog E 5 (.int .u8) := tym_of (i := Try.t5) (by kernel_rfl) (by kernel_rfl) (by decide) (by kernel_rfl) (Try.underlying5) (by kernel_rfl)
  have t9 : TyM Try.prog E 9 .str := tym_of (i := Try.t9) (by kernel_rfl) (by kernel_rfl) (by decide) (by kernel_rfl) (Try.underlying9) (by kernel_rfl)
  have t12 : TyM Try.prog E 12 (.int .u64) := tym_of (i := Try.t12) (by kernel_rfl) (by kernel_rfl) (by decide) (by kernel_rfl) (Try.underlying12) (by kernel_rfl)
  have t21 : TyM Try.prog E 21 (.int .i32) := tym_of (i := Try.t21) (by kernel_rfl) (by kernel_rfl) (by decide) (by kernel_rfl) (Try.underlying21) (by kernel_rfl)
  have t22 : TyM Try.prog E 22 (.slice (.named 0)) := tym_of (i := Try.t22) (by kernel_rfl) (by kernel_rfl) (by decide) (by kernel_rfl) (⟨_, Try.underlying22, rfl⟩) (by kernel_rfl)
  have t23 : TyM Try.prog E 23 (.named 1) := tym_of (i := Try.t23) (by kernel_rfl) (by kernel_rfl) (by decide) (by kernel_rfl) (⟨_, Try.underlying23, rfl, flds_all ⟨⟨_, rfl, rfl, rfl, by decide, by decide⟩, ⟨_, rfl, rfl, rfl, by decide, by decide⟩, ⟨_, rfl, rfl, rfl, by decide, by decide⟩, ⟨_, rfl, rfl, rfl, by decide, by decide⟩, ⟨_, rfl, rfl, rfl, by decide, by decide⟩, ⟨_, rfl, rfl, rfl, by decide, by decide⟩, ⟨_, rfl, rfl, rfl, by decide, by decide⟩, ⟨_, rfl, rfl, rfl, by decide, by decide⟩, trivial⟩⟩) (by kernel_rfl)
  have t24 : TyM Try.prog E 24 (.named 1) := tym_of (i := Try.t24) (by kernel_rfl) (by kernel_rfl) (by decide) (by kernel_rfl) (⟨_, Try.underlying24, rfl, flds_all ⟨⟨_, rfl, rfl, rfl, by decide, by decide⟩, ⟨_, rfl, rfl, rfl, by decide, by decide⟩, ⟨_, rfl, rfl, rfl, by decide, by decide⟩, ⟨_, rfl, rfl, rfl, by decide, by decide⟩, ⟨_, rfl, rfl, rfl, by decide, by decide⟩, ⟨_, rfl, rfl, rfl, by decide, by decide⟩, ⟨_, rfl, rfl, rfl, by decide, by decide⟩, ⟨_, rfl, rfl, rfl, by decide, by decide⟩, trivial⟩⟩) (by kernel_rfl)
  have t25 : TyM Try.prog E 25 (.int .i64) := tym_of (i := Try.t25) (by kernel_rfl) (by kernel_rfl) (by decide) (by kernel_rfl) (Try.underlying25) (by kernel_rfl)
  have t26 : TyM Try.prog E 26 (.named 2) := tym_of (i := Try.t26) (by kernel_rfl) (by kernel_rfl) (by decide) (by kernel_rfl) (⟨_, Try.underlying26, rfl, flds_all ⟨⟨_, rfl, rfl, rfl, by decide, by decide⟩, ⟨_, rfl, rfl, rfl, by decide, by decide⟩, ⟨_, rfl, rfl, rfl, by decide, by decide⟩, ⟨_, rfl, rfl, rfl, by decide, by decide⟩, ⟨_, rfl, rfl, rfl, by decide, by decide⟩, ⟨_, rfl, rfl, rfl, by decide, by decide⟩, ⟨_, rfl, rfl, rfl, by decide, by decide⟩, ⟨_, rfl, rfl, rfl, by decide, by decide⟩, ⟨_, rfl, rfl, rfl, by decide, by decide⟩, trivial⟩⟩) (by kernel_rfl)
  have t27 : TyM Try.prog E 27 (.named 2) := tym_of (i := Try.t27) (by kernel_rfl) (by kernel_rfl) (by decide) (by kernel_rfl) (⟨_, Try.underlying27, rfl, flds_all ⟨⟨_, rfl, rfl, rfl, by decide, by decide⟩, ⟨_, rfl, rfl, rfl, by decide, by decide⟩, ⟨_, rfl, rfl, rfl, by decide, by decide⟩, ⟨_, rfl, rfl, rfl, by decide, by decide⟩, ⟨_, rfl, rfl, rfl, by decide, by decide⟩, ⟨_, rfl, rfl, rfl, by decide, by decide⟩, ⟨_, rfl, rfl, rfl, by decide, by decide⟩, ⟨_, rfl, rfl, rfl, by decide, by decide⟩, ⟨_, rfl, rfl, rfl, by decide, by decide⟩, trivial⟩⟩) (by kernel_rfl)
  have t28 : TyM Try.prog E 28 (.slice (.int .u8)) := tym_of (i := Try.t28) (by kernel_rfl) (by kernel_rfl) (by decide) (by kernel_rfl) (⟨_, Try.underlying28, rfl⟩) (by kernel_rfl)
  have t34 : TyM Try.prog E 34 (.slice (.named 1)) := tym_of (i := Try.t34) (by kernel_rfl) (by kernel_rfl) (by decide) (by kernel_rfl) (⟨_, Try.underlying34, rfl⟩) (by kernel_rfl)
  have t36 : TyM Try.prog E 36 (.slice (.named 2)) := tym_of (i := Try.t36) (by kernel_rfl) (by kernel_rfl) (by decide) (by kernel_rfl) (⟨_, Try.underlying36, rfl⟩) (by kernel_rfl)
  have t46 : TyM Try.prog E 46 (.int .u16) := tym_of (i := Try.t46) (by kernel_rfl) (by kernel_rfl) (by decide) (by kernel_rfl) (Try.underlying46) (by kernel_rfl)
  have t48 : TyM Try.prog E 48 (.named 0) := tym_of (i := Try.t48) (by kernel_rfl) (by kernel_rfl) (by decide) (by kernel_rfl) (⟨_, Try.underlying48, rfl, flds_all ⟨⟨_, rfl, rfl, rfl, by decide, by decide⟩, ⟨_, rfl, rfl, rfl, by decide, by decide⟩, trivial⟩⟩) (by kernel_rfl)
  have t49 : TyM Try.prog E 49 (.named 0) := tym_of (i := Try.t49) (by kernel_rfl) (by kernel_rfl) (by decide) (by kernel_rfl) (⟨_, Try.underlying49, rfl, flds_all ⟨⟨_, rfl, rfl, rfl, by decide, by decide⟩, ⟨_, rfl, rfl, rfl, by decide, by decide⟩, trivial⟩⟩) (by kernel_rfl)
  have t51 : TyM Try.prog E 51 (.named 3) := tym_of (i := Try.t51) (by kernel_rfl) (by kernel_rfl) (by decide) (by kernel_rfl) (⟨_, Try.underlying51, rfl, flds_all ⟨⟨_, rfl, rfl, rfl, by decide, by decide⟩, ⟨_, rfl, rfl, rfl, by decide, by decide⟩, trivial⟩⟩) (by kernel_rfl)
  have t52 : TyM Try.prog E 52 (.named 3) := tym_of (i := Try.t52) (by kernel_rfl) (by kernel_rfl) (by decide) (by kernel_rfl) (⟨_, Try.underlying52, rfl, flds_all ⟨⟨_, rfl, rfl, rfl, by decide, by decide⟩, ⟨_, rfl, rfl, rfl, by decide, by decide⟩, trivial⟩⟩) (by kernel_rfl)
  have t54 : TyM Try.prog E 54 (.slice .str) := tym_of (i := Try.t54) (by kernel_rfl) (by kernel_rfl) (by decide) (by kernel_rfl) (⟨_, Try.underlying54, rfl⟩) (by kernel_rfl)
  have t70 : TyM Try.prog E 70 (.named 4) := tym_of (i := Try.t70) (by kernel_rfl) (by kernel_rfl) (by decide) (by kernel_rfl) (⟨_, Try.underlying70, rfl, flds_all ⟨⟨_, rfl, rfl, rfl, by decide, by decide⟩, ⟨_, rfl, rfl, rfl, by decide, by decide⟩, trivial⟩⟩) (by kernel_rfl)
  have t71 : TyM Try.prog E 71 (.named 4) := tym_of (i := Try.t71) (by kernel_rfl) (by kernel_rfl) (by decide) (by kernel_rfl) (⟨_, Try.underlying71, rfl, flds_all ⟨⟨_, rfl, rfl, rfl, by decide, by decide⟩, ⟨_, rfl, rfl, rfl, by decide, by decide⟩, trivial⟩⟩) (by kernel_rfl)
  have t77 : TyM Try.prog E 77 (.named 5) := tym_of (i := Try.t77) (by kernel_rfl) (by kernel_rfl) (by decide) (by kernel_rfl) (⟨_, Try.underlying77, rfl, flds_all trivial⟩) (by kernel_rfl)
  have t78 : TyM Try.prog E 78 (.named 5) := tym_of (i := Try.t78) (by kernel_rfl) (by kernel_rfl) (by decide) (by kernel_rfl) (⟨_, Try.underlying78, rfl, flds_all trivial⟩) (by kernel_rfl)
  have t80 : TyM Try.prog E 80 (.named 6) := tym_of (i := Try.t80) (by kernel_rfl) (by kernel_rfl) (by decide) (by kernel_rfl) (⟨_, Try.underlying80, rfl, flds_all ⟨⟨_, rfl, rfl, rfl, by decide, by decide⟩, trivial⟩⟩) (by kernel_rfl)
  have t81 : TyM Try.prog E 81 (.named 6) := tym_of (i := Try.t81) (by kernel_rfl) (by kernel_rfl) (by decide) (by kernel_rfl) (⟨_, Try.underlying81, rfl, flds_all ⟨⟨_, rfl, rfl, rfl, by decide, by decide⟩, trivial⟩⟩) (by kernel_rfl)
  have t87 : TyM Try.prog E 87 (.int .u64) := tym_of (i := Try.t87) (by kernel_rfl) (by kernel_rfl) (by decide) (by kernel_rfl) (Try.underlying87) (by kernel_rfl)
  have t91 : TyM Try.prog E 91 (.named 5) := tym_of (i := Try.t91) (by kernel_rfl) (by kernel_rfl) (by decide) (by kernel_rfl) (⟨_, Try.underlying91, rfl, flds_all trivial⟩) (by kernel_rfl)
  have t99 : TyM Try.prog E 99 (.int .u32) := tym_of (i := Try.t99) (by kernel_rfl) (by kernel_rfl) (by decide) (by kernel_rfl) (Try.underlying99) (by kernel_rfl)
  exact ⟨trivial, ⟨⟨_, _, _, Try.underlying1⟩, Try.t1, by kernel_rfl, by kernel_rfl, by kernel_rfl⟩, t2, t3, t4, t5, trivial, trivial, trivial, t9, trivial, trivial, t12, trivial, trivial, trivial, trivial, trivial, trivial, trivial, ⟨⟨_, Try.underlying20⟩, Try.t20, by kernel_rfl, by kernel_rfl, by kernel_rfl⟩, t21, t22, t23, t24, t25, t26, t27, t28, ⟨⟨_, _, _, Try.underlying29⟩, Try.t29, by kernel_rfl, by kernel_rfl, by kernel_rfl⟩, ⟨⟨_, _, _, Try.underlying30⟩, Try.t30, by kernel_rfl, by kernel_rfl, by kernel_rfl⟩, ⟨⟨_, Try.underlying31⟩, Try.t31, by kernel_rfl, by kernel_rfl, by kernel_rfl⟩, ⟨⟨_, _, _, Try.underlying32⟩, Try.t32, by kernel_rfl, by kernel_rfl, by kernel_rfl⟩, ⟨⟨_, _, _, Try.underlying33⟩, Try.t33, by kernel_rfl, by kernel_rfl, by kernel_rfl⟩, t34, ⟨⟨_, _, _, Try.underlying35⟩, Try.t35, by kernel_rfl, by kernel_rfl, by kernel_rfl⟩, t36, ⟨⟨_, _, _, Try.underlying37⟩, Try.t37, by kernel_rfl, by kernel_rfl, by kernel_rfl⟩, ⟨⟨_, _, _, Try.underlying38⟩, Try.t38, by kernel_rfl, by kernel_rfl, by kernel_rfl⟩, ⟨⟨_, _, _, Try.underlying39⟩, Try.t39, by kernel_rfl, by kernel_rfl, by kernel_rfl⟩, ⟨⟨_, _, _, Try.underlying40⟩, Try.t40, by kernel_rfl, by kernel_rfl, by kernel_rfl⟩, trivial, ⟨⟨_, _, _, Try.underlying42⟩, Try.t42, by kernel_rfl, by kernel_rfl, by kernel_rfl⟩, trivial, ⟨⟨_, _, _, Try.underlying44⟩, Try.t44, by kernel_rfl, by kernel_rfl, by kernel_rfl⟩, ⟨⟨_, _, _, Try.underlying45⟩, Try.t45, by kernel_rfl, by kernel_rfl, by kernel_rfl⟩, t46, ⟨⟨_, _, _, Try.underlying47⟩, Try.t47, by kernel_rfl, by kernel_rfl, by kernel_rfl⟩, t48, t49, ⟨⟨_, _, _, Try.underlying50⟩, Try.t50, by kernel_rfl, by kernel_rfl, by kernel_rfl⟩, t51, t52, ⟨⟨_, _, _, Try.underlying53⟩, Try.t53, by kernel_rfl, by kernel_rfl, by kernel_rfl⟩, t54, ⟨⟨_, _, _, Try.underlying55⟩, Try.t55, by kernel_rfl, by kernel_rfl, by kernel_rfl⟩, ⟨⟨_, _, _, Try.underlying56⟩, Try.t56, by kernel_rfl, by kernel_rfl, by kernel_rfl⟩, ⟨⟨_, _, _, Try.underlying57⟩, Try.t57, by kernel_rfl, by kernel_rfl, by kernel_rfl⟩, ⟨⟨_, _, _, Try.underlying58⟩, Try.t58, by kernel_rfl, by kernel_rfl, by kernel_rfl⟩, ⟨⟨_, _, _, Try.underlying59⟩, Try.t59, by kernel_rfl, by kernel_rfl, by kernel_rfl⟩, ⟨⟨_, _, _, Try.underlying60⟩, Try.t60, by kernel_rfl, by kernel_rfl, by kernel_rfl⟩, ⟨⟨_, _, _, Try.underlying61⟩, Try.t61, by kernel_rfl, by kernel_rfl, by kernel_rfl⟩, ⟨⟨_, _, _, Try.underlying62⟩, Try.t62, by kernel_rfl, by kernel_rfl, by kernel_rfl⟩, ⟨⟨_, _, _, Try.underlying63⟩, Try.t63, by kernel_rfl, by kernel_rfl, by kernel_rfl⟩, ⟨⟨_, _, _, Try.underlying64⟩, Try.t64, by kernel_rfl, by kernel_rfl, by kernel_rfl⟩, ⟨⟨_, _, _, Try.underlying65⟩, Try.t65, by kernel_rfl, by kernel_rfl, by kernel_rfl⟩, ⟨⟨_, _, _, Try.underlying66⟩, Try.t66, by kernel_rfl, by kernel_rfl, by kernel_rfl⟩, ⟨⟨_, _, _, Try.underlying67⟩, Try.t67, by kernel_rfl, by kernel_rfl, by kernel_rfl⟩, ⟨⟨_, Try.underlying68⟩, Try.t68, by kernel_rfl, by kernel_rfl, by kernel_rfl⟩, ⟨⟨_, Try.underlying69⟩, Try.t69, by kernel_rfl, by kernel_rfl, by kernel_rfl⟩, t70, t71, ⟨⟨_, _, _, Try.underlying72⟩, Try.t72, by kernel_rfl, by kernel_rfl, by kernel_rfl⟩, ⟨⟨_, _, _, Try.underlying73⟩, Try.t73, by kernel_rfl, by kernel_rfl, by kernel_rfl⟩, ⟨⟨_, _, _, Try.underlying74⟩, Try.t74, by kernel_rfl, by kernel_rfl, by kernel_rfl⟩, ⟨⟨_, _, _, Try.underlying75⟩, Try.t75, by kernel_rfl, by kernel_rfl, by kernel_rfl⟩, ⟨⟨_, _, _, Try.underlying76⟩, Try.t76, by kernel_rfl, by kernel_rfl, by kernel_rfl⟩, t77, t78, trivial, t80, t81, trivial, ⟨⟨_, _, _, Try.underlying83⟩, Try.t83, by kernel_rfl, by kernel_rfl, by kernel_rfl⟩, trivial, ⟨⟨_, _, _, Try.underlying85⟩, Try.t85, by kernel_rfl, by kernel_rfl, by kernel_rfl⟩, ⟨⟨_, _, _, Try.underlying86⟩, Try.t86, by kernel_rfl, by kernel_rfl, by kernel_rfl⟩, t87, ⟨⟨_, _, _, Try.underlying88⟩, Try.t88, by kernel_rfl, by kernel_rfl, by kernel_rfl⟩, ⟨⟨_, Try.underlying89⟩, Try.t89, by kernel_rfl, by kernel_rfl, by kernel_rfl⟩, ⟨⟨_, _, _, Try.underlying90⟩, Try.t90, by kernel_rfl, by kernel_rfl, by kernel_rfl⟩, t91, trivial, trivial, trivial, trivial, trivial, trivial, ⟨⟨_, _, _, Try.underlying98⟩, Try.t98, by kernel_rfl, by kernel_rfl, by kernel_rfl⟩, t99, trivial, trivial, trivial, ⟨⟨_, Try.underlying103⟩, Try.t103, by kernel_rfl, by kernel_rfl, by kernel_rfl⟩, trivial, trivial, trivial, trivial, trivial, trivial⟩
theorem mix : Try.prog.follows .mixedOrders = true := by kernel_rfl
end Go.Proofs.Ytphcaobgkegbaaa.M

set_option linter.unusedVariables false
set_option maxRecDepth 100000
namespace Go.Proofs.Ytphcaobgkegbaaa.M
open Go Go.Proofs.Ytphcaobgkegbaaa.D Go.ChangeShapes Go.RowKit
open Go.Proofs.Ytphcaobgkegbaaa

theorem one_le {H : Type} (d : DataW H) : 1 ≤ Rows.uptoBulk d := by
  cases d with
  | lit l => cases l <;> simp [Rows.uptoBulk]
  | nil => simp [Rows.uptoBulk]
  | ptr d => simp [Rows.uptoBulk]
  | slice elems spare => simp [Rows.uptoBulk]
  | agg parts => simp [Rows.uptoBulk]
  | iface t d => simp [Rows.uptoBulk]
  | map entries => simp [Rows.uptoBulk]
  | held h => simp [Rows.uptoBulk]

theorem part_le {H : Type} {d : DataW H} {l : List (DataW H)} (h : d ∈ l) : Rows.uptoBulk d ≤ Rows.uptoBulkAll l := by
  induction l with
  | nil => cases h
  | cons x r ih =>
    simp only [Rows.uptoBulkAll]
    cases List.mem_cons.1 h with
    | inl e => subst e; omega
    | inr e => have := ih e; omega

theorem length_le {H : Type} (l : List (DataW H)) : l.length ≤ Rows.uptoBulkAll l := by
  induction l with
  | nil => simp [Rows.uptoBulkAll]
  | cons x r ih => have := one_le x; simp only [Rows.uptoBulkAll, List.length_cons]; omega

theorem meas {H : Type} : Meas (Rows.uptoBulk (H := H)) where
  str := fun b => by simp [Rows.uptoBulk]
  len := fun l r => by have := length_le l; simp only [Rows.uptoBulk]; omega
  el := fun l r d h => by have := part_le h; simp only [Rows.uptoBulk]; omega
  part := fun l d h => by have := part_le h; simp only [Rows.uptoBulk]; omega

theorem own : ownKnob Try.prog.godebug = none := by kernel_rfl
theorem laid : laidOutB Try.prog = true := by kernel_rfl
theorem full : ∀ t e, t < Try.prog.types.size → Try.prog.underlying t = some (.slice e) → 0 < Try.prog.cellsOf e := fun t e => slices_full_of Try.prog (by kernel_rfl) t e
theorem tl : ∀ t, E.tk t ≠ .other → t < Try.prog.types.size := tbl_lt (tbl := tbl) (fun _ => rfl) (of_decide_eq_true (by kernel_rfl))
theorem bl : 1048576 ≤ lim := of_decide_eq_true (by kernel_rfl)

theorem small {H : Type} {ds : List (DataW H)} (hk : Rows.uptoSmall H (ds ++ []) = true) : ∀ d ∈ ds, Rows.uptoBulk d ≤ 1048576 := by
  rw [List.append_nil] at hk
  have h : Rows.uptoBulkAll ds ≤ 1048576 := of_decide_eq_true hk
  exact fun d hd => Nat.le_trans (part_le hd) h
end Go.Proofs.Ytphcaobgkegbaaa.M

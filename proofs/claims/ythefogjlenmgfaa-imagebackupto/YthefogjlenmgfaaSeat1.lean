/- A seat's types. The rows' measure. The library's functions at this seat. -/
import Derived.Test.YthefogjlenmgfaaChecked
import Derived.Test.YthefogjlenmgfaaBase5
import Derived.Test.YthefogjlenmgfaaBase6
import Derived.KernelRfl
import Derived.Test.YthefogjlenmgfaaRows
import Derived.WalkKit
import Derived.ProofKit
import Derived.OpenShut
import Derived.JoinedCond
import Derived.Shelf.Strings.OnBuilder
import Derived.RangeFuncNested
import Derived.RangeFuncBound
import Derived.RangeFuncCalls
import Derived.Shelf.Abstract
import Derived.Shelf.RegionOpen
import Derived.OwnWalkIn
import Derived.TacticsInMore
import Derived.LoopNIn
import Derived.LoopIn
import Derived.Maps.AppendAt
set_option linter.unusedVariables false
set_option maxRecDepth 100000
namespace Go.Proofs.Ythefogjlenmgfaa.I
open Go Go.Proofs.Ythefogjlenmgfaa.D

def tbl : List TK := [.other, .func, .data (.int .i64), .data (.int .i64), .data .bool, .data (.int .u8), .other, .other, .other, .data .str, .other, .other, .data (.int .u64), .other, .other, .other, .other, .other, .other, .other, .iface, .data (.int .i32), .data (.slice (.int .u8)), .data (.slice .str), .func, .data (.slice (.named 0)), .data (.slice (.named 1)), .data (.named 2), .data (.named 2), .ptr, .func, .func, .func, .func, .data (.slice (.slice .str)), .other, .func, .func, .func, .data (.slice (.named 3)), .func, .func, .data (.named 3), .data (.named 3), .func, .func, .data (.int .i64), .data (.named 1), .data (.named 1), .other, .func, .func, .data (.named 4), .data (.named 4), .data (.slice (.named 4)), .func, .data (.named 5), .data (.named 5), .func, .func, .func, .func, .func, .func, .func, .data (.named 0), .data (.named 0), .func, .func, .func, .func, .func, .data (.named 6), .data (.named 6), .other, .ptr, .func, .data (.named 7), .data (.named 7), .func, .other, .func, .ptr, .ptr, .func, .func, .func, .func, .func, .func, .func, .func, .func, .func, .func, .func, .func, .func, .func, .ptr, .other, .other, .func, .iface, .iface, .other, .func, .func, .func, .func, .func, .func, .ptr, .other, .func, .other, .other, .func, .func, .ptr, .func, .data (.int .u64), .data (.named 6), .other, .other, .other, .other, .other, .other, .data (.int .u32), .other, .other, .other, .other, .other, .other, .other]

def T : Nat → Type
  | 0 => N.TFile
  | 1 => N.TMark
  | 2 => N.TState
  | 3 => N.TPut
  | 4 => N.TWrite
  | 5 => N.Ttenancymade_Picks
  | 6 => N.TNil0
  | 7 => N.Timage_reader
  | _ + 8 => Unit
def fields : Nat → List Ty
  | 0 => [.str, (.int .i64), .str]
  | 1 => [(.int .i64), (.int .i64), (.int .i64), (.int .i64)]
  | 2 => [(.slice (.named 0)), (.slice (.named 1)), (.int .i64)]
  | 3 => [(.int .i64), .str]
  | 4 => [(.int .i64), .str]
  | 5 => [(.slice (.int .u8)), (.int .i64)]
  | 6 => []
  | 7 => [(.slice (.int .u8))]
  | _ + 8 => []
def out : (i : Nat) → T i → HL T (fields i)
  | 0, x => (x.Name, x.Ver, x.Body, ())
  | 1, x => (x.Seq, x.Err, x.File, x.Ver, ())
  | 2, x => (x.Files, x.Marks, x.Epoch, ())
  | 3, x => (x.At, x.B, ())
  | 4, x => (x.Off, x.B, ())
  | 5, x => (x.l, x.n, ())
  | 6, _ => ()
  | 7, x => (x.b, ())
  | _ + 8, _ => ()
def into : (i : Nat) → HL T (fields i) → T i
  | 0, x => ⟨x.1, x.2.1, x.2.2.1⟩
  | 1, x => ⟨x.1, x.2.1, x.2.2.1, x.2.2.2.1⟩
  | 2, x => ⟨x.1, x.2.1, x.2.2.1⟩
  | 3, x => ⟨x.1, x.2.1⟩
  | 4, x => ⟨x.1, x.2.1⟩
  | 5, x => ⟨x.1, x.2.1⟩
  | 6, _ => ⟨⟩
  | 7, x => ⟨x.1⟩
  | _ + 8, _ => ()
def eqb : (i : Nat) → T i → T i → Bool
  | 0, x, y => N.TFile.eqb x y
  | 1, x, y => N.TMark.eqb x y
  | 2, x, y => N.TState.eqb x y
  | 3, x, y => N.TPut.eqb x y
  | 4, x, y => N.TWrite.eqb x y
  | 5, x, y => N.Ttenancymade_Picks.eqb x y
  | 6, x, y => N.TNil0.eqb x y
  | 7, x, y => N.Timage_reader.eqb x y
  | _ + 8, _, _ => true
def nsize : Nat → Nat
  | 0 => 3
  | 1 => 4
  | 2 => 3
  | 3 => 2
  | 4 => 2
  | 5 => 2
  | 6 => 0
  | 7 => 1
  | _ + 8 => 0
def cmpT : List Nat := [2, 3, 4, 5, 9, 12, 21, 42, 43, 46, 47, 48, 52, 53, 65, 66, 72, 73, 121, 122, 129]

def E : Env where
  T := T
  fields := fields
  out := out
  into := into
  eqb := eqb
  nsize := nsize
  tk := fun t => nth tbl t .other
  cmp := fun t => memB cmpT t

theorem into_out : ∀ i x, E.into i (E.out i x) = x
  | 0, _ => rfl
  | 1, _ => rfl
  | 2, _ => rfl
  | 3, _ => rfl
  | 4, _ => rfl
  | 5, _ => rfl
  | 6, _ => rfl
  | 7, _ => rfl
  | _ + 8, _ => rfl
theorem out_into : ∀ i r, E.out i (E.into i r) = r
  | 0, _ => rfl
  | 1, _ => rfl
  | 2, _ => rfl
  | 3, _ => rfl
  | 4, _ => rfl
  | 5, _ => rfl
  | 6, _ => rfl
  | 7, _ => rfl
  | _ + 8, () => rfl
theorem nsize_ok : ∀ i, E.nsize i = ((E.fields i).map E.size).sum
  | 0 => rfl
  | 1 => rfl
  | 2 => rfl
  | 3 => rfl
  | 4 => rfl
  | 5 => rfl
  | 6 => rfl
  | 7 => rfl
  | _ + 8 => rfl
theorem eqb_ok : ∀ i x y, E.eqb i x y = eqHL E (E.fields i) (E.out i x) (E.out i y)
  | 0, _, _ => rfl
  | 1, _, _ => rfl
  | 2, _, _ => rfl
  | 3, _, _ => rfl
  | 4, _, _ => rfl
  | 5, _, _ => rfl
  | 6, _, _ => rfl
  | 7, _, _ => rfl
  | _ + 8, _, _ => rfl
theorem ok : EnvOk E := ⟨into_out, out_into, nsize_ok⟩

theorem cmp_ok : ∀ t, E.cmp t = true → Try.prog.eqGuardType Try.prog.depth t = false ∧ Try.prog.stoodInHeld t = false ∧ (∀ fs, Try.prog.underlying t = some (.struct fs) → ∀ f ∈ fs.toList, E.cmp f.type = true) ∧ ∀ n e, Try.prog.underlying t = some (.array n e) → E.cmp e = true :=
  cmp_of Try.prog cmpT (by kernel_rfl)

theorem sound : Sound Try.prog E := by
  refine sound_of ok eqb_ok cmp_ok tbl (fun _ => rfl) ?_
  have t2 : TyM Try.prog E 2 (.int .i64) := tym_of (i := Try.t2) (by kernel_rfl) (by kernel_rfl) (by decide) (by kernel_rfl) (Try.underlying2) (by kernel_rfl)
  have t3 : TyM Try.prog E 3 (.int .i64) := tym_of (i := Try.t3) (by kernel_rfl) (by kernel_rfl) (by decide) (by kernel_rfl) (Try.underlying3) (by kernel_rfl)
  have t4 : TyM Try.prog E 4 .bool := tym_of (i := Try.t4) (by kernel_rfl) (by kernel_rfl) (by decide) (by kernel_rfl) (Try.underlying4) (by kernel_rfl)
  have t5 : TyM Try.prog E 5 (.int .u8) := tym_of (i := Try.t5) (by kernel_rfl) (by kernel_rfl) (by decide) (by kernel_rfl) (Try.underlying5) (by kernel_rfl)
  have t9 : TyM Try.prog E 9 .str := tym_of (i := Try.t9) (by kernel_rfl) (by kernel_rfl) (by decide) (by kernel_rfl) (Try.underlying9) (by kernel_rfl)
  have t12 : TyM Try.prog E 12 (.int .u64) := tym_of (i := Try.t12) (by kernel_rfl) (by kernel_rfl) (by decide) (by kernel_rfl) (Try.underlying12) (by kernel_rfl)
  have t21 : TyM Try.prog E 21 (.int .i32) := tym_of (i := Try.t21) (by kernel_rfl) (by kernel_rfl) (by decide) (by kernel_rfl) (Try.underlying21) (by kernel_rfl)
  have t22 : TyM Try.prog E 22 (.slice (.int .u8)) := tym_of (i := Try.t22) (by kernel_rfl) (by kernel_rfl) (by decide) (by kernel_rfl) (⟨_, Try.underlying22, rfl⟩) (by kernel_rfl)
  have t23 : TyM Try.prog E 23 (.slice .str) := tym_of (i := Try.t23) (by kernel_rfl) (by kernel_rfl) (by decide) (by kernel_rfl) (⟨_, Try.underlying23, rfl⟩) (by kernel_rfl)
  have t25 : TyM Try.prog E 25 (.slice (.named 0)) := tym_of (i := Try.t25) (by kernel_rfl) (by kernel_rfl) (by decide) (by kernel_rfl) (⟨_, Try.underlying25, rfl⟩) (by kernel_rfl)
  have t26 : TyM Try.prog E 26 (.slice (.named 1)) := tym_of (i := Try.t26) (by kernel_rfl) (by kernel_rfl) (by decide) (by kernel_rfl) (⟨_, Try.underlying26, rfl⟩) (by kernel_rfl)
  have t27 : TyM Try.prog E 27 (.named 2) := tym_of (i := Try.t27) (by kernel_rfl) (by kernel_rfl) (by decide) (by kernel_rfl) (⟨_, Try.underlying27, rfl, flds_all ⟨⟨_, rfl, rfl, rfl, by decide, by decide⟩, ⟨_, rfl, rfl, rfl, by decide, by decide⟩, ⟨_, rfl, rfl, rfl, by decide, by decide⟩, trivial⟩⟩) (by kernel_rfl)
  have t28 : TyM Try.prog E 28 (.named 2) := tym_of (i := Try.t28) (by kernel_rfl) (by kernel_rfl) (by decide) (by kernel_rfl) (⟨_, Try.underlying28, rfl, flds_all ⟨⟨_, rfl, rfl, rfl, by decide, by decide⟩, ⟨_, rfl, rfl, rfl, by decide, by decide⟩, ⟨_, rfl, rfl, rfl, by decide, by decide⟩, trivial⟩⟩) (by kernel_rfl)
  have t34 : TyM Try.prog E 34 (.slice (.slice .str)) := tym_of (i := Try.t34) (by kernel_rfl) (by kernel_rfl) (by decide) (by kernel_rfl) (⟨_, Try.underlying34, rfl⟩) (by kernel_rfl)
  have t39 : TyM Try.prog E 39 (.slice (.named 3)) := tym_of (i := Try.t39) (by kernel_rfl) (by kernel_rfl) (by decide) (by kernel_rfl) (⟨_, Try.underlying39, rfl⟩) (by kernel_rfl)
  have t42 : TyM Try.prog E 42 (.named 3) := tym_of (i := Try.t42) (by kernel_rfl) (by kernel_rfl) (by decide) (by kernel_rfl) (⟨_, Try.underlying42, rfl, flds_all ⟨⟨_, rfl, rfl, rfl, by decide, by decide⟩, ⟨_, rfl, rfl, rfl, by decide, by decide⟩, trivial⟩⟩) (by kernel_rfl)
  have t43 : TyM Try.prog E 43 (.named 3) := tym_of (i := Try.t43) (by kernel_rfl) (by kernel_rfl) (by decide) (by kernel_rfl) (⟨_, Try.underlying43, rfl, flds_all ⟨⟨_, rfl, rfl, rfl, by decide, by decide⟩, ⟨_, rfl, rfl, rfl, by decide, by decide⟩, trivial⟩⟩) (by kernel_rfl)
  have t46 : TyM Try.prog E 46 (.int .i64) := tym_of (i := Try.t46) (by kernel_rfl) (by kernel_rfl) (by decide) (by kernel_rfl) (Try.underlying46) (by kernel_rfl)
  have t47 : TyM Try.prog E 47 (.named 1) := tym_of (i := Try.t47) (by kernel_rfl) (by kernel_rfl) (by decide) (by kernel_rfl) (⟨_, Try.underlying47, rfl, flds_all ⟨⟨_, rfl, rfl, rfl, by decide, by decide⟩, ⟨_, rfl, rfl, rfl, by decide, by decide⟩, ⟨_, rfl, rfl, rfl, by decide, by decide⟩, ⟨_, rfl, rfl, rfl, by decide, by decide⟩, trivial⟩⟩) (by kernel_rfl)
  have t48 : TyM Try.prog E 48 (.named 1) := tym_of (i := Try.t48) (by kernel_rfl) (by kernel_rfl) (by decide) (by kernel_rfl) (⟨_, Try.underlying48, rfl, flds_all ⟨⟨_, rfl, rfl, rfl, by decide, by decide⟩, ⟨_, rfl, rfl, rfl, by decide, by decide⟩, ⟨_, rfl, rfl, rfl, by decide, by decide⟩, ⟨_, rfl, rfl, rfl, by decide, by decide⟩, trivial⟩⟩) (by kernel_rfl)
  have t52 : TyM Try.prog E 52 (.named 4) := tym_of (i := Try.t52) (by kernel_rfl) (by kernel_rfl) (by decide) (by kernel_rfl) (⟨_, Try.underlying52, rfl, flds_all ⟨⟨_, rfl, rfl, rfl, by decide, by decide⟩, ⟨_, rfl, rfl, rfl, by decide, by decide⟩, trivial⟩⟩) (by kernel_rfl)
  have t53 : TyM Try.prog E 53 (.named 4) := tym_of (i := Try.t53) (by kernel_rfl) (by kernel_rfl) (by decide) (by kernel_rfl) (⟨_, Try.underlying53, rfl, flds_all ⟨⟨_, rfl, rfl, rfl, by decide, by decide⟩, ⟨_, rfl, rfl, rfl, by decide, by decide⟩, trivial⟩⟩) (by kernel_rfl)
  have t54 : TyM Try.prog E 54 (.slice (.named 4)) := tym_of (i := Try.t54) (by kernel_rfl) (by kernel_rfl) (by decide) (by kernel_rfl) (⟨_, Try.underlying54, rfl⟩) (by kernel_rfl)
  have t56 : TyM Try.prog E 56 (.named 5) := tym_of (i := Try.t56) (by kernel_rfl) (by kernel_rfl) (by decide) (by kernel_rfl) (⟨_, Try.underlying56, rfl, flds_all ⟨⟨_, rfl, rfl, rfl, by decide, by decide⟩, ⟨_, rfl, rfl, rfl, by decide, by decide⟩, trivial⟩⟩) (by kernel_rfl)
  have t57 : TyM Try.prog E 57 (.named 5) := tym_of (i := Try.t57) (by kernel_rfl) (by kernel_rfl) (by decide) (by kernel_rfl) (⟨_, Try.underlying57, rfl, flds_all ⟨⟨_, rfl, rfl, rfl, by decide, by decide⟩, ⟨_, rfl, rfl, rfl, by decide, by decide⟩, trivial⟩⟩) (by kernel_rfl)
  have t65 : TyM Try.prog E 65 (.named 0) := tym_of (i := Try.t65) (by kernel_rfl) (by kernel_rfl) (by decide) (by kernel_rfl) (⟨_, Try.underlying65, rfl, flds_all ⟨⟨_, rfl, rfl, rfl, by decide, by decide⟩, ⟨_, rfl, rfl, rfl, by decide, by decide⟩, ⟨_, rfl, rfl, rfl, by decide, by decide⟩, trivial⟩⟩) (by kernel_rfl)
  have t66 : TyM Try.prog E 66 (.named 0) := tym_of (i := Try.t66) (by kernel_rfl) (by kernel_rfl) (by decide) (by kernel_rfl) (⟨_, Try.underlying66, rfl, flds_all ⟨⟨_, rfl, rfl, rfl, by decide, by decide⟩, ⟨_, rfl, rfl, rfl, by decide, by decide⟩, ⟨_, rfl, rfl, rfl, by decide, by decide⟩, trivial⟩⟩) (by kernel_rfl)
  have t72 : TyM Try.prog E 72 (.named 6) := tym_of (i := Try.t72) (by kernel_rfl) (by kernel_rfl) (by decide) (by kernel_rfl) (⟨_, Try.underlying72, rfl, flds_all trivial⟩) (by kernel_rfl)
  have t73 : TyM Try.prog E 73 (.named 6) := tym_of (i := Try.t73) (by kernel_rfl) (by kernel_rfl) (by decide) (by kernel_rfl) (⟨_, Try.underlying73, rfl, flds_all trivial⟩) (by kernel_rfl)
  have t77 : TyM Try.prog E 77 (.named 7) := tym_of (i := Try.t77) (by kernel_rfl) (by kernel_rfl) (by decide) (by kernel_rfl) (⟨_, Try.underlying77, rfl, flds_all ⟨⟨_, rfl, rfl, rfl, by decide, by decide⟩, trivial⟩⟩) (by kernel_rfl)
  have t78 : TyM Try.prog E 78 (.named 7) := tym_of (i := Try.t78) (by kernel_rfl) (by kernel_rfl) (by decide) (by kernel_rfl) (⟨_, Try.underlying78, rfl, flds_all ⟨⟨_, rfl, rfl, rfl, by decide, by decide⟩, trivial⟩⟩) (by kernel_rfl)
  have t121 : TyM Try.prog E 121 (.int .u64) := tym_of (i := Try.t121) (by kernel_rfl) (by kernel_rfl) (by decide) (by kernel_rfl) (Try.underlying121) (by kernel_rfl)
  have t122 : TyM Try.prog E 122 (.named 6) := tym_of (i := Try.t122) (by kernel_rfl) (by kernel_rfl) (by decide) (by kernel_rfl) (⟨_, Try.underlying122, rfl, flds_all trivial⟩) (by kernel_rfl)
  have t129 : TyM Try.prog E 129 (.int .u32) := tym_of (i := Try.t129) (by kernel_rfl) (by kernel_rfl) (by decide) (by kernel_rfl) (Try.underlying129) (by kernel_rfl)
  exact ⟨trivial, ⟨⟨_, _, _, Try.underlying1⟩, Try.t1, by kernel_rfl, by kernel_rfl, by kernel_rfl⟩, t2, t3, t4, t5, trivial, trivial, trivial, t9, trivial, trivial, t12, trivial, trivial, trivial, trivial, trivial, trivial, trivial, ⟨⟨_, Try.underlying20⟩, Try.t20, by kernel_rfl, by kernel_rfl, by kernel_rfl⟩, t21, t22, t23, ⟨⟨_, _, _, Try.underlying24⟩, Try.t24, by kernel_rfl, by kernel_rfl, by kernel_rfl⟩, t25, t26, t27, t28, ⟨⟨_, Try.underlying29⟩, Try.t29, by kernel_rfl, by kernel_rfl, by kernel_rfl⟩, ⟨⟨_, _, _, Try.underlying30⟩, Try.t30, by kernel_rfl, by kernel_rfl, by kernel_rfl⟩, ⟨⟨_, _, _, Try.underlying31⟩, Try.t31, by kernel_rfl, by kernel_rfl, by kernel_rfl⟩, ⟨⟨_, _, _, Try.underlying32⟩, Try.t32, by kernel_rfl, by kernel_rfl, by kernel_rfl⟩, ⟨⟨_, _, _, Try.underlying33⟩, Try.t33, by kernel_rfl, by kernel_rfl, by kernel_rfl⟩, t34, trivial, ⟨⟨_, _, _, Try.underlying36⟩, Try.t36, by kernel_rfl, by kernel_rfl, by kernel_rfl⟩, ⟨⟨_, _, _, Try.underlying37⟩, Try.t37, by kernel_rfl, by kernel_rfl, by kernel_rfl⟩, ⟨⟨_, _, _, Try.underlying38⟩, Try.t38, by kernel_rfl, by kernel_rfl, by kernel_rfl⟩, t39, ⟨⟨_, _, _, Try.underlying40⟩, Try.t40, by kernel_rfl, by kernel_rfl, by kernel_rfl⟩, ⟨⟨_, _, _, Try.underlying41⟩, Try.t41, by kernel_rfl, by kernel_rfl, by kernel_rfl⟩, t42, t43, ⟨⟨_, _, _, Try.underlying44⟩, Try.t44, by kernel_rfl, by kernel_rfl, by kernel_rfl⟩, ⟨⟨_, _, _, Try.underlying45⟩, Try.t45, by kernel_rfl, by kernel_rfl, by kernel_rfl⟩, t46, t47, t48, trivial, ⟨⟨_, _, _, Try.underlying50⟩, Try.t50, by kernel_rfl, by kernel_rfl, by kernel_rfl⟩, ⟨⟨_, _, _, Try.underlying51⟩, Try.t51, by kernel_rfl, by kernel_rfl, by kernel_rfl⟩, t52, t53, t54, ⟨⟨_, _, _, Try.underlying55⟩, Try.t55, by kernel_rfl, by kernel_rfl, by kernel_rfl⟩, t56, t57, ⟨⟨_, _, _, Try.underlying58⟩, Try.t58, by kernel_rfl, by kernel_rfl, by kernel_rfl⟩, ⟨⟨_, _, _, Try.underlying59⟩, Try.t59, by kernel_rfl, by kernel_rfl, by kernel_rfl⟩, ⟨⟨_, _, _, Try.underlying60⟩, Try.t60, by kernel_rfl, by kernel_rfl, by kernel_rfl⟩, ⟨⟨_, _, _, Try.underlying61⟩, Try.t61, by kernel_rfl, by kernel_rfl, by kernel_rfl⟩, ⟨⟨_, _, _, Try.underlying62⟩, Try.t62, by kernel_rfl, by kernel_rfl, by kernel_rfl⟩, ⟨⟨_, _, _, Try.underlying63⟩, Try.t63, by kernel_rfl, by kernel_rfl, by kernel_rfl⟩, ⟨⟨_, _, _, Try.underlying64⟩, Try.t64, by kernel_rfl, by kernel_rfl, by kernel_rfl⟩, t65, t66, ⟨⟨_, _, _, Try.underlying67⟩, Try.t67, by kernel_rfl, by kernel_rfl, by kernel_rfl⟩, ⟨⟨_, _, _, Try.underlying68⟩, Try.t68, by kernel_rfl, by kernel_rfl, by kernel_rfl⟩, ⟨⟨_, _, _, Try.underlying69⟩, Try.t69, by kernel_rfl, by kernel_rfl, by kernel_rfl⟩, ⟨⟨_, _, _, Try.underlying70⟩, Try.t70, by kernel_rfl, by kernel_rfl, by kernel_rfl⟩, ⟨⟨_, _, _, Try.underlying71⟩, Try.t71, by kernel_rfl, by kernel_rfl, by kernel_rfl⟩, t72, t73, trivial, ⟨⟨_, Try.underlying75⟩, Try.t75, by kernel_rfl, by kernel_rfl, by kernel_rfl⟩, ⟨⟨_, _, _, Try.underlying76⟩, Try.t76, by kernel_rfl, by kernel_rfl, by kernel_rfl⟩, t77, t78, ⟨⟨_, _, _, Try.underlying79⟩, Try.t79, by kernel_rfl, by kernel_rfl, by kernel_rfl⟩, trivial, ⟨⟨_, _, _, Try.underlying81⟩, Try.t81, by kernel_rfl, by kernel_rfl, by kernel_rfl⟩, ⟨⟨_, Try.underlying82⟩, Try.t82, by kernel_rfl, by kernel_rfl, by kernel_rfl⟩, ⟨⟨_, Try.underlying83⟩, Try.t83, by kernel_rfl, by kernel_rfl, by kernel_rfl⟩, ⟨⟨_, _, _, Try.underlying84⟩, Try.t84, by kernel_rfl, by kernel_rfl, by kernel_rfl⟩, ⟨⟨_, _, _, Try.underlying85⟩, Try.t85, by kernel_rfl, by kernel_rfl, by kernel_rfl⟩, ⟨⟨_, _, _, Try.underlying86⟩, Try.t86, by kernel_rfl, by kernel_rfl, by kernel_rfl⟩, ⟨⟨_, _, _, Try.underlying87⟩, Try.t87, by kernel_rfl, by kernel_rfl, by kernel_rfl⟩, ⟨⟨_, _, _, Try.underlying88⟩, Try.t88, by kernel_rfl, by kernel_rfl, by kernel_rfl⟩, ⟨⟨_, _, _, Try.underlying89⟩, Try.t89, by kernel_rfl, by kernel_rfl, by kernel_rfl⟩, ⟨⟨_, _, _, Try.underlying90⟩, Try.t90, by kernel_rfl, by kernel_rfl, by kernel_rfl⟩, ⟨⟨_, _, _, Try.underlying91⟩, Try.t91, by kernel_rfl, by kernel_rfl, by kernel_rfl⟩, ⟨⟨_, _, _, Try.underlying92⟩, Try.t92, by kernel_rfl, by kernel_rfl, by kernel_rfl⟩, ⟨⟨_, _, _, Try.underlying93⟩, Try.t93, by kernel_rfl, by kernel_rfl, by kernel_rfl⟩, ⟨⟨_, _, _, Try.underlying94⟩, Try.t94, by kernel_rfl, by kernel_rfl, by kernel_rfl⟩, ⟨⟨_, _, _, Try.underlying95⟩, Try.t95, by kernel_rfl, by kernel_rfl, by kernel_rfl⟩, ⟨⟨_, _, _, Try.underlying96⟩, Try.t96, by kernel_rfl, by kernel_rfl, by kernel_rfl⟩, ⟨⟨_, _, _, Try.underlying97⟩, Try.t97, by kernel_rfl, by kernel_rfl, by kernel_rfl⟩, ⟨⟨_, _, _, Try.underlying98⟩, Try.t98, by kernel_rfl, by kernel_rfl, by kernel_rfl⟩, ⟨⟨_, Try.underlying99⟩, Try.t99, by kernel_rfl, by kernel_rfl, by kernel_rfl⟩, trivial, trivial, ⟨⟨_, _, _, Try.underlying102⟩, Try.t102, by kernel_rfl, by kernel_rfl, by kernel_rfl⟩, ⟨⟨_, Try.underlying103⟩, Try.t103, by kernel_rfl, by kernel_rfl, by kernel_rfl⟩, ⟨⟨_, Try.underlying104⟩, Try.t104, by kernel_rfl, by kernel_rfl, by kernel_rfl⟩, trivial, ⟨⟨_, _, _, Try.underlying106⟩, Try.t106, by kernel_rfl, by kernel_rfl, by kernel_rfl⟩, ⟨⟨_, _, _, Try.underlying107⟩, Try.t107, by kernel_rfl, by kernel_rfl, by kernel_rfl⟩, ⟨⟨_, _, _, Try.underlying108⟩, Try.t108, by kernel_rfl, by kernel_rfl, by kernel_rfl⟩, ⟨⟨_, _, _, Try.underlying109⟩, Try.t109, by kernel_rfl, by kernel_rfl, by kernel_rfl⟩, ⟨⟨_, _, _, Try.underlying110⟩, Try.t110, by kernel_rfl, by kernel_rfl, by kernel_rfl⟩, ⟨⟨_, _, _, Try.underlying111⟩, Try.t111, by kernel_rfl, by kernel_rfl, by kernel_rfl⟩, ⟨⟨_, Try.underlying112⟩, Try.t112, by kernel_rfl, by kernel_rfl, by kernel_rfl⟩, trivial, ⟨⟨_, _, _, Try.underlying114⟩, Try.t114, by kernel_rfl, by kernel_rfl, by kernel_rfl⟩, trivial, trivial, ⟨⟨_, _, _, Try.underlying117⟩, Try.t117, by kernel_rfl, by kernel_rfl, by kernel_rfl⟩, ⟨⟨_, _, _, Try.underlying118⟩, Try.t118, by kernel_rfl, by kernel_rfl, by kernel_rfl⟩, ⟨⟨_, Try.underlying119⟩, Try.t119, by kernel_rfl, by kernel_rfl, by kernel_rfl⟩, ⟨⟨_, _, _, Try.underlying120⟩, Try.t120, by kernel_rfl, by kernel_rfl, by kernel_rfl⟩, t121, t122, trivial, trivial, trivial, trivial, trivial, trivial, t129, trivial, trivial, trivial, trivial, trivial, trivial, trivial, trivial⟩
theorem mix : Try.prog.follows .mixedOrders = true := by kernel_rfl
end Go.Proofs.Ythefogjlenmgfaa.I

set_option linter.unusedVariables false
set_option maxRecDepth 100000
namespace Go.Proofs.Ythefogjlenmgfaa.I
open Go Go.Proofs.Ythefogjlenmgfaa.D Go.ChangeShapes Go.RowKit
open Go.Proofs.Ythefogjlenmgfaa

theorem one_le {H : Type} (d : DataW H) : 1 ≤ Rows.uptoBulk d := by
  cases d with
  | lit l => cases l <;> simp [Rows.uptoBulk]
  | nil => simp [Rows.uptoBulk]
  | ptr d => simp [Rows.uptoBulk]
  | slice elems spare => simp [Rows.uptoBulk]
  | agg parts => simp [Rows.uptoBulk]
  | iface t d => simp [Rows.uptoBulk]
  | map entries => simp [Rows.uptoBulk]
  | held h => simp [Rows.uptoBulk]

theorem part_le {H : Type} {d : DataW H} {l : List (DataW H)} (h : d ∈ l) : Rows.uptoBulk d ≤ Rows.uptoBulkAll l := by
  induction l with
  | nil => cases h
  | cons x r ih =>
    simp only [Rows.uptoBulkAll]
    cases List.mem_cons.1 h with
    | inl e => subst e; omega
    | inr e => have := ih e; omega

theorem length_le {H : Type} (l : List (DataW H)) : l.length ≤ Rows.uptoBulkAll l := by
  induction l with
  | nil => simp [Rows.uptoBulkAll]
  | cons x r ih => have := one_le x; simp only [Rows.uptoBulkAll, List.length_cons]; omega

theorem meas {H : Type} : Meas (Rows.uptoBulk (H := H)) where
  str := fun b => by simp [Rows.uptoBulk]
  len := fun l r => by have := length_le l; simp only [Rows.uptoBulk]; omega
  el := fun l r d h => by have := part_le h; simp only [Rows.uptoBulk]; omega
  part := fun l d h => by have := part_le h; simp only [Rows.uptoBulk]; omega

theorem own : ownKnob Try.prog.godebug = none := by kernel_rfl
theorem laid : laidOutB Try.prog = true := by kernel_rfl
theorem full : ∀ t e, t < Try.prog.types.size → Try.prog.underlying t = some (.slice e) → 0 < Try.prog.cellsOf e := fun t e => slices_full_of Try.prog (by kernel_rfl) t e
theorem tl : ∀ t, E.tk t ≠ .other → t < Try.prog.types.size := tbl_lt (tbl := tbl) (fun _ => rfl) (of_decide_eq_true (by kernel_rfl))
theorem bl : 1048576 ≤ lim := of_decide_eq_true (by kernel_rfl)

theorem small {H : Type} {ds : List (DataW H)} (hk : Rows.uptoSmall H (ds ++ []) = true) : ∀ d ∈ ds, Rows.uptoBulk d ≤ 1048576 := by
  rw [List.append_nil] at hk
  have h : Rows.uptoBulkAll ds ≤ 1048576 := of_decide_eq_true hk
  exact fun d hd => Nat.le_trans (part_le hd) h
end Go.Proofs.Ythefogjlenmgfaa.I

set_option linter.unusedVariables false
set_option maxRecDepth 100000
namespace Go.Proofs.Ythefogjlenmgfaa.I
open Go Go.RowKit Go.Shelf Go.Proofs Go.Proofs.Ythefogjlenmgfaa.D
open Go.Proofs.Ythefogjlenmgfaa.N (chunkS chunkL)
attribute [local go_sem] Oper.semAt_some
def lays156_ren : Go.Shelf.Ren := ⟨fun | 156 => 36 | 165 => 61 | 166 => 62 | 169 => 63 | 240 => 71 | 241 => 72 | 276 => 75 | 277 => 76 | n => n, fun | 31 => 23 | 9 => 9 | 3 => 3 | 4 => 4 | 0 => 0 | 20 => 20 | 72 => 101 | 76 => 105 | 70 => 99 | 37 => 22 | 75 => 104 | 127 => 112 | 164 => 115 | 5 => 5 | 80 => 59 | n => n, fun | n => n⟩
theorem lays156 : Go.Proofs.Lays.n156 Try.prog lays156_ren := {
  mixed := by kernel_rfl
  f156 := Try.func36.trans (congrArg some (by kernel_rfl))
  f165 := Try.func61.trans (congrArg some (by kernel_rfl))
  f166 := Try.func62.trans (congrArg some (by kernel_rfl))
  f169 := Try.func63.trans (congrArg some (by kernel_rfl))
  f240 := Try.func71.trans (congrArg some (by kernel_rfl))
  f241 := Try.func72.trans (congrArg some (by kernel_rfl))
  f276 := Try.func75.trans (congrArg some (by kernel_rfl))
  f277 := Try.func76.trans (congrArg some (by kernel_rfl))
  t0 := Try.underlying0
  a0 := Try.isAgg0
  z0 := Try.sizeOf0
  v0 := Try.zeroValue0
  t3 := Try.underlying3
  a3 := Try.isAgg3
  z3 := Try.sizeOf3
  v3 := Try.zeroValue3
  t4 := Try.underlying4
  a4 := Try.isAgg4
  z4 := Try.sizeOf4
  v4 := Try.zeroValue4
  t9 := Try.underlying9
  a9 := Try.isAgg9
  z9 := Try.sizeOf9
  v9 := Try.zeroValue9
  t20 := Try.underlying20
  a20 := Try.isAgg20
  z20 := Try.sizeOf20
  v20 := Try.zeroValue20
  t31 := Try.underlying23
  a31 := Try.isAgg23
  z31 := Try.sizeOf23
  v31 := Try.zeroValue23
  t37 := Try.underlying22
  a37 := Try.isAgg22
  z37 := Try.sizeOf22
  v37 := Try.zeroValue22
  t70 := Try.underlying99
  a70 := Try.isAgg99
  z70 := Try.sizeOf99
  v70 := Try.zeroValue99
  t72 := Try.underlying101
  a72 := Try.isAgg101
  z72 := Try.sizeOf101
  v72 := Try.zeroValue101
  t75 := Try.underlying104
  a75 := Try.isAgg104
  z75 := Try.sizeOf104
  v75 := Try.zeroValue104
  t76 := Try.underlying105
  a76 := Try.isAgg105
  z76 := Try.sizeOf105
  v76 := Try.zeroValue105
  t127 := Try.underlying112
  a127 := Try.isAgg112
  z127 := Try.sizeOf112
  v127 := Try.zeroValue112
  t164 := Try.underlying115
  a164 := Try.isAgg115
  z164 := Try.sizeOf115
  v164 := Try.zeroValue115 }
theorem extra156 : Builder.Extra Try.prog lays156_ren := {
  sizeBuilder := by kernel_rfl
  liesBuilder := by kernel_rfl
  t5 := Try.underlying5
  a5 := Try.isAgg5
  z5 := Try.sizeOf5
  v5 := Try.zeroValue5
  infoByte := by kernel_rfl
  cellsByte := by kernel_rfl
  sizeByte := by kernel_rfl
  neB5 := by decide }
noncomputable def P36 : Nat × D.Spec E := (36, .pure [.slice .str, .str] (joinS E))
theorem p36 : SpecOk Try.prog E P36.1 P36.2 := join_ok Try.call36 (fun a c sep w => by
  have h := Any.strings_Join_none lays156 extra156 a c sep w
  have e : lays156_ren.f 156 = 36 := by kernel_rfl
  rw [e] at h
  exact h) (fun bk o c x sep w hc => by
  have h := Any.strings_Join_one lays156 extra156 bk o c x sep w hc
  have e : lays156_ren.f 156 = 36 := by kernel_rfl
  rw [e] at h
  exact h) (fun bk o c xs sep w ha hb hc hd he hf => by
  have h := Any.strings_Join_many lays156 extra156 bk o c xs sep w ha hb hc hd he hf
  have e : lays156_ren.f 156 = 36 := by kernel_rfl
  rw [e] at h
  exact h)
theorem info9_ : (Try.prog.info? 9).map (fun i => (i.zero, i.size, i.bytes)) = some (some (.string ⟨#[]⟩), 1, 16) := by kernel_rfl

set_option maxRecDepth 100000 in
set_option maxHeartbeats 2000000 in
theorem chunk1_in (F : Fence) (n : Nat) (h59 : F.fn 59) (hro : F.round = none) (hn : 1 ≤ n) (l Bs Bn : Nat) (a : Option Addr) (b len cap : Nat) (ks : List Nat) (hk1 : Bs ∈ ks) (hk2 : Bn ∈ ks) (hreach : len ≤ 2147483648) (hcap : len ≤ cap) (ha : 0 < len → a = some ⟨b, 0, none⟩) (J Jx : List Nat → World → Prop) (hD : ∀ pre W, J pre W → J pre W.drew)
    (hY : ∀ pre x W, J pre W → pre.length < (len + 31) / 32 → YieldAt F (n - 1) Try.prog l #[chunkV b len x] W fun e W' =>
      (e = .returned (.bool true) ∧ J (pre ++ [x]) W' ∧ KpS ks W W') ∨ (e = .returned (.bool false) ∧ Jx (pre ++ [x]) W'))
    (W : World) (hBs : W.cell? ⟨Bs, 0, none⟩ = some (.slice a len cap)) (hBn : W.cell? ⟨Bn, 0, none⟩ = some (.int .i64 32)) (h0 : J [] W) :
    CallsIn F n Try.prog 59 #[.func (.yield l) #[] #[], .pointer (some ⟨Bs, 0, none⟩), .pointer (some ⟨Bn, 0, none⟩)] W fun e W' => (∃ v, e = .returned v) ∧
      ((∃ ys, ys = List.range ((len + 31) / 32) ∧ J ys W') ∨ (∃ pre, (∃ k, k ≤ (len + 31) / 32 ∧ pre = List.range k) ∧ Jx pre W')) := by
  have mixed : Try.prog.follows .mixedOrders = true := by kernel_rfl
  refine callsIn_of_wp Try.func59 rfl h59 ?_ hro
  simp only [Try.ntmps59, List.size_toArray, List.length_cons, List.length_nil, Nat.reduceAdd, Nat.reduceSub, Array.replicate_succ, Array.replicate_zero, List.push_toArray, List.append_toArray, List.nil_append, List.cons_append]
  gi_wp2
  gi_loopw [4] (fun i wr => ∃ k : Nat, k ≤ (len + 31) / 32 ∧ i = .int .i64 ((32 * k : Nat) : Int) ∧ J (List.range k) wr ∧ KpS ks W wr)
    (fun i _ => len - (intOf i).toNat)
  case atStart => exact ⟨0, Nat.zero_le _, rfl, h0, KpS.refl _ _⟩
  case round =>
    obtain ⟨k, hk, rfl, hJs, hnx⟩ := hrel
    have hBs' : wr.cell? ⟨Bs, 0, none⟩ = some (.slice a len cap) := (hnx.cell (p := ⟨Bs, 0, none⟩) hk1).trans hBs
    have hBn' : wr.cell? ⟨Bn, 0, none⟩ = some (.int .i64 32) := (hnx.cell (p := ⟨Bn, 0, none⟩) hk2).trans hBn
    by_cases hlt : 32 * k < len
    · obtain rfl := ha (by omega)
      have hY' := hY (List.range k) k wr.drew (hD _ _ hJs) (by rw [List.length_range]; omega)
      obtain ⟨fn, tmps, assign, body, hy, hR⟩ := hY'
      have e1 : (if ((len - 32 * k : Nat) : Int) < 32 then ((len - 32 * k : Nat) : Int) else 32) = ((min 32 (len - 32 * k) : Nat) : Int) := by split <;> omega
      have e2 : min (32 : Int) ((len - 32 * k : Nat) : Int) = ((min 32 (len - 32 * k) : Nat) : Int) := by omega
      have hm1 : min 32 (len - 32 * k) ≤ 32 := Nat.min_le_left _ _
      have hm2 : min 32 (len - 32 * k) ≤ len - 32 * k := Nat.min_le_right _ _
      have hm3 : 0 < min 32 (len - 32 * k) := by omega
      have hBd : wr.drew.cell? ⟨Bs, 0, none⟩ = some (.slice (some ⟨b, 0, none⟩) len cap) := hBs'
      unfold chunkV at hy
      generalize hm : min 32 (len - 32 * k) = m at *
      gi_wp2
      refine region_end { tmps := #[.func (.yield l) #[] #[], .pointer (some ⟨Bs, 0, none⟩), .pointer (some ⟨Bn, 0, none⟩), undef, .int .i64 (32 * k), .int .i64 m, .int .i64 (32 * k), .slice (some ⟨b, 0, none⟩) len cap, .int .i64 len, .bool true, u10, u11, u12, .int .i64 32, .slice (some ⟨b, 0, none⟩) len cap, .int .i64 (32 * k),
        .slice (some ⟨b, 32 * k, none⟩) (len - 32 * k) (cap - 32 * k), .int .i64 ((len - 32 * k : Nat) : Int), .int .i64 m, u19, u20, u21, u22, u23, u24, u25, u26, u27, u28, u29, u30], defers := [] } wr.drew ?_ (fun Q' hQ' => ?_)
      rotate_left
      · gi_region
        all_goals first | exact hQ' | (rw [e2]; exact hQ') | (simp only [e1, e2]; exact hQ')
      gi_wp2
      refine hR.mono ?_
      rintro e W3 (⟨rfl, hJ3, hk3⟩ | ⟨rfl, hJx3⟩)
      · have hk4 : KpS ks W W3 := hnx.trans hk3
        have hBn3 : W3.cell? ⟨Bn, 0, none⟩ = some (.int .i64 32) := (hk4.cell (p := ⟨Bn, 0, none⟩) hk2).trans hBn
        gi_wp2
        go_roundw
        case rel => exact ⟨k + 1, by omega, by simp; omega, by rw [List.range_succ]; exact hJ3, hk4⟩
        case measure => simp [intOf]; omega
      · gi_wp2
        refine bodyPost_ret (results_none rfl _ _ _) rfl ?_
        exact ⟨⟨_, rfl⟩, .inr ⟨_, ⟨k + 1, by omega, List.range_succ.symm⟩, hJx3⟩⟩
    · gi_wp2
      go_end0
      exact ⟨⟨_, rfl⟩, .inl ⟨_, rfl, by rw [show (len + 31) / 32 = k by omega]; exact hJs⟩⟩
set_option maxHeartbeats 1000000 in
theorem chunk_in (F : Fence) (n : Nat) (h31 : F.fn 31) (hro : F.round = none) (a : Option Addr) (len cap : Nat) (w : World) :
    CallsIn F n Try.prog 31 #[.slice a len cap, .int .i64 32] w fun e w' => e = .returned (.func (.func 59) #[] #[.pointer (some ⟨w.heap.size, 0, none⟩), .pointer (some ⟨w.heap.size + 1, 0, none⟩)]) ∧ w' = (w.alloc (.cells #[.slice a len cap] 22)).alloc (.cells #[.int .i64 32] 3) := by
  refine callsIn_of_wp Try.func31 rfl h31 ?_ hro
  simp only [Try.ntmps31, List.size_toArray, List.length_cons, List.length_nil, Nat.reduceAdd, Nat.reduceSub, Array.replicate_succ, Array.replicate_zero, List.push_toArray, List.append_toArray, List.nil_append, List.cons_append]
  gi_wp2
  go_ret
  exact ⟨rfl, rfl⟩

theorem chunk_stops (F : Fence) (n : Nat) (h59 : F.fn 59) (hro : F.round = none) (hn : 1 ≤ n) (Bs Bn : Nat) (a : Option Addr) (b len cap : Nat) (w : World) (hBs : Bs < w.heap.size) (hBn : Bn < w.heap.size) (hreach : len ≤ 2147483648) (hcap : len ≤ cap) (ha : 0 < len → a = some ⟨b, 0, none⟩)
    (hs : w.cell? ⟨Bs, 0, none⟩ = some (.slice a len cap)) (hm : w.cell? ⟨Bn, 0, none⟩ = some (.int .i64 32)) :
    SeqStopsK F n Try.prog 59 #[.pointer (some ⟨Bs, 0, none⟩), .pointer (some ⟨Bn, 0, none⟩)] (fun k : Nat => #[chunkV b len k]) (KpS [Bs, Bn]) (fun ys => ys = List.range ((len + 31) / 32)) (fun pre => ∃ k, k ≤ (len + 31) / 32 ∧ pre = List.range k) ((len + 31) / 32) w :=
  fun l J Jx W hW hJ _ hY h0 => chunk1_in F n h59 hro hn l Bs Bn a b len cap [Bs, Bn] (by simp) (by simp) hreach hcap ha J Jx (fun pre W h => hJ pre W _ none h ⟨rfl, rfl, rfl, Nat.le_refl _, fun _ _ _ => rfl⟩ (fun r e => by cases e)) hY W ((hW.cell (p := ⟨Bs, 0, none⟩) hBs).trans hs) ((hW.cell (p := ⟨Bn, 0, none⟩) hBn).trans hm) h0

set_option maxRecDepth 100000 in
set_option maxHeartbeats 4000000 in
theorem tail_in (F : Fence) (n : Nat) (h31 : F.fn 31) (h59 : F.fn 59) (hro : F.round = none) (hn : 3 ≤ n) (a : Option Addr) (b len cap : Nat) (bs : List UInt8) (w : World) (hlen : bs.length = len) (hreach : len ≤ 2147483648) (hcap : len ≤ cap) (ha : 0 < len → a = some ⟨b, 0, none⟩) (hb : 0 < len → b < w.heap.size)
    (hc : ∀ (j : Nat) x, bs[j]? = some x → w.cell? ⟨b, j, none⟩ = some (.int .u8 (x.toNat : Int))) (u0 u1 u2 u4 u5 u6 u7 u8 u9 u10 u11 u12 u13 u14 u15 u16 u17 u18 u19 u20 u21 u22 u23 u24 u25 u26 u27 u28 u29 u30 u31 u32 u33 u34 u35 u36 u37 u38 u39 u40 u41 u42 u43 u44 u45 u46 u47 u48 u49 u50 u51 u52 u53 u54 u55 u56 u57 u58 u59 u60 u61 u62 u63 u64 u65 u66 u67 u68 u69 u70 u71 u72 u73 : Value) (R : Ending → World → Prop) (hR : ∀ v W', W'.ownsRow w.heap.size 9 1 v ((len + 31) / 32) ((List.range ((len + 31) / 32)).map fun k => Value.string ⟨(chunkS bs k).toArray⟩) → Below w.heap.size w W' → R (.returned v) W') :
    (seqDrop 6 (bodyOf Try.f10)).wpIn F n Try.prog (bodyPostM F n Try.prog Try.f10 R)
      { tmps := #[u0, u1, u2, .slice a len cap, u4, u5, u6, u7, u8, u9, u10, u11, u12, u13, u14, u15, u16, u17, u18, u19, u20, u21, u22, u23, u24, u25, u26, u27, u28, u29, u30, u31, u32, u33, u34, u35, u36, u37, u38, u39, u40, u41, u42, u43, u44, u45, u46, u47, u48, u49, u50, u51, u52, u53, u54, u55, u56, u57, u58, u59, u60, u61, u62, u63, u64, u65, u66, u67, u68, u69, u70, u71, u72, u73], defers := [] } w := by
  have h1 : 1 ≤ n := by omega
  obtain ⟨i0, hi, hz0, hz1, hz2⟩ := info_parts info9_
  dsimp only [bodyOf, Try.f10, seqDrop]
  gi_wp2_with (gi_at_call 31; refine (chunk_in F (n - 1) h31 hro _ _ _ _).mono ?_; rintro e w' ⟨rfl, rfl⟩)
  have bO := Boxed.new w 23 (.slice none 0 0)
  have bS := Boxed.new (w.alloc (.cells #[.slice none 0 0] 23)) 22 (.slice a len cap)
  have bN := Boxed.new ((w.alloc (.cells #[.slice none 0 0] 23)).alloc (.cells #[.slice a len cap] 22)) 3 (.int .i64 32)
  rw [World.size_alloc] at bS
  rw [World.size_alloc, World.size_alloc] at bN
  have bO2 := (bO.alloc (.cells #[.slice a len cap] 22)).alloc (.cells #[.int .i64 32] 3)
  have bS2 := bS.alloc (.cells #[.int .i64 32] 3)
  have hB0 : Below w.heap.size w (((w.alloc (.cells #[.slice none 0 0] 23)).alloc (.cells #[.slice a len cap] 22)).alloc (.cells #[.int .i64 32] 3)) := (((Below.refl _ w).alloc (Nat.le_refl _) _).alloc (by simp) _).alloc (by simp; omega) _
  obtain ⟨W0, hW0⟩ : ∃ W0, ((w.alloc (.cells #[.slice none 0 0] 23)).alloc (.cells #[.slice a len cap] 22)).alloc (.cells #[.int .i64 32] 3) = W0 := ⟨_, rfl⟩
  have hsz : W0.heap.size = w.heap.size + 3 := by rw [← hW0]; simp
  rw [hW0] at bO2 bS2 bN hB0 ⊢
  refine wpIn_rangeFunc_ownG hro h1 (gf := 59) (lb := #[.pointer (some ⟨w.heap.size + 1, 0, none⟩), .pointer (some ⟨w.heap.size + 2, 0, none⟩)]) rfl h59 (enters_of Try.func59 (by kernel_rfl) rfl)
    (chunk_stops F (n - 1) h59 hro (by omega) (w.heap.size + 1) (w.heap.size + 2) a b len cap W0 (by omega) (by omega) hreach hcap ha bS2.cell bN.cell) (fun h k => KpS.trans h k) (fun W l o o' hl hh _ _ => KpS.putObj hl hh (by simp; omega)) (Below.refl _ _) (fun _ => rfl)
    (fun pre W => (∃ v, Boxed W w.heap.size 23 v ∧ W.ownsRow w.heap.size 9 1 v pre.length (pre.map fun k => Value.string ⟨(chunkS bs k).toArray⟩)) ∧ (Boxed W (w.heap.size + 1) 22 (.slice a len cap) ∧ Boxed W (w.heap.size + 2) 3 (.int .i64 32)) ∧ Below w.heap.size w W)
    (fun _ _ _ => False)
    (OwnFrom.and (Own.from (fun s A B row hs hg hr => by
        obtain ⟨v, h1, h2, _⟩ := holdsRow_own w.heap.size w.heap.size 23 9 1 (fun pre : List Nat => pre.length) (fun pre => pre.map fun k => Value.string ⟨(chunkS bs k).toArray⟩) (fun _ _ => True) s A B row (by obtain ⟨v, h1, h2⟩ := hs; exact ⟨v, h1, h2, trivial⟩) hg hr
        exact ⟨v, h1, h2⟩) _) (OwnFrom.and (Own.from (fun s A B row hs hg hr => ⟨boxed_own (β := List Nat) _ _ (fun _ => Value.slice a len cap) s A B row hs.1 hg hr, boxed_own (β := List Nat) _ _ (fun _ => Value.int .i64 32) s A B row hs.2 hg hr⟩) _) (ownFrom_below (Nat.le_refl _) (by omega))))
    (fun _ _ _ _ _ hs _ _ => hs)
    ⟨⟨_, bO2, World.ownsRow_nil _ _ _ _⟩, ⟨bS2, bN⟩, hB0⟩
    (fun x => { tmps := #[u0, u1, u2, .slice a len cap, u4, u5, u6, u7, u8, .pointer (some ⟨w.heap.size, 0, none⟩), chunkV b len x, u11, u12, u13, u14, u15, u16, u17, u18, u19, u20, u21, u22, u23, u24, u25, u26, u27, u28, u29, u30, u31, u32, u33, u34, u35, u36, u37, u38, u39, u40, u41, u42, u43, u44, u45, u46, u47, u48, u49, u50, u51, u52, u53, u54, u55, u56, u57, u58, u59, u60, u61, u62, u63, u64, .slice a len cap, .func (.func 59) #[] #[.pointer (some ⟨w.heap.size + 1, 0, none⟩), .pointer (some ⟨w.heap.size + 2, 0, none⟩)], chunkV b len x, u68, u69, u70, u71, u72, u73], defers := [] }) ?assign ?body ?done ?stop
  case assign =>
    intro l x W K hK
    gi_wp2
    exact hK
  case body =>
    rintro l pre x W ⟨⟨v, hv, hrow⟩, ⟨hS, hN⟩, hB⟩ hlt
    have hcv := hv.cell
    have hmx : pre.length + 1 ≤ maxLen := by unfold maxLen; omega
    have hmy : (pre.length + 1) * 16 ≤ 140737488355328 := by omega
    have hmz : w.heap.size ≤ (W.alloc (.cells #[.string ⟨(chunkS bs x).toArray⟩] 9)).heap.size := by have := hB.size; simp; omega
    have hlx : (chunkS bs x).length = min 32 (len - 32 * x) := by unfold chunkS; rw [List.length_take, List.length_drop, hlen]
    have hconv : (convert 22 9 (chunkV b len x)).run Try.prog W = .ok (.string ⟨(chunkS bs x).toArray⟩) W := by
      have := run_convert_bytes_back (P := Try.prog) W 22 9 _ ⟨b, 32 * x, none⟩ (min 32 (len - 32 * x)) (chunkS bs x) Try.underlying22 Try.underlying5 Try.underlying9 (fun j hj => by
        have hj2 : (chunkS bs x)[j] = bs[32 * x + j]'(by rw [hlx] at hj; omega) := by simp [chunkS]
        rw [hj2]
        have hadd : (⟨b, 32 * x, none⟩ : Addr).add j = ⟨b, 32 * x + j, none⟩ := by unfold Addr.add; split <;> simp_all
        rw [hadd]
        exact (hB.cell (p := ⟨b, 32 * x + j, none⟩) (hb (by rw [hlx] at hj; omega))).trans (hc (32 * x + j) _ (List.getElem?_eq_getElem _)))
      rw [hlx] at this
      exact this
    gi_wp2_with (gi_at_builtin; refine wpListIn_append_own _ rfl _ _ 23 rfl w.heap.size 9 i0 (.string ⟨#[]⟩) 1 16 Try.underlying23 hi hz0 hz1 hz2 rfl (by decide) _ _ _ rfl (hrow.alloc _) ⟨W.heap.size, 0, none⟩ 1 1 [.string ⟨(chunkS bs x).toArray⟩] rfl rfl (cell_one_new _ _ _) (by simp [Value.oneCell']) hmx hmy hmz ?_; intro v' w1 hown' hgrow _; obtain ⟨g', cap', rfl⟩ := ownsRow_succ hown'; obtain ⟨hv1, hv2, hr2, hk2, hb2⟩ := hv.appended (by decide) hrow hB.size (Nat.le_refl _) hown' hgrow; have hc1 := hv1.cell; have hf1 := hv1.frozen; have hS1 := ((hS.alloc _).kept hgrow (hS.not_row (by decide) hrow)).other (show w.heap.size + 1 ≠ w.heap.size by omega) (.slice (some ⟨g', 0, none⟩) (pre.length + 1) cap'); have hN1 := ((hN.alloc _).kept hgrow (hN.not_row (by decide) hrow)).other (show w.heap.size + 2 ≠ w.heap.size by omega) (.slice (some ⟨g', 0, none⟩) (pre.length + 1) cap'))
    exact ⟨hk2.from _, KpS.two hb2.size (hS1.trans hS.symm) (hN1.trans hN.symm), ⟨_, hv2, by simpa using hr2⟩, ⟨hS1, hN1⟩, hB.trans hb2⟩
  case done =>
    rintro D ys W hD rfl ⟨⟨v, hv, hrow⟩, _, hB⟩ hK
    have hcv := hv.cell
    gi_wp2
    refine ⟨by simp, .inl ⟨_, _, rfl, run_takeDeferred hK, ?_⟩⟩
    have hfin := hR v _ (by have := ownsRow_putObj hrow (.deferred none) hK rfl; simpa using this) (hB.trans (belowK_b (w := w) (Nat.le_refl _) W D _ (.deferred none) (by omega) hK rfl rfl))
    refine ⟨_, results_tmp rfl _ _ _, ?_⟩
    exact hfin
  case stop =>
    rintro D c pre W _ _ h _
    exact h.elim

set_option maxRecDepth 100000 in
theorem tailPut : TailPut Try.prog Try.f10 (seqDrop 6 (bodyOf Try.f10)) 3 9 := by
  intro a w o b len cap bs hd hs hq hl h1 h2 h3 h4 h5 R hR
  have hs' : a.tmps.toList.length = 74 := by rw [Array.length_toList]; exact hs.trans Try.ntmps10
  have ht := list_eq a.tmps.toList hs'
  have h3q : a.tmps.toList.getD 3 undef = .slice o len cap := by
    rw [List.getD_eq_getElem?_getD, Array.getElem?_toList, hq]; rfl
  have := tail_in .wide 3 trivial trivial rfl (Nat.le_refl _) o b len cap bs w hl h1 h2 h3 h4 h5 (a.tmps.toList.getD 0 undef) (a.tmps.toList.getD 1 undef) (a.tmps.toList.getD 2 undef) (a.tmps.toList.getD 4 undef) (a.tmps.toList.getD 5 undef) (a.tmps.toList.getD 6 undef) (a.tmps.toList.getD 7 undef) (a.tmps.toList.getD 8 undef) (a.tmps.toList.getD 9 undef) (a.tmps.toList.getD 10 undef) (a.tmps.toList.getD 11 undef) (a.tmps.toList.getD 12 undef) (a.tmps.toList.getD 13 undef) (a.tmps.toList.getD 14 undef) (a.tmps.toList.getD 15 undef) (a.tmps.toList.getD 16 undef) (a.tmps.toList.getD 17 undef) (a.tmps.toList.getD 18 undef) (a.tmps.toList.getD 19 undef) (a.tmps.toList.getD 20 undef) (a.tmps.toList.getD 21 undef) (a.tmps.toList.getD 22 undef) (a.tmps.toList.getD 23 undef) (a.tmps.toList.getD 24 undef) (a.tmps.toList.getD 25 undef) (a.tmps.toList.getD 26 undef) (a.tmps.toList.getD 27 undef) (a.tmps.toList.getD 28 undef) (a.tmps.toList.getD 29 undef) (a.tmps.toList.getD 30 undef) (a.tmps.toList.getD 31 undef) (a.tmps.toList.getD 32 undef) (a.tmps.toList.getD 33 undef) (a.tmps.toList.getD 34 undef) (a.tmps.toList.getD 35 undef) (a.tmps.toList.getD 36 undef) (a.tmps.toList.getD 37 undef) (a.tmps.toList.getD 38 undef) (a.tmps.toList.getD 39 undef) (a.tmps.toList.getD 40 undef) (a.tmps.toList.getD 41 undef) (a.tmps.toList.getD 42 undef) (a.tmps.toList.getD 43 undef) (a.tmps.toList.getD 44 undef) (a.tmps.toList.getD 45 undef) (a.tmps.toList.getD 46 undef) (a.tmps.toList.getD 47 undef) (a.tmps.toList.getD 48 undef) (a.tmps.toList.getD 49 undef) (a.tmps.toList.getD 50 undef) (a.tmps.toList.getD 51 undef) (a.tmps.toList.getD 52 undef) (a.tmps.toList.getD 53 undef) (a.tmps.toList.getD 54 undef) (a.tmps.toList.getD 55 undef) (a.tmps.toList.getD 56 undef) (a.tmps.toList.getD 57 undef) (a.tmps.toList.getD 58 undef) (a.tmps.toList.getD 59 undef) (a.tmps.toList.getD 60 undef) (a.tmps.toList.getD 61 undef) (a.tmps.toList.getD 62 undef) (a.tmps.toList.getD 63 undef) (a.tmps.toList.getD 64 undef) (a.tmps.toList.getD 65 undef) (a.tmps.toList.getD 66 undef) (a.tmps.toList.getD 67 undef) (a.tmps.toList.getD 68 undef) (a.tmps.toList.getD 69 undef) (a.tmps.toList.getD 70 undef) (a.tmps.toList.getD 71 undef) (a.tmps.toList.getD 72 undef) (a.tmps.toList.getD 73 undef) R hR
  have ha : a = { tmps := ((List.range 74).map fun i => a.tmps.toList.getD i undef).toArray, defers := [] } := by
    rw [← ht, ← hd]
  rw [ha]
  rw [← h3q] at this
  exact this

end Go.Proofs.Ythefogjlenmgfaa.I

/- A seat's types. The rows' measure. The library's functions at this seat. -/
import Derived.Test.YtddhfdbfackahaaDoorChecked
import Derived.Test.YtddhfdbfackahaaDoorBase5
import Derived.KernelRfl
import Derived.Test.YtddhfdbfackahaaDoorRows
import Derived.WalkKit
import Derived.ProofKit
import Derived.OpenShut
import Derived.JoinedCond
import Derived.RangeFuncNested
import Derived.RangeFuncBound
import Derived.RangeFuncCalls
import Derived.Shelf.Abstract
import Derived.Shelf.RegionOpen
import Derived.OwnWalkIn
import Derived.TacticsInMore
import Derived.LoopNIn
import Derived.LoopIn
import Derived.Maps.AppendAt
import Derived.Test.YtddhfdbfackahaaDoorBase6
set_option linter.unusedVariables false
set_option maxRecDepth 100000
namespace Go.Proofs.YtddhfdbfackahaaDoor.J
open Go Go.Proofs.YtddhfdbfackahaaDoor.D
def tbl : List TK := [.other, .func, .data (.int .i64), .data (.int .i64), .data .bool, .data (.int .u8), .other, .other, .other, .data .str, .other, .other, .data (.int .u64), .other, .other, .other, .other, .other, .other, .other, .iface, .data (.int .i32), .data (.arr 8 (.int .u8)), .data (.slice (.int .i64)), .func, .data (.slice .str), .data (.slice (.named 0)), .data (.named 1), .data (.named 1), .other, .func, .func, .func, .data (.slice (.int .u8)), .other, .func, .data (.named 0), .data (.named 0), .func, .func, .func, .func, .func, .func, .data (.slice (.slice (.named 0))), .func, .func, .data (.arr 5 (.arr 8 (.int .u8))), .data (.arr 8 .str), .func, .ptr, .data (.named 2), .data (.named 2), .func, .func, .func, .func, .ptr, .ptr, .func, .func, .func, .func, .func, .func, .func, .other, .func, .func, .data (.named 3), .data (.named 3), .other, .func, .func, .func, .func, .func, .ptr, .data (.named 4), .data (.named 4), .func, .func, .func, .func, .func, .data (.arr 256 .bool), .data (.arr 256 .bool), .other, .func, .func, .ptr, .func, .func, .other, .func, .func, .func, .data (.arr 256 (.int .u8)), .data (.int .u64), .data (.named 5), .data (.named 5), .data (.arr 16 (.named 5)), .func, .func, .func, .func, .other, .other, .other, .other, .other, .func, .data (.int .u32), .other, .other, .other, .ptr, .other, .other, .other, .other, .other]
def T : Nat → Type
  | 0 => N.TPut
  | 1 => N.TDisk
  | 2 => N.Tjrnl_writer
  | 3 => N.TNil0
  | 4 => N.Tdisk_lasting
  | 5 => N.Tutf8_acceptRange
  | _ + 6 => Unit
def fields : Nat → List Ty
  | 0 => [(.int .i64), .str]
  | 1 => [(.slice .str), (.slice (.named 0)), (.int .i64), .bool]
  | 2 => [(.named 1)]
  | 3 => []
  | 4 => [(.named 1)]
  | 5 => [(.int .u8), (.int .u8)]
  | _ + 6 => []
def out : (i : Nat) → T i → HL T (fields i)
  | 0, x => (x.At, x.B, ())
  | 1, x => (x.Last, x.Wait, x.Arm, x.Down, ())
  | 2, x => (x.d, ())
  | 3, _ => ()
  | 4, x => (x.d, ())
  | 5, x => (x.lo, x.hi, ())
  | _ + 6, _ => ()
def into : (i : Nat) → HL T (fields i) → T i
  | 0, x => ⟨x.1, x.2.1⟩
  | 1, x => ⟨x.1, x.2.1, x.2.2.1, x.2.2.2.1⟩
  | 2, x => ⟨x.1⟩
  | 3, _ => ⟨⟩
  | 4, x => ⟨x.1⟩
  | 5, x => ⟨x.1, x.2.1⟩
  | _ + 6, _ => ()
def eqb : (i : Nat) → T i → T i → Bool
  | 0, x, y => N.TPut.eqb x y
  | 1, x, y => N.TDisk.eqb x y
  | 2, x, y => N.Tjrnl_writer.eqb x y
  | 3, x, y => N.TNil0.eqb x y
  | 4, x, y => N.Tdisk_lasting.eqb x y
  | 5, x, y => N.Tutf8_acceptRange.eqb x y
  | _ + 6, _, _ => true
def nsize : Nat → Nat
  | 0 => 2
  | 1 => 4
  | 2 => 4
  | 3 => 0
  | 4 => 4
  | 5 => 2
  | _ + 6 => 0
def cmpT : List Nat := [2, 3, 4, 5, 9, 12, 21, 22, 36, 37, 47, 48, 69, 70, 85, 86, 97, 98, 99, 100, 101, 112]
def E : Env where
  T := T
  fields := fields
  out := out
  into := into
  eqb := eqb
  nsize := nsize
  tk := fun t => nth tbl t .other
  cmp := fun t => memB cmpT t
theorem into_out : ∀ i x, E.into i (E.out i x) = x
  | 0, _ => rfl
  | 1, _ => rfl
  | 2, _ => rfl
  | 3, _ => rfl
  | 4, _ => rfl
  | 5, _ => rfl
  | _ + 6, _ => rfl
theorem out_into : ∀ i r, E.out i (E.into i r) = r
  | 0, _ => rfl
  | 1, _ => rfl
  | 2, _ => rfl
  | 3, _ => rfl
  | 4, _ => rfl
  | 5, _ => rfl
  | _ + 6, () => rfl
theorem nsize_ok : ∀ i, E.nsize i = ((E.fields i).map E.size).sum
  | 0 => rfl
  | 1 => rfl
  | 2 => rfl
  | 3 => rfl
  | 4 => rfl
  | 5 => rfl
  | _ + 6 => rfl
theorem eqb_ok : ∀ i x y, E.eqb i x y = eqHL E (E.fields i) (E.out i x) (E.out i y)
  | 0, _, _ => rfl
  | 1, _, _ => rfl
  | 2, _, _ => rfl
  | 3, _, _ => rfl
  | 4, _, _ => rfl
  | 5, _, _ => rfl
  | _ + 6, _, _ => rfl
theorem ok : EnvOk E := ⟨into_out, out_into, nsize_ok⟩
theorem cmp_ok : ∀ t, E.cmp t = true → Tryd.prog.eqGuardType Tryd.prog.depth t = false ∧ Tryd.prog.stoodInHeld t = false ∧ (∀ fs, Tryd.prog.underlying t = some (.struct fs) → ∀ f ∈ fs.toList, E.cmp f.type = true) ∧ ∀ n e, Tryd.prog.underlying t = some (.array n e) → E.cmp e = true :=
  cmp_of Tryd.prog cmpT (by kernel_rfl)
theorem sound : Sound Tryd.prog E := by
  refine sound_of ok eqb_ok cmp_ok tbl (fun _ => rfl) ?_
  have t2 : TyM Tryd.prog E 2 (.int .i64) := tym_of (i := Tryd.t2) (by kernel_rfl) (by kernel_rfl) (by decide) (by kernel_rfl) (Tryd.underlying2) (by kernel_rfl)
  have t3 : TyM Tryd.prog E 3 (.int .i64) := tym_of (i := Tryd.t3) (by kernel_rfl) (by kernel_rfl) (by decide) (by kernel_rfl) (Tryd.underlying3) (by kernel_rfl)
  have t4 : TyM Tryd.prog E 4 .bool := tym_of (i := Tryd.t4) (by kernel_rfl) (by kernel_rfl) (by decide) (by kernel_rfl) (Tryd.underlying4) (by kernel_rfl)
  have t5 : TyM Tryd.prog E 5 (.int .u8) := tym_of (i := Tryd.t5) (by kernel_rfl) (by kernel_rfl) (by decide) (by kernel_rfl) (Tryd.underlying5) (by kernel_rfl)
  have t9 : TyM Tryd.prog E 9 .str := tym_of (i := Tryd.t9) (by kernel_rfl) (by kernel_rfl) (by decide) (by kernel_rfl) (Tryd.underlying9) (by kernel_rfl)
  have t12 : TyM Tryd.prog E 12 (.int .u64) := tym_of (i := Tryd.t12) (by kernel_rfl) (by kernel_rfl) (by decide) (by kernel_rfl) (Tryd.underlying12) (by kernel_rfl)
  have t21 : TyM Tryd.prog E 21 (.int .i32) := tym_of (i := Tryd.t21) (by kernel_rfl) (by kernel_rfl) (by decide) (by kernel_rfl) (Tryd.underlying21) (by kernel_rfl)
  have t22 : TyM Tryd.prog E 22 (.arr 8 (.int .u8)) := tym_of (i := Tryd.t22) (by kernel_rfl) (by kernel_rfl) (by decide) (by kernel_rfl) (⟨_, Tryd.underlying22, rfl⟩) (by kernel_rfl)
  have t23 : TyM Tryd.prog E 23 (.slice (.int .i64)) := tym_of (i := Tryd.t23) (by kernel_rfl) (by kernel_rfl) (by decide) (by kernel_rfl) (⟨_, Tryd.underlying23, rfl⟩) (by kernel_rfl)
  have t25 : TyM Tryd.prog E 25 (.slice .str) := tym_of (i := Tryd.t25) (by kernel_rfl) (by kernel_rfl) (by decide) (by kernel_rfl) (⟨_, Tryd.underlying25, rfl⟩) (by kernel_rfl)
  have t26 : TyM Tryd.prog E 26 (.slice (.named 0)) := tym_of (i := Tryd.t26) (by kernel_rfl) (by kernel_rfl) (by decide) (by kernel_rfl) (⟨_, Tryd.underlying26, rfl⟩) (by kernel_rfl)
  have t27 : TyM Tryd.prog E 27 (.named 1) := tym_of (i := Tryd.t27) (by kernel_rfl) (by kernel_rfl) (by decide) (by kernel_rfl) (⟨_, Tryd.underlying27, rfl, flds_all ⟨⟨_, rfl, rfl, rfl, by decide, by decide⟩, ⟨_, rfl, rfl, rfl, by decide, by decide⟩, ⟨_, rfl, rfl, rfl, by decide, by decide⟩, ⟨_, rfl, rfl, rfl, by decide, by decide⟩, trivial⟩⟩) (by kernel_rfl)
  have t28 : TyM Tryd.prog E 28 (.named 1) := tym_of (i := Tryd.t28) (by kernel_rfl) (by kernel_rfl) (by decide) (by kernel_rfl) (⟨_, Tryd.underlying28, rfl, flds_all ⟨⟨_, rfl, rfl, rfl, by decide, by decide⟩, ⟨_, rfl, rfl, rfl, by decide, by decide⟩, ⟨_, rfl, rfl, rfl, by decide, by decide⟩, ⟨_, rfl, rfl, rfl, by decide, by decide⟩, trivial⟩⟩) (by kernel_rfl)
  have t33 : TyM Tryd.prog E 33 (.slice (.int .u8)) := tym_of (i := Tryd.t33) (by kernel_rfl) (by kernel_rfl) (by decide) (by kernel_rfl) (⟨_, Tryd.underlying33, rfl⟩) (by kernel_rfl)
  have t36 : TyM Tryd.prog E 36 (.named 0) := tym_of (i := Tryd.t36) (by kernel_rfl) (by kernel_rfl) (by decide) (by kernel_rfl) (⟨_, Tryd.underlying36, rfl, flds_all ⟨⟨_, rfl, rfl, rfl, by decide, by decide⟩, ⟨_, rfl, rfl, rfl, by decide, by decide⟩, trivial⟩⟩) (by kernel_rfl)
  have t37 : TyM Tryd.prog E 37 (.named 0) := tym_of (i := Tryd.t37) (by kernel_rfl) (by kernel_rfl) (by decide) (by kernel_rfl) (⟨_, Tryd.underlying37, rfl, flds_all ⟨⟨_, rfl, rfl, rfl, by decide, by decide⟩, ⟨_, rfl, rfl, rfl, by decide, by decide⟩, trivial⟩⟩) (by kernel_rfl)
  have t44 : TyM Tryd.prog E 44 (.slice (.slice (.named 0))) := tym_of (i := Tryd.t44) (by kernel_rfl) (by kernel_rfl) (by decide) (by kernel_rfl) (⟨_, Tryd.underlying44, rfl⟩) (by kernel_rfl)
  have t47 : TyM Tryd.prog E 47 (.arr 5 (.arr 8 (.int .u8))) := tym_of (i := Tryd.t47) (by kernel_rfl) (by kernel_rfl) (by decide) (by kernel_rfl) (⟨_, Tryd.underlying47, rfl⟩) (by kernel_rfl)
  have t48 : TyM Tryd.prog E 48 (.arr 8 .str) := tym_of (i := Tryd.t48) (by kernel_rfl) (by kernel_rfl) (by decide) (by kernel_rfl) (⟨_, Tryd.underlying48, rfl⟩) (by kernel_rfl)
  have t51 : TyM Tryd.prog E 51 (.named 2) := tym_of (i := Tryd.t51) (by kernel_rfl) (by kernel_rfl) (by decide) (by kernel_rfl) (⟨_, Tryd.underlying51, rfl, flds_all ⟨⟨_, rfl, rfl, rfl, by decide, by decide⟩, trivial⟩⟩) (by kernel_rfl)
  have t52 : TyM Tryd.prog E 52 (.named 2) := tym_of (i := Tryd.t52) (by kernel_rfl) (by kernel_rfl) (by decide) (by kernel_rfl) (⟨_, Tryd.underlying52, rfl, flds_all ⟨⟨_, rfl, rfl, rfl, by decide, by decide⟩, trivial⟩⟩) (by kernel_rfl)
  have t69 : TyM Tryd.prog E 69 (.named 3) := tym_of (i := Tryd.t69) (by kernel_rfl) (by kernel_rfl) (by decide) (by kernel_rfl) (⟨_, Tryd.underlying69, rfl, flds_all trivial⟩) (by kernel_rfl)
  have t70 : TyM Tryd.prog E 70 (.named 3) := tym_of (i := Tryd.t70) (by kernel_rfl) (by kernel_rfl) (by decide) (by kernel_rfl) (⟨_, Tryd.underlying70, rfl, flds_all trivial⟩) (by kernel_rfl)
  have t78 : TyM Tryd.prog E 78 (.named 4) := tym_of (i := Tryd.t78) (by kernel_rfl) (by kernel_rfl) (by decide) (by kernel_rfl) (⟨_, Tryd.underlying78, rfl, flds_all ⟨⟨_, rfl, rfl, rfl, by decide, by decide⟩, trivial⟩⟩) (by kernel_rfl)
  have t79 : TyM Tryd.prog E 79 (.named 4) := tym_of (i := Tryd.t79) (by kernel_rfl) (by kernel_rfl) (by decide) (by kernel_rfl) (⟨_, Tryd.underlying79, rfl, flds_all ⟨⟨_, rfl, rfl, rfl, by decide, by decide⟩, trivial⟩⟩) (by kernel_rfl)
  have t85 : TyM Tryd.prog E 85 (.arr 256 .bool) := tym_of (i := Tryd.t85) (by kernel_rfl) (by kernel_rfl) (by decide) (by kernel_rfl) (⟨_, Tryd.underlying85, rfl⟩) (by kernel_rfl)
  have t86 : TyM Tryd.prog E 86 (.arr 256 .bool) := tym_of (i := Tryd.t86) (by kernel_rfl) (by kernel_rfl) (by decide) (by kernel_rfl) (⟨_, Tryd.underlying86, rfl⟩) (by kernel_rfl)
  have t97 : TyM Tryd.prog E 97 (.arr 256 (.int .u8)) := tym_of (i := Tryd.t97) (by kernel_rfl) (by kernel_rfl) (by decide) (by kernel_rfl) (⟨_, Tryd.underlying97, rfl⟩) (by kernel_rfl)
  have t98 : TyM Tryd.prog E 98 (.int .u64) := tym_of (i := Tryd.t98) (by kernel_rfl) (by kernel_rfl) (by decide) (by kernel_rfl) (Tryd.underlying98) (by kernel_rfl)
  have t99 : TyM Tryd.prog E 99 (.named 5) := tym_of (i := Tryd.t99) (by kernel_rfl) (by kernel_rfl) (by decide) (by kernel_rfl) (⟨_, Tryd.underlying99, rfl, flds_all ⟨⟨_, rfl, rfl, rfl, by decide, by decide⟩, ⟨_, rfl, rfl, rfl, by decide, by decide⟩, trivial⟩⟩) (by kernel_rfl)
  have t100 : TyM Tryd.prog E 100 (.named 5) := tym_of (i := Tryd.t100) (by kernel_rfl) (by kernel_rfl) (by decide) (by kernel_rfl) (⟨_, Tryd.underlying100, rfl, flds_all ⟨⟨_, rfl, rfl, rfl, by decide, by decide⟩, ⟨_, rfl, rfl, rfl, by decide, by decide⟩, trivial⟩⟩) (by kernel_rfl)
  have t101 : TyM Tryd.prog E 101 (.arr 16 (.named 5)) := tym_of (i := Tryd.t101) (by kernel_rfl) (by kernel_rfl) (by decide) (by kernel_rfl) (⟨_, Tryd.underlying101, rfl⟩) (by kernel_rfl)
  have t112 : TyM Tryd.prog E 112 (.int .u32) := tym_of (i := Tryd.t112) (by kernel_rfl) (by kernel_rfl) (by decide) (by kernel_rfl) (Tryd.underlying112) (by kernel_rfl)
  exact ⟨trivial, ⟨⟨_, _, _, Tryd.underlying1⟩, Tryd.t1, by kernel_rfl, by kernel_rfl, by kernel_rfl⟩, t2, t3, t4, t5, trivial, trivial, trivial, t9, trivial, trivial, t12, trivial, trivial, trivial, trivial, trivial, trivial, trivial, ⟨⟨_, Tryd.underlying20⟩, Tryd.t20, by kernel_rfl, by kernel_rfl, by kernel_rfl⟩, t21, t22, t23, ⟨⟨_, _, _, Tryd.underlying24⟩, Tryd.t24, by kernel_rfl, by kernel_rfl, by kernel_rfl⟩, t25, t26, t27, t28, trivial, ⟨⟨_, _, _, Tryd.underlying30⟩, Tryd.t30, by kernel_rfl, by kernel_rfl, by kernel_rfl⟩, ⟨⟨_, _, _, Tryd.underlying31⟩, Tryd.t31, by kernel_rfl, by kernel_rfl, by kernel_rfl⟩, ⟨⟨_, _, _, Tryd.underlying32⟩, Tryd.t32, by kernel_rfl, by kernel_rfl, by kernel_rfl⟩, t33, trivial, ⟨⟨_, _, _, Tryd.underlying35⟩, Tryd.t35, by kernel_rfl, by kernel_rfl, by kernel_rfl⟩, t36, t37, ⟨⟨_, _, _, Tryd.underlying38⟩, Tryd.t38, by kernel_rfl, by kernel_rfl, by kernel_rfl⟩, ⟨⟨_, _, _, Tryd.underlying39⟩, Tryd.t39, by kernel_rfl, by kernel_rfl, by kernel_rfl⟩, ⟨⟨_, _, _, Tryd.underlying40⟩, Tryd.t40, by kernel_rfl, by kernel_rfl, by kernel_rfl⟩, ⟨⟨_, _, _, Tryd.underlying41⟩, Tryd.t41, by kernel_rfl, by kernel_rfl, by kernel_rfl⟩, ⟨⟨_, _, _, Tryd.underlying42⟩, Tryd.t42, by kernel_rfl, by kernel_rfl, by kernel_rfl⟩, ⟨⟨_, _, _, Tryd.underlying43⟩, Tryd.t43, by kernel_rfl, by kernel_rfl, by kernel_rfl⟩, t44, ⟨⟨_, _, _, Tryd.underlying45⟩, Tryd.t45, by kernel_rfl, by kernel_rfl, by kernel_rfl⟩, ⟨⟨_, _, _, Tryd.underlying46⟩, Tryd.t46, by kernel_rfl, by kernel_rfl, by kernel_rfl⟩, t47, t48, ⟨⟨_, _, _, Tryd.underlying49⟩, Tryd.t49, by kernel_rfl, by kernel_rfl, by kernel_rfl⟩, ⟨⟨_, Tryd.underlying50⟩, Tryd.t50, by kernel_rfl, by kernel_rfl, by kernel_rfl⟩, t51, t52, ⟨⟨_, _, _, Tryd.underlying53⟩, Tryd.t53, by kernel_rfl, by kernel_rfl, by kernel_rfl⟩, ⟨⟨_, _, _, Tryd.underlying54⟩, Tryd.t54, by kernel_rfl, by kernel_rfl, by kernel_rfl⟩, ⟨⟨_, _, _, Tryd.underlying55⟩, Tryd.t55, by kernel_rfl, by kernel_rfl, by kernel_rfl⟩, ⟨⟨_, _, _, Tryd.underlying56⟩, Tryd.t56, by kernel_rfl, by kernel_rfl, by kernel_rfl⟩, ⟨⟨_, Tryd.underlying57⟩, Tryd.t57, by kernel_rfl, by kernel_rfl, by kernel_rfl⟩, ⟨⟨_, Tryd.underlying58⟩, Tryd.t58, by kernel_rfl, by kernel_rfl, by kernel_rfl⟩, ⟨⟨_, _, _, Tryd.underlying59⟩, Tryd.t59, by kernel_rfl, by kernel_rfl, by kernel_rfl⟩, ⟨⟨_, _, _, Tryd.underlying60⟩, Tryd.t60, by kernel_rfl, by kernel_rfl, by kernel_rfl⟩, ⟨⟨_, _, _, Tryd.underlying61⟩, Tryd.t61, by kernel_rfl, by kernel_rfl, by kernel_rfl⟩, ⟨⟨_, _, _, Tryd.underlying62⟩, Tryd.t62, by kernel_rfl, by kernel_rfl, by kernel_rfl⟩, ⟨⟨_, _, _, Tryd.underlying63⟩, Tryd.t63, by kernel_rfl, by kernel_rfl, by kernel_rfl⟩, ⟨⟨_, _, _, Tryd.underlying64⟩, Tryd.t64, by kernel_rfl, by kernel_rfl, by kernel_rfl⟩, ⟨⟨_, _, _, Tryd.underlying65⟩, Tryd.t65, by kernel_rfl, by kernel_rfl, by kernel_rfl⟩, trivial, ⟨⟨_, _, _, Tryd.underlying67⟩, Tryd.t67, by kernel_rfl, by kernel_rfl, by kernel_rfl⟩, ⟨⟨_, _, _, Tryd.underlying68⟩, Tryd.t68, by kernel_rfl, by kernel_rfl, by kernel_rfl⟩, t69, t70, trivial, ⟨⟨_, _, _, Tryd.underlying72⟩, Tryd.t72, by kernel_rfl, by kernel_rfl, by kernel_rfl⟩, ⟨⟨_, _, _, Tryd.underlying73⟩, Tryd.t73, by kernel_rfl, by kernel_rfl, by kernel_rfl⟩, ⟨⟨_, _, _, Tryd.underlying74⟩, Tryd.t74, by kernel_rfl, by kernel_rfl, by kernel_rfl⟩, ⟨⟨_, _, _, Tryd.underlying75⟩, Tryd.t75, by kernel_rfl, by kernel_rfl, by kernel_rfl⟩, ⟨⟨_, _, _, Tryd.underlying76⟩, Tryd.t76, by kernel_rfl, by kernel_rfl, by kernel_rfl⟩, ⟨⟨_, Tryd.underlying77⟩, Tryd.t77, by kernel_rfl, by kernel_rfl, by kernel_rfl⟩, t78, t79, ⟨⟨_, _, _, Tryd.underlying80⟩, Tryd.t80, by kernel_rfl, by kernel_rfl, by kernel_rfl⟩, ⟨⟨_, _, _, Tryd.underlying81⟩, Tryd.t81, by kernel_rfl, by kernel_rfl, by kernel_rfl⟩, ⟨⟨_, _, _, Tryd.underlying82⟩, Tryd.t82, by kernel_rfl, by kernel_rfl, by kernel_rfl⟩, ⟨⟨_, _, _, Tryd.underlying83⟩, Tryd.t83, by kernel_rfl, by kernel_rfl, by kernel_rfl⟩, ⟨⟨_, _, _, Tryd.underlying84⟩, Tryd.t84, by kernel_rfl, by kernel_rfl, by kernel_rfl⟩, t85, t86, trivial, ⟨⟨_, _, _, Tryd.underlying88⟩, Tryd.t88, by kernel_rfl, by kernel_rfl, by kernel_rfl⟩, ⟨⟨_, _, _, Tryd.underlying89⟩, Tryd.t89, by kernel_rfl, by kernel_rfl, by kernel_rfl⟩, ⟨⟨_, Tryd.underlying90⟩, Tryd.t90, by kernel_rfl, by kernel_rfl, by kernel_rfl⟩, ⟨⟨_, _, _, Tryd.underlying91⟩, Tryd.t91, by kernel_rfl, by kernel_rfl, by kernel_rfl⟩, ⟨⟨_, _, _, Tryd.underlying92⟩, Tryd.t92, by kernel_rfl, by kernel_rfl, by kernel_rfl⟩, trivial, ⟨⟨_, _, _, Tryd.underlying94⟩, Tryd.t94, by kernel_rfl, by kernel_rfl, by kernel_rfl⟩, ⟨⟨_, _, _, Tryd.underlying95⟩, Tryd.t95, by kernel_rfl, by kernel_rfl, by kernel_rfl⟩, ⟨⟨_, _, _, Tryd.underlying96⟩, Tryd.t96, by kernel_rfl, by kernel_rfl, by kernel_rfl⟩, t97, t98, t99, t100, t101, ⟨⟨_, _, _, Tryd.underlying102⟩, Tryd.t102, by kernel_rfl, by kernel_rfl, by kernel_rfl⟩, ⟨⟨_, _, _, Tryd.underlying103⟩, Tryd.t103, by kernel_rfl, by kernel_rfl, by kernel_rfl⟩, ⟨⟨_, _, _, Tryd.underlying104⟩, Tryd.t104, by kernel_rfl, by kernel_rfl, by kernel_rfl⟩, ⟨⟨_, _, _, Tryd.underlying105⟩, Tryd.t105, by kernel_rfl, by kernel_rfl, by kernel_rfl⟩, trivial, trivial, trivial, trivial, trivial, ⟨⟨_, _, _, Tryd.underlying111⟩, Tryd.t111, by kernel_rfl, by kernel_rfl, by kernel_rfl⟩, t112, trivial, trivial, trivial, ⟨⟨_, Tryd.underlying116⟩, Tryd.t116, by kernel_rfl, by kernel_rfl, by kernel_rfl⟩, trivial, trivial, trivial, trivial, trivial, trivial⟩
theorem mix : Tryd.prog.follows .mixedOrders = true := by kernel_rfl
end Go.Proofs.YtddhfdbfackahaaDoor.J

set_option linter.unusedVariables false
set_option maxRecDepth 100000
namespace Go.Proofs.YtddhfdbfackahaaDoor.J
open Go Go.Proofs.YtddhfdbfackahaaDoor.D Go.ChangeShapes Go.RowKit
open Go.Proofs.YtddhfdbfackahaaDoor
theorem one_le {H : Type} (d : DataW H) : 1 ≤ Rows.uptoBulk d := by
  cases d with
  | lit l => cases l <;> simp [Rows.uptoBulk]
  | nil => simp [Rows.uptoBulk]
  | ptr d => simp [Rows.uptoBulk]
  | slice elems spare => simp [Rows.uptoBulk]
  | agg parts => simp [Rows.uptoBulk]
  | iface t d => simp [Rows.uptoBulk]
  | map entries => simp [Rows.uptoBulk]
  | held h => simp [Rows.uptoBulk]
theorem part_le {H : Type} {d : DataW H} {l : List (DataW H)} (h : d ∈ l) : Rows.uptoBulk d ≤ Rows.uptoBulkAll l := by
  induction l with
  | nil => cases h
  | cons x r ih =>
    simp only [Rows.uptoBulkAll]
    cases List.mem_cons.1 h with
    | inl e => subst e; omega
    | inr e => have := ih e; omega
theorem length_le {H : Type} (l : List (DataW H)) : l.length ≤ Rows.uptoBulkAll l := by
  induction l with
  | nil => simp [Rows.uptoBulkAll]
  | cons x r ih => have := one_le x; simp only [Rows.uptoBulkAll, List.length_cons]; omega
theorem meas {H : Type} : Meas (Rows.uptoBulk (H := H)) where
  str := fun b => by simp [Rows.uptoBulk]
  len := fun l r => by have := length_le l; simp only [Rows.uptoBulk]; omega
  el := fun l r d h => by have := part_le h; simp only [Rows.uptoBulk]; omega
  part := fun l d h => by have := part_le h; simp only [Rows.uptoBulk]; omega
theorem own : ownKnob Tryd.prog.godebug = none := by kernel_rfl
theorem laid : laidOutB Tryd.prog = true := by kernel_rfl
theorem full : ∀ t e, t < Tryd.prog.types.size → Tryd.prog.underlying t = some (.slice e) → 0 < Tryd.prog.cellsOf e := fun t e => slices_full_of Tryd.prog (by kernel_rfl) t e
theorem tl : ∀ t, E.tk t ≠ .other → t < Tryd.prog.types.size := tbl_lt (tbl := tbl) (fun _ => rfl) (of_decide_eq_true (by kernel_rfl))
theorem bl : 1048576 ≤ lim := of_decide_eq_true (by kernel_rfl)
theorem small {H : Type} {ds : List (DataW H)} (hk : Rows.uptoSmall H (ds ++ []) = true) : ∀ d ∈ ds, Rows.uptoBulk d ≤ 1048576 := by
  rw [List.append_nil] at hk
  have h : Rows.uptoBulkAll ds ≤ 1048576 := of_decide_eq_true hk
  exact fun d hd => Nat.le_trans (part_le hd) h
def layAt (g : Nat) (cs : List Value) (W : World) : World := { W with heap := W.heap.modify g fun
  | .cells _ t fz => .cells cs.toArray t fz
  | o => o }
end Go.Proofs.YtddhfdbfackahaaDoor.J

set_option linter.unusedVariables false
set_option maxRecDepth 100000
namespace Go.Proofs.YtddhfdbfackahaaDoor.J
open Go Go.RowKit Go.Shelf Go.Proofs Go.Proofs.YtddhfdbfackahaaDoor.D
open Go.Proofs.YtddhfdbfackahaaDoor.N (chunkS chunkL)
attribute [local go_sem] Oper.semAt_some
def came (n k : Nat) : List Nat := (List.range n).reverse.take k
theorem came_succ {n k : Nat} (h : k < n) : came n (k + 1) = came n k ++ [n - 1 - k] := by
  unfold came
  have : ((List.range n).reverse)[k]? = some (n - 1 - k) := by
    rw [List.getElem?_reverse (by simpa using h), List.length_range, List.getElem?_range (by omega)]
  rw [List.take_add_one, this]; rfl
def putV (ps : List (Int × ByteArray)) (j : Nat) : Value := .agg #[.int .i64 (ps[j]?.getD (0, ⟨#[]⟩)).1, .string (ps[j]?.getD (0, ⟨#[]⟩)).2]
set_option maxRecDepth 100000 in
set_option maxHeartbeats 2000000 in
theorem back1_in (F : Fence) (n : Nat) (h48 : F.fn 48) (hro : F.round = none) (hn : 1 ≤ n) (l Bs : Nat) (a : Option Addr) (b off len cap : Nat) (ps : List (Int × ByteArray)) (ks : List Nat) (hk1 : Bs ∈ ks) (hk2 : b ∈ ks) (hreach : len ≤ 2147483648) (hcap : len ≤ cap) (ha : 0 < len → a = some ⟨b, off, none⟩) (J Jx : List Nat → World → Prop)
    (hY : ∀ (pre : List Nat) (x : Nat) W, J pre W → pre.length < len → YieldAt F (n - 1) Tryd.prog l #[.int .i64 (x : Int), putV ps x] W fun e W' =>
      (e = .returned (.bool true) ∧ J (pre ++ [x]) W' ∧ KpS ks W W') ∨ (e = .returned (.bool false) ∧ Jx (pre ++ [x]) W'))
    (W : World) (hBs : W.cell? ⟨Bs, 0, none⟩ = some (.slice a len cap)) (hc0 : ∀ j, j < len → W.cell? ⟨b, off + j * 2, none⟩ = some (.int .i64 (ps[j]?.getD (0, ⟨#[]⟩)).1)) (hc1 : ∀ j, j < len → W.cell? ⟨b, off + j * 2 + 1, none⟩ = some (.string (ps[j]?.getD (0, ⟨#[]⟩)).2)) (h0 : J [] W) :
    CallsIn F n Tryd.prog 48 #[.func (.yield l) #[] #[], .pointer (some ⟨Bs, 0, none⟩)] W fun e W' => (∃ v, e = .returned v) ∧
      ((∃ ys, ys = came len len ∧ J ys W') ∨ (∃ pre, (∃ k, k ≤ len ∧ pre = came len k) ∧ Jx pre W')) := by
  refine callsIn_of_wp Tryd.func48 rfl h48 ?_ hro
  simp only [Tryd.ntmps48, List.size_toArray, List.length_cons, List.length_nil, Nat.reduceAdd, Nat.reduceSub, Array.replicate_succ, Array.replicate_zero, List.push_toArray, List.append_toArray, List.nil_append, List.cons_append]
  gi_wp2
  gi_loopw [3] (fun i wr => ∃ k : Nat, k ≤ len ∧ i = .int .i64 ((len : Int) - 1 - (k : Int)) ∧ J (came len k) wr ∧ KpS ks W wr)
    (fun i _ => (intOf i + 1).toNat)
  case atStart => exact ⟨0, Nat.zero_le _, by simp, h0, KpS.refl _ _⟩
  case round =>
    obtain ⟨k, hk, rfl, hJs, hnx⟩ := hrel
    have hBs' : wr.cell? ⟨Bs, 0, none⟩ = some (.slice a len cap) := (hnx.cell (p := ⟨Bs, 0, none⟩) hk1).trans hBs
    by_cases hlt : k < len
    · obtain rfl := ha (by omega)
      have hcl : (came len k).length = k := by unfold came; rw [List.length_take, List.length_reverse, List.length_range]; omega
      obtain ⟨fn, tmps, assign, body, hy, hR⟩ := hY (came len k) (len - 1 - k) wr hJs (by rw [hcl]; exact hlt)
      obtain ⟨m, hm⟩ : ∃ m : Nat, m = len - 1 - k := ⟨_, rfl⟩
      have he : (len : Int) - 1 - (k : Int) = (m : Int) := by omega
      have hml : m < len := by omega
      have hcx0 : wr.cell? ⟨b, off + m * 2, none⟩ = some (.int .i64 (ps[m]?.getD (0, ⟨#[]⟩)).1) := (hnx.cell (p := ⟨b, off + m * 2, none⟩) hk2).trans (hc0 m hml)
      have hcx1 : wr.cell? ⟨b, off + m * 2 + 1, none⟩ = some (.string (ps[m]?.getD (0, ⟨#[]⟩)).2) := (hnx.cell (p := ⟨b, off + m * 2 + 1, none⟩) hk2).trans (hc1 m hml)
      rw [← hm] at hy hR
      rw [he]
      have hmk : m + (k + 1) = len := by omega
      have hcs : came len (k + 1) = came len k ++ [m] := by rw [came_succ hlt, ← hm]
      clear hm
      unfold putV at hy
      generalize (ps[m]?.getD (0, ⟨#[]⟩)).1 = pa at *
      generalize (ps[m]?.getD (0, ⟨#[]⟩)).2 = pb at *
      gi_wp2
      refine hR.mono ?_
      rintro e W3 (⟨rfl, hJ3, hk3⟩ | ⟨rfl, hJx3⟩)
      · have hk4 : KpS ks W W3 := hnx.trans hk3
        gi_wp2
        go_roundw
        case rel => exact ⟨k + 1, by omega, by simp; omega, by rw [hcs]; exact hJ3, hk4⟩
        case measure => simp [intOf] <;> omega
      · gi_wp2
        refine bodyPost_ret (results_none rfl _ _ _) rfl ?_
        exact ⟨⟨_, rfl⟩, .inr ⟨_, ⟨k + 1, by omega, hcs.symm⟩, hJx3⟩⟩
    · obtain rfl : k = len := by omega
      gi_wp2
      go_end0
      exact ⟨⟨_, rfl⟩, .inl ⟨_, rfl, hJs⟩⟩
set_option maxHeartbeats 1000000 in
theorem back_in (F : Fence) (n : Nat) (h40 : F.fn 40) (hro : F.round = none) (a : Option Addr) (len cap : Nat) (w : World) :
    CallsIn F n Tryd.prog 40 #[.slice a len cap] w fun e w' => e = .returned (.func (.func 48) #[] #[.pointer (some ⟨w.heap.size, 0, none⟩)]) ∧ w' = w.alloc (.cells #[.slice a len cap] 26) := by
  refine callsIn_of_wp Tryd.func40 rfl h40 ?_ hro
  simp only [Tryd.ntmps40, List.size_toArray, List.length_cons, List.length_nil, Nat.reduceAdd, Nat.reduceSub, Array.replicate_succ, Array.replicate_zero, List.push_toArray, List.append_toArray, List.nil_append, List.cons_append]
  gi_wp2
  go_ret
  exact ⟨rfl, rfl⟩
structure PutsAt (w : World) (b off len : Nat) (ps : List (Int × ByteArray)) : Prop where
  at_ : ∀ j, j < len → w.cell? ⟨b, off + j * 2, none⟩ = some (.int .i64 (ps[j]?.getD (0, ⟨#[]⟩)).1)
  b_ : ∀ j, j < len → w.cell? ⟨b, off + j * 2 + 1, none⟩ = some (.string (ps[j]?.getD (0, ⟨#[]⟩)).2)
theorem back_stops (F : Fence) (n : Nat) (h48 : F.fn 48) (hro : F.round = none) (hn : 1 ≤ n) (Bs : Nat) (a : Option Addr) (b off len cap : Nat) (ps : List (Int × ByteArray)) (w : World) (hBs : Bs < w.heap.size) (hb : 0 < len → b < w.heap.size) (hreach : len ≤ 2147483648) (hcap : len ≤ cap) (ha : 0 < len → a = some ⟨b, off, none⟩)
    (hs : w.cell? ⟨Bs, 0, none⟩ = some (.slice a len cap)) (hp : PutsAt w b off len ps) :
    SeqStopsK F n Tryd.prog 48 #[.pointer (some ⟨Bs, 0, none⟩)] (fun x : Nat => #[Value.int .i64 (x : Int), putV ps x]) (KpS [Bs, b]) (fun ys => ys = came len len) (fun pre => ∃ k, k ≤ len ∧ pre = came len k) len w :=
  fun l J Jx W hW _ _ hY h0 => back1_in F n h48 hro hn l Bs a b off len cap ps [Bs, b] (by simp) (by simp) hreach hcap ha J Jx hY W ((hW.cell (p := ⟨Bs, 0, none⟩) hBs).trans hs)
    (fun j hj => (hW.cell (p := ⟨b, _, none⟩) (hb (by omega))).trans (hp.at_ j hj)) (fun j hj => (hW.cell (p := ⟨b, _, none⟩) (hb (by omega))).trans (hp.b_ j hj)) h0
set_option maxRecDepth 100000 in
set_option maxHeartbeats 4000000 in
theorem there_in (F : Fence) (n : Nat) (h38 : F.fn 38) (hro : F.round = none) (la : Option Addr) (ln lc : Nat) (wa : Option Addr) (wn wc : Nat) (arm : Int) (down : Bool) (i : Int) (w : World) (hl1 : ln ≤ 2147483648) :
    CallsIn F n Tryd.prog 38 #[.agg #[.slice la ln lc, .slice wa wn wc, .int .i64 arm, .bool down], .int .i64 i] w fun e w' => e = .returned (.bool (!down && (decide (0 ≤ i) && decide (i < (ln : Int))))) ∧ Below w.heap.size w w' := by
  refine callsIn_of_wp Tryd.func38 rfl h38 ?_ hro
  simp only [Tryd.ntmps38, List.size_toArray, List.length_cons, List.length_nil, Nat.reduceAdd, Nat.reduceSub, Array.replicate_succ, Array.replicate_zero, List.push_toArray, List.append_toArray, List.nil_append, List.cons_append]
  cases down
  all_goals gi_wp2
  all_goals refine bodyPost_ret (results_tmp rfl _ _ _) rfl ?_
  · have h0 : 0 ≤ i := by assumption
    exact ⟨by simp [h0], (Below.refl _ w).alloc (Nat.le_refl _) _⟩
  · have h0 : ¬ 0 ≤ i := by omega
    exact ⟨by simp [h0], (Below.refl _ w).alloc (Nat.le_refl _) _⟩
  · exact ⟨by simp, (Below.refl _ w).alloc (Nat.le_refl _) _⟩
theorem there_is (F : Fence) (n : Nat) (h38 : F.fn 38) (hro : F.round = none) (la : Option Addr) (ln lc : Nat) (wa : Option Addr) (wn wc : Nat) (arm : Int) (down : Bool) (i : Int) (w : World) (hl1 : ln ≤ 2147483648) (x : Bool) (hx : (!down && (decide (0 ≤ i) && decide (i < (ln : Int)))) = x) :
    CallsIn F n Tryd.prog 38 #[.agg #[.slice la ln lc, .slice wa wn wc, .int .i64 arm, .bool down], .int .i64 i] w fun e w' => e = .returned (.bool x) ∧ Below w.heap.size w w' := by
  rw [← hx]
  exact there_in F n h38 hro la ln lc wa wn wc arm down i w hl1
theorem world1 {w w1 : World} {la wa : Option Addr} {ln lc wn wc : Nat} {arm i : Int} {down : Bool}
    (hB1 : Below ((((w.alloc (.cells #[.slice la ln lc, .slice wa wn wc, .int .i64 arm, .bool down] 28)).alloc (.cells #[.int .i64 i] 3)).alloc (.cells #[.string ⟨#[]⟩] 9)).alloc (.cells #[.bool false] 4)).heap.size ((((w.alloc (.cells #[.slice la ln lc, .slice wa wn wc, .int .i64 arm, .bool down] 28)).alloc (.cells #[.int .i64 i] 3)).alloc (.cells #[.string ⟨#[]⟩] 9)).alloc (.cells #[.bool false] 4)) w1) :
    w1.heap[w.heap.size]? = some (.cells #[.slice la ln lc, .slice wa wn wc, .int .i64 arm, .bool down] 28 (0, 0)) ∧ Boxed w1 (w.heap.size + 1) 3 (.int .i64 i) ∧ Boxed w1 (w.heap.size + 1 + 1) 9 (.string ⟨#[]⟩) ∧ Boxed w1 (w.heap.size + 1 + 1 + 1) 4 (.bool false) ∧ Below w.heap.size w w1 ∧ w.heap.size + 4 ≤ w1.heap.size := by
  have hD := World.alloc_heap_new w (.cells #[.slice la ln lc, .slice wa wn wc, .int .i64 arm, .bool down] 28)
  have hI := ((Boxed.new (w.alloc (.cells #[.slice la ln lc, .slice wa wn wc, .int .i64 arm, .bool down] 28)) 3 (.int .i64 i)).alloc (.cells #[.string ⟨#[]⟩] 9)).alloc (.cells #[.bool false] 4)
  have hS := (Boxed.new ((w.alloc (.cells #[.slice la ln lc, .slice wa wn wc, .int .i64 arm, .bool down] 28)).alloc (.cells #[.int .i64 i] 3)) 9 (.string ⟨#[]⟩)).alloc (.cells #[.bool false] 4)
  have hO := Boxed.new (((w.alloc (.cells #[.slice la ln lc, .slice wa wn wc, .int .i64 arm, .bool down] 28)).alloc (.cells #[.int .i64 i] 3)).alloc (.cells #[.string ⟨#[]⟩] 9)) 4 (.bool false)
  have hBw : Below w.heap.size w ((((w.alloc (.cells #[.slice la ln lc, .slice wa wn wc, .int .i64 arm, .bool down] 28)).alloc (.cells #[.int .i64 i] 3)).alloc (.cells #[.string ⟨#[]⟩] 9)).alloc (.cells #[.bool false] 4)) := ((((Below.refl _ w).alloc (Nat.le_refl _) _).alloc (by simp <;> omega) _).alloc (by simp <;> omega) _).alloc (by simp <;> omega) _
  have hB2 := hBw.trans (hB1.mono hBw.size)
  have hz := hB1.size
  simp only [World.size_alloc] at hS hO hI hB1 hz
  exact ⟨(hB1.block _ (by omega)).trans ((Below.heap_alloc _ _ _ (by simp <;> omega)).trans ((Below.heap_alloc _ _ _ (by simp <;> omega)).trans ((Below.heap_alloc _ _ _ (by simp <;> omega)).trans hD))), (hB1.block _ (by omega)).trans hI, (hB1.block _ (by omega)).trans hS, (hB1.block _ (by omega)).trans hO, hB2, by omega⟩
theorem KpS.of_below {ks : List Nat} {W W' : World} {m : Nat} (h : Below m W W') (hks : ∀ k ∈ ks, k < m) : KpS ks W W' := ⟨h.size, fun b hb => h.block b (hks b hb)⟩
def readV (ls : List ByteArray) (ps : List (Int × ByteArray)) (down : Bool) (i : Int) (s : ByteArray) (b : Bool) : Prop :=
  (b = false ∧ s = ⟨#[]⟩ ∧ (!down && (decide (0 ≤ i) && decide (i < (ls.length : Int)))) = false) ∨
  (b = true ∧ (!down && (decide (0 ≤ i) && decide (i < (ls.length : Int)))) = true ∧
    ((∃ m, m < ps.length ∧ (ps[m]?.getD (0, ⟨#[]⟩)).1 = i ∧ s = (ps[m]?.getD (0, ⟨#[]⟩)).2 ∧ ∀ j, m < j → j < ps.length → (ps[j]?.getD (0, ⟨#[]⟩)).1 ≠ i) ∨ ((∀ j, j < ps.length → (ps[j]?.getD (0, ⟨#[]⟩)).1 ≠ i) ∧ ls[i.toNat]? = some s)))
theorem came_mem {n k x : Nat} (hk : k ≤ n) : x ∈ came n k ↔ n - k ≤ x ∧ x < n := by
  induction k with
  | zero => simp [came] <;> omega
  | succ k ih => rw [came_succ (by omega), List.mem_append, ih (by omega), List.mem_singleton]; omega
set_option maxRecDepth 100000 in
set_option maxHeartbeats 4000000 in
theorem read_in (F : Fence) (n : Nat) (h35 : F.fn 35) (h38 : F.fn 38) (h40 : F.fn 40) (h48 : F.fn 48) (hro : F.round = none) (hn : 3 ≤ n) (la : Option Addr) (lb lo ln lc : Nat) (wa : Option Addr) (wb wo wn wc : Nat) (arm : Int) (down : Bool) (i : Int) (ls : List ByteArray) (ps : List (Int × ByteArray)) (w : World)
    (hln : ls.length = ln) (hl1 : ln ≤ 2147483648) (hl2 : ln ≤ lc) (hla : 0 < ln → la = some ⟨lb, lo, none⟩) (hlb : 0 < ln → lb < w.heap.size) (hlc : ∀ (j : Nat) x, ls[j]? = some x → w.cell? ⟨lb, lo + j, none⟩ = some (.string x))
    (hwn : ps.length = wn) (hw1 : wn ≤ 2147483648) (hw2 : wn ≤ wc) (hwa : 0 < wn → wa = some ⟨wb, wo, none⟩) (hwb : 0 < wn → wb < w.heap.size) (hwb2 : wb ≤ w.heap.size) (hwc : PutsAt w wb wo wn ps) :
    CallsIn F n Tryd.prog 35 #[.agg #[.slice la ln lc, .slice wa wn wc, .int .i64 arm, .bool down], .int .i64 i] w fun e w' => (∃ s b, e = .returned (.tuple #[.string s, .bool b]) ∧ readV ls ps down i s b) ∧ Below w.heap.size w w' := by
  have h1 : 1 ≤ n := by omega
  refine callsIn_of_wp_marks Tryd.func35 rfl h35 ?_ hro
  simp only [Tryd.ntmps35, List.size_toArray, List.length_cons, List.length_nil, Nat.reduceAdd, Nat.reduceSub, Array.replicate_succ, Array.replicate_zero, List.push_toArray, List.append_toArray, List.nil_append, List.cons_append]
  cases hth : (!down && (decide (0 ≤ i) && decide (i < (ln : Int)))) with
  | false =>
    gi_wp2_with (gi_at_call 38; refine (there_is F (n - 1) h38 hro _ _ _ _ _ _ _ _ _ _ hl1 _ hth).mono ?_; rintro e w1 ⟨rfl, hB1⟩; obtain ⟨hD1, hI1, hS1, hO1, hBw, hz⟩ := world1 hB1; have hSc := hS1.cell; have hSf := hS1.frozen; have hOc := hO1.cell; have hOf := hO1.frozen)
    refine ⟨.tuple #[.string ⟨#[]⟩, .bool false], ?_, ⟨⟨#[]⟩, false, rfl, .inl ⟨rfl, rfl, by rw [hln]; exact hth⟩⟩, (hBw.setCell (p := ⟨w.heap.size + 1 + 1, 0, none⟩) (by simp <;> omega) _).setCell (p := ⟨w.heap.size + 1 + 1 + 1, 0, none⟩) (by simp <;> omega) _⟩
    have hc4 := ((hS1.set (.string ⟨#[]⟩)).other (show w.heap.size + 1 + 1 ≠ w.heap.size + 1 + 1 + 1 by omega) (.bool false)).cell
    have hc5 := ((hO1.other (show w.heap.size + 1 + 1 + 1 ≠ w.heap.size + 1 + 1 by omega) (.string ⟨#[]⟩)).set (.bool false)).cell
    simp [results, Tryd.f35, go_sem, hc4, hc5]
  | true =>
    gi_wp2_with (first
      | (gi_at_call 38; refine (there_is F (n - 1) h38 hro _ _ _ _ _ _ _ _ _ _ hl1 _ hth).mono ?_; rintro e w1 ⟨rfl, hB1⟩; obtain ⟨hD1, hI1, hS1, hO1, hBw, hz⟩ := world1 hB1; have hDw : w1.cell? ⟨w.heap.size, 1, none⟩ = some (.slice wa wn wc) := (by simp [World.cell?, hD1]))
      | (gi_at_call 40; refine (back_in F (n - 1) h40 hro _ _ _ _).mono ?_; rintro e w' ⟨rfl, rfl⟩))
    have bN := Boxed.new w1 26 (.slice wa wn wc)
    obtain ⟨Wb, hWb⟩ : ∃ Wb, w1.alloc (.cells #[.slice wa wn wc] 26) = Wb := ⟨_, rfl⟩
    have hsz : Wb.heap.size = w1.heap.size + 1 := by rw [← hWb]; simp
    have hI2 := hI1.alloc (.cells #[.slice wa wn wc] 26)
    have hS2 := hS1.alloc (.cells #[.slice wa wn wc] 26)
    have hO2 := hO1.alloc (.cells #[.slice wa wn wc] 26)
    have hD2 := (Below.heap_alloc w1 (.cells #[.slice wa wn wc] 26) w.heap.size (by omega)).trans hD1
    have hBb : Below w.heap.size w (w1.alloc (.cells #[.slice wa wn wc] 26)) := hBw.alloc hBw.size _
    rw [hWb] at bN hI2 hS2 hO2 hD2 hBb ⊢
    have hpW : PutsAt Wb wb wo wn ps := ⟨fun j hj => (hBb.cell (p := ⟨wb, _, none⟩) (hwb (by omega))).trans (hwc.at_ j hj), fun j hj => (hBb.cell (p := ⟨wb, _, none⟩) (hwb (by omega))).trans (hwc.b_ j hj)⟩
    refine wpIn_rangeFunc_ownH hro h1 (gf := 48) (lb := #[.pointer (some ⟨w1.heap.size, 0, none⟩)]) rfl h48 (enters_of Tryd.func48 (by kernel_rfl) rfl)
      (back_stops F (n - 1) h48 hro (by omega) w1.heap.size wa wb wo wn wc ps Wb (by omega) (fun _ => by omega) hw1 hw2 hwa bN.cell hpW) (fun h k => KpS.trans h k) (fun W l o o' hl hh _ _ => KpS.putObj hl hh (fun k hk => by
        rcases List.mem_cons.1 hk with rfl | hk
        · omega
        · rw [List.mem_singleton.1 hk]; omega)) (Below.refl _ _) (fun _ => rfl)
      (fun pre W => (∀ x ∈ pre, (ps[x]?.getD (0, ⟨#[]⟩)).1 ≠ i) ∧ Below Wb.heap.size Wb W)
      (fun c pre W => (c = .ret ∧ ∃ ini last, pre = ini ++ [last] ∧ (∀ x ∈ ini, (ps[x]?.getD (0, ⟨#[]⟩)).1 ≠ i) ∧ (ps[last]?.getD (0, ⟨#[]⟩)).1 = i ∧ Boxed W (w.heap.size + 1 + 1) 9 (.string (ps[last]?.getD (0, ⟨#[]⟩)).2) ∧ Boxed W (w.heap.size + 1 + 1 + 1) 4 (.bool true)) ∧ Below w.heap.size w W)
      (OwnFrom.and (fun s A B row hs hg hr => hs) (ownFrom_below (Nat.le_refl _) (Nat.le_refl _)))
      (fun c => OwnFrom.and (Own.from (fun s A B row hs hg hr => by
        obtain ⟨hc, ini, last, e1, e2, e3, e4, e5⟩ := hs
        exact ⟨hc, ini, last, e1, e2, e3, boxed_own (β := Unit) _ _ (fun _ => Value.string (ps[last]?.getD (0, ⟨#[]⟩)).2) () A B row e4 hg hr, boxed_own (β := Unit) _ _ (fun _ => Value.bool true) () A B row e5 hg hr⟩) _) (ownFrom_below (Nat.le_refl _) hBb.size))
      ⟨(fun x hx => by cases hx), Below.refl _ _⟩
      (fun x a' W => ∃ Bx, Wb.heap.size ≤ Bx ∧ W.heap[Bx]? = some (.cells #[.int .i64 (ps[x]?.getD (0, ⟨#[]⟩)).1, .string (ps[x]?.getD (0, ⟨#[]⟩)).2] 37 (0, 0)) ∧ a' = { tmps := #[.agg #[.slice la ln lc, .slice wa wn wc, .int .i64 arm, .bool down], .int .i64 i, .pointer (some ⟨w.heap.size, 0, none⟩), .pointer (some ⟨w.heap.size + 1, 0, none⟩), .pointer (some ⟨w.heap.size + 1 + 1, 0, none⟩), .pointer (some ⟨w.heap.size + 1 + 1 + 1, 0, none⟩), undef, .pointer (some ⟨Bx, 0, none⟩), .agg #[.slice la ln lc, .slice wa wn wc, .int .i64 arm, .bool down], .int .i64 i, .bool true, .bool false, .pointer (some ⟨w.heap.size, 1, none⟩), .slice wa wn wc, .func (.func 48) #[] #[.pointer (some ⟨w1.heap.size, 0, none⟩)], .int .i64 (x : Int), putV ps x, undef, undef, undef, undef, undef, undef, undef, undef, undef, undef, undef], defers := [] })
      (fun x a' _ X Y row hs hg hr => by obtain ⟨Bx, e1, e2, e3⟩ := hs; exact ⟨Bx, e1, (grownBy_keeps_cells hg (fun r e => (hr r e).2) e2 rfl).trans e2, e3⟩)
      ?assign ?body ?done ?stop
    case assign =>
      rintro l pre x W K ⟨hne, hB⟩ hK
      unfold putV at hK ⊢
      gi_wp2
      have hks : ∀ k ∈ [w1.heap.size, wb], k < W.heap.size := by
        have := hB.size
        have := hBb.size
        intro k hk
        rcases List.mem_cons.1 hk with rfl | hk
        · omega
        · rw [List.mem_singleton.1 hk]; omega
      exact hK _ _ ((KeepsOthers.alloc _ _).from _) (KpS.of_below ((Below.refl W.heap.size W).alloc (Nat.le_refl _) _) hks) ⟨hne, hB.alloc hB.size _⟩ ⟨W.heap.size, hB.size, World.alloc_heap_new W _, rfl⟩
    case body =>
      rintro l pre x a' W hl ⟨r, hr⟩ ⟨hne, hB⟩ ⟨Bx, hBx, bX, rfl⟩ hlt
      unfold putV
      have hx0 : W.cell? ⟨Bx, 0, none⟩ = some (.int .i64 (ps[x]?.getD (0, ⟨#[]⟩)).1) := by simp [World.cell?, bX]
      have hx1 : W.cell? ⟨Bx, 1, none⟩ = some (.string (ps[x]?.getD (0, ⟨#[]⟩)).2) := by simp [World.cell?, bX]
      have hIW : Boxed W (w.heap.size + 1) 3 (.int .i64 i) := (hB.block _ (by omega)).trans hI2
      have hSW : Boxed W (w.heap.size + 1 + 1) 9 (.string ⟨#[]⟩) := (hB.block _ (by omega)).trans hS2
      have hOW : Boxed W (w.heap.size + 1 + 1 + 1) 4 (.bool false) := (hB.block _ (by omega)).trans hO2
      have hIc := hIW.cell
      have hSc := hSW.cell
      have hSf := hSW.frozen
      have hOc := hOW.cell
      have hOf := hOW.frozen
      have hBW := hBb.trans (hB.mono hBb.size)
      generalize hpa : (ps[x]?.getD (0, ⟨#[]⟩)).1 = pa at hx0
      generalize hpb : (ps[x]?.getD (0, ⟨#[]⟩)).2 = pb at hx1
      gi_wp2
      · have he : pa = i := eq_of_beq (by assumption)
        exact ⟨((KeepsOthers.setCell _ _ _).trans (KeepsOthers.setCell _ _ _)).from _, ⟨rfl, pre, x, rfl, hne, hpa.trans he, by rw [hpb]; exact (hSW.set (.string pb)).other (by omega) _, (hOW.other (by omega) _).set (.bool true)⟩, (hBW.setCell (p := ⟨w.heap.size + 1 + 1, 0, none⟩) (by simp <;> omega) _).setCell (p := ⟨w.heap.size + 1 + 1 + 1, 0, none⟩) (by simp <;> omega) _⟩
      · have he : ¬ pa = i := by
          have : (pa == i) = false := by assumption
          exact ne_of_beq_false this
        exact ⟨KeepsFrom.refl _ _, KpS.refl _ _, ⟨fun y hy => (List.mem_append.1 hy).elim (hne y) (fun e => by rw [List.mem_singleton.1 e, hpa]; exact he), hB⟩⟩
    case done =>
      rintro D ys W hD rfl ⟨hne, hB⟩ hK
      simp only [Bool.and_eq_true, decide_eq_true_eq] at hth
      obtain ⟨hdn, hi0, hi1⟩ := hth
      obtain ⟨m, rfl⟩ : ∃ m : Nat, i = (m : Int) := ⟨i.toNat, (Int.toNat_of_nonneg hi0).symm⟩
      have hm : m < ln := by omega
      obtain rfl := hla (by omega)
      obtain ⟨s, hs⟩ : ∃ s, ls[m]? = some s := ⟨_, List.getElem?_eq_getElem (by omega)⟩
      have hIW : Boxed W (w.heap.size + 1) 3 (.int .i64 (m : Int)) := (hB.block _ (by omega)).trans hI2
      have hSW : Boxed W (w.heap.size + 1 + 1) 9 (.string ⟨#[]⟩) := (hB.block _ (by omega)).trans hS2
      have hOW : Boxed W (w.heap.size + 1 + 1 + 1) 4 (.bool false) := (hB.block _ (by omega)).trans hO2
      have hDW := (hB.block _ (by omega)).trans hD2
      have hD0 : W.cell? ⟨w.heap.size, 0, none⟩ = some (.slice (some ⟨lb, lo, none⟩) ln lc) := by simp [World.cell?, hDW]
      have hBW := hBb.trans (hB.mono hBb.size)
      have hlW : W.cell? ⟨lb, lo + m, none⟩ = some (.string s) := (hBW.cell (p := ⟨lb, lo + m, none⟩) (hlb (by omega))).trans (hlc m s hs)
      have hIc := hIW.cell
      have hSc := hSW.cell
      have hSf := hSW.frozen
      have hOc := hOW.cell
      have hOf := hOW.frozen
      gi_wp2
      have hK' := ((KeepsOthers.setCell W ⟨w.heap.size + 1 + 1, 0, none⟩ (.string s)).trans (KeepsOthers.setCell _ ⟨w.heap.size + 1 + 1 + 1, 0, none⟩ (.bool true))).same D _ hK rfl
      refine ⟨by simp, .inl ⟨_, _, rfl, run_takeDeferred hK', ?_⟩⟩
      have hc4 := cell_kept ((hSW.set (.string s)).other (show w.heap.size + 1 + 1 ≠ w.heap.size + 1 + 1 + 1 by omega) (.bool true)).cell (grownBy_putObj' _ D (.deferred none)) (fun r e => by cases e; exact ⟨_, hK', rfl⟩)
      have hc5 := cell_kept ((hOW.other (show w.heap.size + 1 + 1 + 1 ≠ w.heap.size + 1 + 1 by omega) (.string s)).set (.bool true)).cell (grownBy_putObj' _ D (.deferred none)) (fun r e => by cases e; exact ⟨_, hK', rfl⟩)
      have hrv : readV ls ps down (m : Int) s true := .inr ⟨rfl, by rw [hln]; simp [hdn, hm], .inr ⟨fun j hj => hne j ((came_mem (Nat.le_refl _)).2 ⟨by omega, by omega⟩), by simpa using hs⟩⟩
      refine ⟨.tuple #[.string s, .bool true], ?_, (by first | exact ⟨s, true, rfl, hrv⟩ | exact ⟨s, .inr ⟨rfl, hrv⟩⟩), ?_⟩
      · simp [results, Tryd.f35, go_sem, hc4, hc5]
      · exact (((hBW.setCell (p := ⟨w.heap.size + 1 + 1, 0, none⟩) (by simp <;> omega) _).setCell (p := ⟨w.heap.size + 1 + 1 + 1, 0, none⟩) (by simp <;> omega) _)).trans (belowK_b (w := w) (Nat.le_refl _) _ D _ (.deferred none) (by have := hBb.size; omega) hK' rfl rfl)
    case stop =>
      rintro D c pre W hD ⟨k, hk, rfl⟩ ⟨⟨rfl, ini, last, e1, e2, e3, e4, e5⟩, hB⟩ hK
      gi_wp2
      refine ⟨by simp, .inl ⟨_, _, rfl, run_takeDeferred hK, ?_⟩⟩
      have hc4 := cell_kept e4.cell (grownBy_putObj' _ D (.deferred none)) (fun r e => by cases e; exact ⟨_, hK, rfl⟩)
      have hc5 := cell_kept e5.cell (grownBy_putObj' _ D (.deferred none)) (fun r e => by cases e; exact ⟨_, hK, rfl⟩)
      obtain ⟨k', rfl⟩ : ∃ k', k = k' + 1 := by
        cases k with
        | zero => simp [came] at e1
        | succ k' => exact ⟨k', rfl⟩
      rw [came_succ (by omega)] at e1
      obtain ⟨rfl, e6⟩ := List.append_inj' e1 rfl
      obtain rfl : wn - 1 - k' = last := by simpa using e6
      refine ⟨.tuple #[.string (ps[wn - 1 - k']?.getD (0, ⟨#[]⟩)).2, .bool true], ?_, ⟨_, true, rfl, .inr ⟨rfl, by rw [hln]; exact hth, .inl ⟨wn - 1 - k', by omega, e3, rfl, fun j h1 h2 => e2 j ((came_mem (by omega)).2 ⟨by omega, by omega⟩)⟩⟩⟩, ?_⟩
      · simp [results, Tryd.f35, go_sem, hc4, hc5]
      · exact hB.trans (belowK_b (w := w) (Nat.le_refl _) W D _ (.deferred none) (by have := hBb.size; omega) hK rfl rfl)
theorem slice_inv {w : World} {M : Nat → Prop} {e : Ty} {xs : List (I E.T e)} {cs : List Value} (h : CRep E w M (.slice e) xs cs) : ∃ a cap cs', cs = [.slice a xs.length cap] ∧ LRep E w M e xs cs' ∧ (xs = [] ∨ Mem w M a cs') ∧ xs.length ≤ lim ∧ xs.length ≤ cap := by
  cases h with
  | slice e xs a cap cs hl hm hn hc => exact ⟨a, cap, cs, rfl, hl, hm, hn, hc⟩
theorem put_cells {w : World} {M : Nat → Prop} (y : N.TPut) {c : List Value} (h : FRep E w M [.int .i64, .str] (y.At, y.B, ()) c) : ∃ s : ByteArray, s.data.toList = y.B ∧ c = [.int .i64 y.At, .string s] ∧ s.size ≤ lim := by
  obtain ⟨ya, yb⟩ := y
  cases h with
  | cons t ts x r' d1 d2 h1 h2 =>
    cases h1
    cases h2 with
    | cons t ts x r' d3 d4 h3 h4 =>
      cases h4
      cases h3 with
      | str s hs => exact ⟨s, rfl, rfl, hs⟩
theorem puts_cells {w : World} {M : Nat → Prop} {l : List (I E.T (.named 0))} {cs : List Value} (h : LRep E w M (.named 0) l cs) : ∃ ps : List (Int × ByteArray), ps.map (fun p => (N.TPut.mk p.1 p.2.data.toList : I E.T (.named 0))) = l ∧
    ∀ j, j < ps.length → cs[j * 2]? = some (.int .i64 (ps[j]?.getD (0, ⟨#[]⟩)).1) ∧ cs[j * 2 + 1]? = some (.string (ps[j]?.getD (0, ⟨#[]⟩)).2) ∧ (ps[j]?.getD (0, ⟨#[]⟩)).2.size ≤ lim := by
  induction l generalizing cs with
  | nil => cases h; exact ⟨[], rfl, fun j hj => absurd hj (Nat.not_lt_zero j)⟩
  | cons y r ih =>
    cases h with
    | cons e x r c1 c2 h h' =>
      cases h with
      | named i x cs h =>
        obtain ⟨s, hs, rfl, hsz⟩ := put_cells (w := w) (M := M) y h
        obtain ⟨ps, h1, h2⟩ := ih h'
        refine ⟨((show N.TPut from y).At, s) :: ps, ?_, fun j hj => ?_⟩
        · rw [List.map_cons, h1]
          refine congrArg (· :: r) ?_
          show N.TPut.mk (N.TPut.At y) s.data.toList = y
          rw [hs]; rfl
        · cases j with
          | zero => exact ⟨rfl, rfl, hsz⟩
          | succ j =>
            have := h2 j (by simpa using hj)
            rw [show (j + 1) * 2 = j * 2 + 2 by omega, show j * 2 + 2 + 1 = (j * 2 + 1) + 2 by omega]
            exact this
def readS : List (DVal E.T) → Tree (Res E.T)
  | [.val (.named 1) d, .val (.int .i64) i] => .ret (.ret [.val .str (N.disk_Read d i).1, .val .bool (N.disk_Read d i).2])
  | _ => .fail
theorem read_ok : SpecOk Tryd.prog E 35 (.pure [.named 1, .int .i64] readS) := by
  refine ⟨Tryd.call35, fun {σ w ds us r} hst hds hr => ?_⟩
  unfold readS at hr
  split at hr
  · rename_i d i
    cases hr
    cases hds with
    | cons v r u us hd h2 =>
    cases h2 with
    | cons v r u2 us hi h3 =>
    cases h3
    have := intRep hi; subst this
    cases hd with
    | data t dd cs hvt =>
    cases hvt with
    | val t x cs hc =>
    cases hc with
    | named k x cs hf =>
    have hf : FRep E w (MB σ ([] : St E.T)) [.slice .str, .slice (.named 0), .int .i64, .bool] (d.Last, d.Wait, d.Arm, d.Down, ()) cs := hf
    cases hf with
    | cons t ts x r c1 c2 g1 g2 =>
    cases g2 with
    | cons t ts x r c3 c4 g3 g4 =>
    cases g4 with
    | cons t ts x r c5 c6 g5 g6 =>
    cases g6 with
    | cons t ts x r c7 c8 g7 g8 =>
    cases g8
    cases g5
    cases g7
    obtain ⟨la, lc, lcs, rfl, hl, hm, hn, hcap⟩ := slice_inv (e := .str) (xs := d.Last) g1
    obtain ⟨wa, wc, wcs, rfl, hwl, hwm, hwn, hwcap⟩ := slice_inv (e := .named 0) (xs := d.Wait) g3
    obtain ⟨ls, hls, hlcs, hlsz⟩ := strs_cells hl
    obtain ⟨ps, hps', hpcs⟩ := puts_cells hwl
    have hps : ps.map (fun p => N.TPut.mk p.1 p.2.data.toList) = d.Wait := hps'
    have hlen : ls.length = d.Last.length := by rw [← hls, List.length_map]
    have hwlen : ps.length = d.Wait.length := by rw [← hps, List.length_map]
    obtain ⟨lb, lo, hla, hlb, hlc⟩ : ∃ lb lo, (0 < d.Last.length → la = some ⟨lb, lo, none⟩) ∧ (0 < d.Last.length → lb < w.heap.size) ∧ ∀ (j : Nat) x, ls[j]? = some x → w.cell? ⟨lb, lo + j, none⟩ = some (.string x) := by
      rcases hm with h | ⟨lb, lo, rfl, _, hlt, hcell⟩
      · have h0 : ls = [] := List.eq_nil_of_length_eq_zero (by rw [hlen, h]; rfl)
        exact ⟨0, 0, fun h' => by rw [h] at h'; exact absurd h' (Nat.lt_irrefl 0), fun h' => by rw [h] at h'; exact absurd h' (Nat.lt_irrefl 0), fun j x hx => by rw [h0] at hx; cases hx⟩
      · exact ⟨lb, lo, fun _ => rfl, fun _ => hlt, fun j x hx => hcell j _ (by rw [hlcs, List.getElem?_map, hx]; rfl)⟩
    obtain ⟨wb, wo, hwa, hwb, hwb2, hwc⟩ : ∃ wb wo, (0 < d.Wait.length → wa = some ⟨wb, wo, none⟩) ∧ (0 < d.Wait.length → wb < w.heap.size) ∧ wb ≤ w.heap.size ∧ PutsAt w wb wo d.Wait.length ps := by
      rcases hwm with h | ⟨wb, wo, rfl, _, hlt, hcell⟩
      · exact ⟨0, 0, fun h' => by rw [h] at h'; exact absurd h' (Nat.lt_irrefl 0), fun h' => by rw [h] at h'; exact absurd h' (Nat.lt_irrefl 0), Nat.zero_le _, ⟨fun j hj => by rw [h] at hj; exact absurd hj (Nat.not_lt_zero j), fun j hj => by rw [h] at hj; exact absurd hj (Nat.not_lt_zero j)⟩⟩
      · exact ⟨wb, wo, fun _ => rfl, fun _ => hlt, Nat.le_of_lt hlt, ⟨fun j hj => hcell _ _ (hpcs j (by omega)).1, fun j hj => by rw [Nat.add_assoc]; exact hcell _ _ (hpcs j (by omega)).2.1⟩⟩
    have hcall := callsIn_wide.1 (read_in .wide 3 trivial trivial trivial trivial rfl (Nat.le_refl _) la lb lo d.Last.length lc wa wb wo d.Wait.length wc d.Arm d.Down i ls ps w hlen hn hcap hla hlb hlc hwlen hwn hwcap hwa hwb hwb2 hwc)
    refine Calls.mono hcall (fun en w' ⟨⟨s, b, he, hv⟩, hbel⟩ => ⟨σ, below_mf hst hbel, ?_⟩)
    rw [he]
    have hres : N.disk_Read d i = (s.data.toList, b) := by
      unfold N.disk_Read
      rcases hv with ⟨rfl, rfl, hc⟩ | ⟨rfl, hc, hor⟩
      · rw [hlen] at hc; rw [hc]; rfl
      · rw [hlen] at hc; rw [hc]
        simp only [cond_true]
        rcases hor with ⟨m, h1, h2, rfl, h4⟩ | ⟨h1, h2⟩
        · have hpm : ps[m]? = some ps[m] := List.getElem?_eq_getElem h1
          rw [hpm] at h2
          have hw : d.Wait[m]? = some (N.TPut.mk ps[m].1 ps[m].2.data.toList) := by rw [← hps, List.getElem?_map, hpm]; rfl
          rw [N.findW_some hw h2 (fun j q hj hq => by
            rw [← hps, List.getElem?_map] at hq
            obtain ⟨pj, hpj, rfl⟩ := Option.map_eq_some_iff.1 hq
            have := h4 j hj (List.getElem?_eq_some_iff.1 hpj).1
            rw [hpj] at this
            exact this), hpm]
          rfl
        · rw [N.findW_none (fun q hq => by
            rw [← hps] at hq
            obtain ⟨pj, hpj, rfl⟩ := List.mem_map.1 hq
            obtain ⟨j, hj, rfl⟩ := List.getElem_of_mem hpj
            have := h1 j hj
            rw [List.getElem?_eq_getElem hj] at this
            exact this)]
          have : d.Last[i.toNat]? = some s.data.toList := by rw [← hls, List.getElem?_map, h2]; rfl
          rw [List.getD_eq_getElem?_getD, this]; rfl
    have hsl : s.data.toList.length ≤ lim := by
      rcases hv with ⟨rfl, rfl, hc⟩ | ⟨rfl, hc, hor⟩
      · exact Nat.zero_le _
      · rcases hor with ⟨m, h1, h2, rfl, h4⟩ | ⟨h1, h2⟩
        · exact (hpcs m h1).2.2
        · exact hlsz s (List.mem_of_getElem? h2)
    show VRep E σ [] w' _ (.tup [.val .str (N.disk_Read d i).1, .val .bool (N.disk_Read d i).2]) _
    rw [hres]
    exact .tup _ [.string s, .bool b] (.cons _ _ _ _ (by have := str_val (E := E) (w := w') (σ := σ) (st := []) (M := MB σ ([] : St E.T)) hsl; simpa using this) (.cons _ _ _ _ (.data .bool _ _ (.val .bool b _ (.bool b))) .nil))
  · cases hr
noncomputable def P35 : Nat × D.Spec E := (35, .pure [.named 1, .int .i64] readS)
theorem p35 : SpecOk Tryd.prog E P35.1 P35.2 := read_ok
end Go.Proofs.YtddhfdbfackahaaDoor.J

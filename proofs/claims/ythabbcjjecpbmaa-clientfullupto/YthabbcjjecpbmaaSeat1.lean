/- A seat's types. The rows' measure. The library's functions at this seat. -/
import Derived.Test.YthabbcjjecpbmaaChecked
import Derived.Test.YthabbcjjecpbmaaBase5
import Derived.Test.YthabbcjjecpbmaaBase6
import Derived.KernelRfl
import Derived.Test.YthabbcjjecpbmaaRows
import Derived.WalkKit
import Derived.ProofKit
import Derived.OpenShut
import Derived.JoinedCond
import Derived.Shelf.Strings.Repeat
set_option linter.unusedVariables false
set_option maxRecDepth 100000
namespace Go.Proofs.Ythabbcjjecpbmaa.C
open Go Go.Proofs.Ythabbcjjecpbmaa.D

def tbl : List TK := [.other, .func, .data (.int .i64), .data (.int .i64), .data .bool, .data (.int .u8), .other, .other, .other, .data .str, .other, .other, .data (.int .u64), .other, .other, .other, .other, .other, .other, .other, .iface, .data (.int .i32), .func, .data (.slice (.named 1)), .data (.slice .str), .data (.slice (.named 0)), .data (.named 2), .data (.named 2), .data (.named 3), .data (.named 3), .data (.named 4), .data (.named 4), .func, .data (.slice (.int .i64)), .data (.int .i64), .data (.slice (.int .i64)), .data (.named 5), .data (.named 5), .data (.slice (.named 2)), .other, .func, .data (.named 6), .data (.named 6), .other, .func, .data (.slice (.int .u8)), .func, .data (.named 7), .data (.named 7), .data (.named 1), .data (.named 1), .func, .func, .func, .func, .ptr, .func, .func, .data (.named 8), .data (.named 8), .other, .func, .func, .func, .func, .func, .func, .func, .func, .func, .func, .func, .func, .func, .func, .func, .func, .func, .func, .func, .ptr, .func, .func, .func, .func, .ptr, .func, .ptr, .func, .func, .func, .func, .func, .data (.int .u16), .func, .func, .func, .data (.named 0), .data (.named 0), .func, .func, .data (.named 9), .data (.named 9), .other, .func, .func, .func, .func, .data (.named 10), .data (.named 10), .other, .data (.named 11), .data (.named 11), .func, .func, .func, .func, .ptr, .func, .func, .func, .func, .func, .other, .func, .other, .func, .other, .func, .func, .data (.named 10), .other, .func, .data (.named 10), .other, .func, .ptr, .func, .data (.int .u64), .func, .ptr, .data (.named 10), .func, .data (.named 10), .other, .other, .other, .func, .func, .ptr, .other, .other, .iface, .iface, .other, .func, .func, .data (.int .u32), .other, .func, .data (.int .u64), .other, .func, .ptr, .other, .other, .func, .other, .other, .other, .other, .other, .other, .other, .other, .other, .other, .other, .other]

def T : Nat → Type
  | 0 => N.TWrite
  | 1 => N.TCache
  | 2 => N.TAsk
  | 3 => N.TOut
  | 4 => N.TClient
  | 5 => N.TAns
  | 6 => N.TStep
  | 7 => N.TTell
  | 8 => N.Tclient_work
  | 9 => N.Tclient_told
  | 10 => N.TNil0
  | 11 => N.Tmsg_reader
  | _ + 12 => Unit
def fields : Nat → List Ty
  | 0 => [(.int .i64), .str]
  | 1 => [(.int .i64), (.int .i64), (.int .i64), .str, (.slice (.named 0)), (.int .i64), .bool, .bool]
  | 2 => [(.int .i64), (.int .i64), (.int .i64), (.int .i64), .str, (.int .i64), (.int .i64), (.slice (.named 0))]
  | 3 => [.bool, (.named 2), (.int .i64), (.int .i64)]
  | 4 => [(.int .i64), (.int .i64), (.int .i64), (.int .i64), (.slice (.named 1)), (.slice .str), (.named 3), (.int .i64), (.int .i64), (.int .i64)]
  | 5 => [(.int .i64), (.int .i64), .str]
  | 6 => [(.int .i64), (.int .i64), (.int .i64), (.int .i64), (.int .i64), (.int .i64), (.int .i64), .str, (.slice (.int .i64))]
  | 7 => [(.int .i64), (.int .i64), (.int .i64), (.int .i64), (.int .i64), (.int .i64), (.int .i64), (.int .i64), .str]
  | 8 => [(.named 4), (.slice (.named 2))]
  | 9 => [(.named 5)]
  | 10 => []
  | 11 => [(.slice (.int .u8))]
  | _ + 12 => []
def out : (i : Nat) → T i → HL T (fields i)
  | 0, x => (x.Off, x.B, ())
  | 1, x => (x.Mode, x.Until, x.Ver, x.Body, x.Dirty, x.Sent, x.Called, x.Lost, ())
  | 2, x => (x.Kind, x.From, x.Epoch, x.Seq, x.Name, x.File, x.Mode, x.Writes, ())
  | 3, x => (x.Is, x.Ask, x.First, x.Last, ())
  | 4, x => (x.ID, x.Now, x.Epoch, x.Seq, x.Files, x.Names, x.Out, x.Bad, x.Hits, x.Asks, ())
  | 5, x => (x.Err, x.File, x.Body, ())
  | 6, x => (x.Kind, x.R, x.By, x.File, x.Off, x.I, x.To, x.Text, x.Gains, ())
  | 7, x => (x.Kind, x.To, x.Epoch, x.Seq, x.Err, x.File, x.Mode, x.Ver, x.Body, ())
  | 8, x => (x.Client, x.asked, ())
  | 9, x => (x.a, ())
  | 10, _ => ()
  | 11, x => (x.b, ())
  | _ + 12, _ => ()
def into : (i : Nat) → HL T (fields i) → T i
  | 0, x => ⟨x.1, x.2.1⟩
  | 1, x => ⟨x.1, x.2.1, x.2.2.1, x.2.2.2.1, x.2.2.2.2.1, x.2.2.2.2.2.1, x.2.2.2.2.2.2.1, x.2.2.2.2.2.2.2.1⟩
  | 2, x => ⟨x.1, x.2.1, x.2.2.1, x.2.2.2.1, x.2.2.2.2.1, x.2.2.2.2.2.1, x.2.2.2.2.2.2.1, x.2.2.2.2.2.2.2.1⟩
  | 3, x => ⟨x.1, x.2.1, x.2.2.1, x.2.2.2.1⟩
  | 4, x => ⟨x.1, x.2.1, x.2.2.1, x.2.2.2.1, x.2.2.2.2.1, x.2.2.2.2.2.1, x.2.2.2.2.2.2.1, x.2.2.2.2.2.2.2.1, x.2.2.2.2.2.2.2.2.1, x.2.2.2.2.2.2.2.2.2.1⟩
  | 5, x => ⟨x.1, x.2.1, x.2.2.1⟩
  | 6, x => ⟨x.1, x.2.1, x.2.2.1, x.2.2.2.1, x.2.2.2.2.1, x.2.2.2.2.2.1, x.2.2.2.2.2.2.1, x.2.2.2.2.2.2.2.1, x.2.2.2.2.2.2.2.2.1⟩
  | 7, x => ⟨x.1, x.2.1, x.2.2.1, x.2.2.2.1, x.2.2.2.2.1, x.2.2.2.2.2.1, x.2.2.2.2.2.2.1, x.2.2.2.2.2.2.2.1, x.2.2.2.2.2.2.2.2.1⟩
  | 8, x => ⟨x.1, x.2.1⟩
  | 9, x => ⟨x.1⟩
  | 10, _ => ⟨⟩
  | 11, x => ⟨x.1⟩
  | _ + 12, _ => ()
def eqb : (i : Nat) → T i → T i → Bool
  | 0, x, y => N.TWrite.eqb x y
  | 1, x, y => N.TCache.eqb x y
  | 2, x, y => N.TAsk.eqb x y
  | 3, x, y => N.TOut.eqb x y
  | 4, x, y => N.TClient.eqb x y
  | 5, x, y => N.TAns.eqb x y
  | 6, x, y => N.TStep.eqb x y
  | 7, x, y => N.TTell.eqb x y
  | 8, x, y => N.Tclient_work.eqb x y
  | 9, x, y => N.Tclient_told.eqb x y
  | 10, x, y => N.TNil0.eqb x y
  | 11, x, y => N.Tmsg_reader.eqb x y
  | _ + 12, _, _ => true
def nsize : Nat → Nat
  | 0 => 2
  | 1 => 8
  | 2 => 8
  | 3 => 11
  | 4 => 20
  | 5 => 3
  | 6 => 9
  | 7 => 9
  | 8 => 21
  | 9 => 3
  | 10 => 0
  | 11 => 1
  | _ + 12 => 0
def cmpT : List Nat := [2, 3, 4, 5, 9, 12, 21, 34, 36, 37, 47, 48, 93, 97, 98, 101, 102, 108, 109, 130, 133, 138, 141, 143, 157, 160]

def E : Env where
  T := T
  fields := fields
  out := out
  into := into
  eqb := eqb
  nsize := nsize
  tk := fun t => nth tbl t .other
  cmp := fun t => memB cmpT t

theorem into_out : ∀ i x, E.into i (E.out i x) = x
  | 0, _ => rfl
  | 1, _ => rfl
  | 2, _ => rfl
  | 3, _ => rfl
  | 4, _ => rfl
  | 5, _ => rfl
  | 6, _ => rfl
  | 7, _ => rfl
  | 8, _ => rfl
  | 9, _ => rfl
  | 10, _ => rfl
  | 11, _ => rfl
  | _ + 12, _ => rfl
theorem out_into : ∀ i r, E.out i (E.into i r) = r
  | 0, _ => rfl
  | 1, _ => rfl
  | 2, _ => rfl
  | 3, _ => rfl
  | 4, _ => rfl
  | 5, _ => rfl
  | 6, _ => rfl
  | 7, _ => rfl
  | 8, _ => rfl
  | 9, _ => rfl
  | 10, _ => rfl
  | 11, _ => rfl
  | _ + 12, () => rfl
theorem nsize_ok : ∀ i, E.nsize i = ((E.fields i).map E.size).sum
  | 0 => rfl
  | 1 => rfl
  | 2 => rfl
  | 3 => rfl
  | 4 => rfl
  | 5 => rfl
  | 6 => rfl
  | 7 => rfl
  | 8 => rfl
  | 9 => rfl
  | 10 => rfl
  | 11 => rfl
  | _ + 12 => rfl
theorem eqb_ok : ∀ i x y, E.eqb i x y = eqHL E (E.fields i) (E.out i x) (E.out i y)
  | 0, _, _ => rfl
  | 1, _, _ => rfl
  | 2, _, _ => rfl
  | 3, _, _ => rfl
  | 4, _, _ => rfl
  | 5, _, _ => rfl
  | 6, _, _ => rfl
  | 7, _, _ => rfl
  | 8, _, _ => rfl
  | 9, _, _ => rfl
  | 10, _, _ => rfl
  | 11, _, _ => rfl
  | _ + 12, _, _ => rfl
theorem ok : EnvOk E := ⟨into_out, out_into, nsize_ok⟩

theorem cmp_ok : ∀ t, E.cmp t = true → Try.prog.eqGuardType Try.prog.depth t = false ∧ Try.prog.stoodInHeld t = false ∧ ∀ fs, Try.prog.underlying t = some (.struct fs) → ∀ f ∈ fs.toList, E.cmp f.type = true :=
  cmp_of Try.prog cmpT (by kernel_rfl)

theorem sound : Sound Try.prog E := by
  refine sound_of ok eqb_ok cmp_ok tbl (fun _ => rfl) ?_
  have t2 : TyM Try.prog E 2 (.int .i64) := tym_of (i := Try.t2) (by kernel_rfl) (by kernel_rfl) (by decide) (by kernel_rfl) (Try.underlying2) (by kernel_rfl)
  have t3 : TyM Try.prog E 3 (.int .i64) := tym_of (i := Try.t3) (by kernel_rfl) (by kernel_rfl) (by decide) (by kernel_rfl) (Try.underlying3) (by kernel_rfl)
  have t4 : TyM Try.prog E 4 .bool := tym_of (i := Try.t4) (by kernel_rfl) (by kernel_rfl) (by decide) (by kernel_rfl) (Try.underlying4) (by kernel_rfl)
  have t5 : TyM Try.prog E 5 (.int .u8) := tym_of (i := Try.t5) (by kernel_rfl) (by kernel_rfl) (by decide) (by kernel_rfl) (Try.underlying5) (by kernel_rfl)
  have t9 : TyM Try.prog E 9 .str := tym_of (i := Try.t9) (by kernel_rfl) (by kernel_rfl) (by decide) (by kernel_rfl) (Try.underlying9) (by kernel_rfl)
  have t12 : TyM Try.prog E 12 (.int .u64) := tym_of (i := Try.t12) (by kernel_rfl) (by kernel_rfl) (by decide) (by kernel_rfl) (Try.underlying12) (by kernel_rfl)
  have t21 : TyM Try.prog E 21 (.int .i32) := tym_of (i := Try.t21) (by kernel_rfl) (by kernel_rfl) (by decide) (by kernel_rfl) (Try.underlying21) (by kernel_rfl)
  have t23 : TyM Try.prog E 23 (.slice (.named 1)) := tym_of (i := Try.t23) (by kernel_rfl) (by kernel_rfl) (by decide) (by kernel_rfl) (⟨_, Try.underlying23, rfl⟩) (by kernel_rfl)
  have t24 : TyM Try.prog E 24 (.slice .str) := tym_of (i := Try.t24) (by kernel_rfl) (by kernel_rfl) (by decide) (by kernel_rfl) (⟨_, Try.underlying24, rfl⟩) (by kernel_rfl)
  have t25 : TyM Try.prog E 25 (.slice (.named 0)) := tym_of (i := Try.t25) (by kernel_rfl) (by kernel_rfl) (by decide) (by kernel_rfl) (⟨_, Try.underlying25, rfl⟩) (by kernel_rfl)
  have t26 : TyM Try.prog E 26 (.named 2) := tym_of (i := Try.t26) (by kernel_rfl) (by kernel_rfl) (by decide) (by kernel_rfl) (⟨_, Try.underlying26, rfl, flds_all ⟨⟨_, rfl, rfl, rfl, by decide, by decide⟩, ⟨_, rfl, rfl, rfl, by decide, by decide⟩, ⟨_, rfl, rfl, rfl, by decide, by decide⟩, ⟨_, rfl, rfl, rfl, by decide, by decide⟩, ⟨_, rfl, rfl, rfl, by decide, by decide⟩, ⟨_, rfl, rfl, rfl, by decide, by decide⟩, ⟨_, rfl, rfl, rfl, by decide, by decide⟩, ⟨_, rfl, rfl, rfl, by decide, by decide⟩, trivial⟩⟩) (by kernel_rfl)
  have t27 : TyM Try.prog E 27 (.named 2) := tym_of (i := Try.t27) (by kernel_rfl) (by kernel_rfl) (by decide) (by kernel_rfl) (⟨_, Try.underlying27, rfl, flds_all ⟨⟨_, rfl, rfl, rfl, by decide, by decide⟩, ⟨_, rfl, rfl, rfl, by decide, by decide⟩, ⟨_, rfl, rfl, rfl, by decide, by decide⟩, ⟨_, rfl, rfl, rfl, by decide, by decide⟩, ⟨_, rfl, rfl, rfl, by decide, by decide⟩, ⟨_, rfl, rfl, rfl, by decide, by decide⟩, ⟨_, rfl, rfl, rfl, by decide, by decide⟩, ⟨_, rfl, rfl, rfl, by decide, by decide⟩, trivial⟩⟩) (by kernel_rfl)
  have t28 : TyM Try.prog E 28 (.named 3) := tym_of (i := Try.t28) (by kernel_rfl) (by kernel_rfl) (by decide) (by kernel_rfl) (⟨_, Try.underlying28, rfl, flds_all ⟨⟨_, rfl, rfl, rfl, by decide, by decide⟩, ⟨_, rfl, rfl, rfl, by decide, by decide⟩, ⟨_, rfl, rfl, rfl, by decide, by decide⟩, ⟨_, rfl, rfl, rfl, by decide, by decide⟩, trivial⟩⟩) (by kernel_rfl)
  have t29 : TyM Try.prog E 29 (.named 3) := tym_of (i := Try.t29) (by kernel_rfl) (by kernel_rfl) (by decide) (by kernel_rfl) (⟨_, Try.underlying29, rfl, flds_all ⟨⟨_, rfl, rfl, rfl, by decide, by decide⟩, ⟨_, rfl, rfl, rfl, by decide, by decide⟩, ⟨_, rfl, rfl, rfl, by decide, by decide⟩, ⟨_, rfl, rfl, rfl, by decide, by decide⟩, trivial⟩⟩) (by kernel_rfl)
  have t30 : TyM Try.prog E 30 (.named 4) := tym_of (i := Try.t30) (by kernel_rfl) (by kernel_rfl) (by decide) (by kernel_rfl) (⟨_, Try.underlying30, rfl, flds_all ⟨⟨_, rfl, rfl, rfl, by decide, by decide⟩, ⟨_, rfl, rfl, rfl, by decide, by decide⟩, ⟨_, rfl, rfl, rfl, by decide, by decide⟩, ⟨_, rfl, rfl, rfl, by decide, by decide⟩, ⟨_, rfl, rfl, rfl, by decide, by decide⟩, ⟨_, rfl, rfl, rfl, by decide, by decide⟩, ⟨_, rfl, rfl, rfl, by decide, by decide⟩, ⟨_, rfl, rfl, rfl, by decide, by decide⟩, ⟨_, rfl, rfl, rfl, by decide, by decide⟩, ⟨_, rfl, rfl, rfl, by decide, by decide⟩, trivial⟩⟩) (by kernel_rfl)
  have t31 : TyM Try.prog E 31 (.named 4) := tym_of (i := Try.t31) (by kernel_rfl) (by kernel_rfl) (by decide) (by kernel_rfl) (⟨_, Try.underlying31, rfl, flds_all ⟨⟨_, rfl, rfl, rfl, by decide, by decide⟩, ⟨_, rfl, rfl, rfl, by decide, by decide⟩, ⟨_, rfl, rfl, rfl, by decide, by decide⟩, ⟨_, rfl, rfl, rfl, by decide, by decide⟩, ⟨_, rfl, rfl, rfl, by decide, by decide⟩, ⟨_, rfl, rfl, rfl, by decide, by decide⟩, ⟨_, rfl, rfl, rfl, by decide, by decide⟩, ⟨_, rfl, rfl, rfl, by decide, by decide⟩, ⟨_, rfl, rfl, rfl, by decide, by decide⟩, ⟨_, rfl, rfl, rfl, by decide, by decide⟩, trivial⟩⟩) (by kernel_rfl)
  have t33 : TyM Try.prog E 33 (.slice (.int .i64)) := tym_of (i := Try.t33) (by kernel_rfl) (by kernel_rfl) (by decide) (by kernel_rfl) (⟨_, Try.underlying33, rfl⟩) (by kernel_rfl)
  have t34 : TyM Try.prog E 34 (.int .i64) := tym_of (i := Try.t34) (by kernel_rfl) (by kernel_rfl) (by decide) (by kernel_rfl) (Try.underlying34) (by kernel_rfl)
  have t35 : TyM Try.prog E 35 (.slice (.int .i64)) := tym_of (i := Try.t35) (by kernel_rfl) (by kernel_rfl) (by decide) (by kernel_rfl) (⟨_, Try.underlying35, rfl⟩) (by kernel_rfl)
  have t36 : TyM Try.prog E 36 (.named 5) := tym_of (i := Try.t36) (by kernel_rfl) (by kernel_rfl) (by decide) (by kernel_rfl) (⟨_, Try.underlying36, rfl, flds_all ⟨⟨_, rfl, rfl, rfl, by decide, by decide⟩, ⟨_, rfl, rfl, rfl, by decide, by decide⟩, ⟨_, rfl, rfl, rfl, by decide, by decide⟩, trivial⟩⟩) (by kernel_rfl)
  have t37 : TyM Try.prog E 37 (.named 5) := tym_of (i := Try.t37) (by kernel_rfl) (by kernel_rfl) (by decide) (by kernel_rfl) (⟨_, Try.underlying37, rfl, flds_all ⟨⟨_, rfl, rfl, rfl, by decide, by decide⟩, ⟨_, rfl, rfl, rfl, by decide, by decide⟩, ⟨_, rfl, rfl, rfl, by decide, by decide⟩, trivial⟩⟩) (by kernel_rfl)
  have t38 : TyM Try.prog E 38 (.slice (.named 2)) := tym_of (i := Try.t38) (by kernel_rfl) (by kernel_rfl) (by decide) (by kernel_rfl) (⟨_, Try.underlying38, rfl⟩) (by kernel_rfl)
  have t41 : TyM Try.prog E 41 (.named 6) := tym_of (i := Try.t41) (by kernel_rfl) (by kernel_rfl) (by decide) (by kernel_rfl) (⟨_, Try.underlying41, rfl, flds_all ⟨⟨_, rfl, rfl, rfl, by decide, by decide⟩, ⟨_, rfl, rfl, rfl, by decide, by decide⟩, ⟨_, rfl, rfl, rfl, by decide, by decide⟩, ⟨_, rfl, rfl, rfl, by decide, by decide⟩, ⟨_, rfl, rfl, rfl, by decide, by decide⟩, ⟨_, rfl, rfl, rfl, by decide, by decide⟩, ⟨_, rfl, rfl, rfl, by decide, by decide⟩, ⟨_, rfl, rfl, rfl, by decide, by decide⟩, ⟨_, rfl, rfl, rfl, by decide, by decide⟩, trivial⟩⟩) (by kernel_rfl)
  have t42 : TyM Try.prog E 42 (.named 6) := tym_of (i := Try.t42) (by kernel_rfl) (by kernel_rfl) (by decide) (by kernel_rfl) (⟨_, Try.underlying42, rfl, flds_all ⟨⟨_, rfl, rfl, rfl, by decide, by decide⟩, ⟨_, rfl, rfl, rfl, by decide, by decide⟩, ⟨_, rfl, rfl, rfl, by decide, by decide⟩, ⟨_, rfl, rfl, rfl, by decide, by decide⟩, ⟨_, rfl, rfl, rfl, by decide, by decide⟩, ⟨_, rfl, rfl, rfl, by decide, by decide⟩, ⟨_, rfl, rfl, rfl, by decide, by decide⟩, ⟨_, rfl, rfl, rfl, by decide, by decide⟩, ⟨_, rfl, rfl, rfl, by decide, by decide⟩, trivial⟩⟩) (by kernel_rfl)
  have t45 : TyM Try.prog E 45 (.slice (.int .u8)) := tym_of (i := Try.t45) (by kernel_rfl) (by kernel_rfl) (by decide) (by kernel_rfl) (⟨_, Try.underlying45, rfl⟩) (by kernel_rfl)
  have t47 : TyM Try.prog E 47 (.named 7) := tym_of (i := Try.t47) (by kernel_rfl) (by kernel_rfl) (by decide) (by kernel_rfl) (⟨_, Try.underlying47, rfl, flds_all ⟨⟨_, rfl, rfl, rfl, by decide, by decide⟩, ⟨_, rfl, rfl, rfl, by decide, by decide⟩, ⟨_, rfl, rfl, rfl, by decide, by decide⟩, ⟨_, rfl, rfl, rfl, by decide, by decide⟩, ⟨_, rfl, rfl, rfl, by decide, by decide⟩, ⟨_, rfl, rfl, rfl, by decide, by decide⟩, ⟨_, rfl, rfl, rfl, by decide, by decide⟩, ⟨_, rfl, rfl, rfl, by decide, by decide⟩, ⟨_, rfl, rfl, rfl, by decide, by decide⟩, trivial⟩⟩) (by kernel_rfl)
  have t48 : TyM Try.prog E 48 (.named 7) := tym_of (i := Try.t48) (by kernel_rfl) (by kernel_rfl) (by decide) (by kernel_rfl) (⟨_, Try.underlying48, rfl, flds_all ⟨⟨_, rfl, rfl, rfl, by decide, by decide⟩, ⟨_, rfl, rfl, rfl, by decide, by decide⟩, ⟨_, rfl, rfl, rfl, by decide, by decide⟩, ⟨_, rfl, rfl, rfl, by decide, by decide⟩, ⟨_, rfl, rfl, rfl, by decide, by decide⟩, ⟨_, rfl, rfl, rfl, by decide, by decide⟩, ⟨_, rfl, rfl, rfl, by decide, by decide⟩, ⟨_, rfl, rfl, rfl, by decide, by decide⟩, ⟨_, rfl, rfl, rfl, by decide, by decide⟩, trivial⟩⟩) (by kernel_rfl)
  have t49 : TyM Try.prog E 49 (.named 1) := tym_of (i := Try.t49) (by kernel_rfl) (by kernel_rfl) (by decide) (by kernel_rfl) (⟨_, Try.underlying49, rfl, flds_all ⟨⟨_, rfl, rfl, rfl, by decide, by decide⟩, ⟨_, rfl, rfl, rfl, by decide, by decide⟩, ⟨_, rfl, rfl, rfl, by decide, by decide⟩, ⟨_, rfl, rfl, rfl, by decide, by decide⟩, ⟨_, rfl, rfl, rfl, by decide, by decide⟩, ⟨_, rfl, rfl, rfl, by decide, by decide⟩, ⟨_, rfl, rfl, rfl, by decide, by decide⟩, ⟨_, rfl, rfl, rfl, by decide, by decide⟩, trivial⟩⟩) (by kernel_rfl)
  have t50 : TyM Try.prog E 50 (.named 1) := tym_of (i := Try.t50) (by kernel_rfl) (by kernel_rfl) (by decide) (by kernel_rfl) (⟨_, Try.underlying50, rfl, flds_all ⟨⟨_, rfl, rfl, rfl, by decide, by decide⟩, ⟨_, rfl, rfl, rfl, by decide, by decide⟩, ⟨_, rfl, rfl, rfl, by decide, by decide⟩, ⟨_, rfl, rfl, rfl, by decide, by decide⟩, ⟨_, rfl, rfl, rfl, by decide, by decide⟩, ⟨_, rfl, rfl, rfl, by decide, by decide⟩, ⟨_, rfl, rfl, rfl, by decide, by decide⟩, ⟨_, rfl, rfl, rfl, by decide, by decide⟩, trivial⟩⟩) (by kernel_rfl)
  have t58 : TyM Try.prog E 58 (.named 8) := tym_of (i := Try.t58) (by kernel_rfl) (by kernel_rfl) (by decide) (by kernel_rfl) (⟨_, Try.underlying58, rfl, flds_all ⟨⟨_, rfl, rfl, rfl, by decide, by decide⟩, ⟨_, rfl, rfl, rfl, by decide, by decide⟩, trivial⟩⟩) (by kernel_rfl)
  have t59 : TyM Try.prog E 59 (.named 8) := tym_of (i := Try.t59) (by kernel_rfl) (by kernel_rfl) (by decide) (by kernel_rfl) (⟨_, Try.underlying59, rfl, flds_all ⟨⟨_, rfl, rfl, rfl, by decide, by decide⟩, ⟨_, rfl, rfl, rfl, by decide, by decide⟩, trivial⟩⟩) (by kernel_rfl)
  have t93 : TyM Try.prog E 93 (.int .u16) := tym_of (i := Try.t93) (by kernel_rfl) (by kernel_rfl) (by decide) (by kernel_rfl) (Try.underlying93) (by kernel_rfl)
  have t97 : TyM Try.prog E 97 (.named 0) := tym_of (i := Try.t97) (by kernel_rfl) (by kernel_rfl) (by decide) (by kernel_rfl) (⟨_, Try.underlying97, rfl, flds_all ⟨⟨_, rfl, rfl, rfl, by decide, by decide⟩, ⟨_, rfl, rfl, rfl, by decide, by decide⟩, trivial⟩⟩) (by kernel_rfl)
  have t98 : TyM Try.prog E 98 (.named 0) := tym_of (i := Try.t98) (by kernel_rfl) (by kernel_rfl) (by decide) (by kernel_rfl) (⟨_, Try.underlying98, rfl, flds_all ⟨⟨_, rfl, rfl, rfl, by decide, by decide⟩, ⟨_, rfl, rfl, rfl, by decide, by decide⟩, trivial⟩⟩) (by kernel_rfl)
  have t101 : TyM Try.prog E 101 (.named 9) := tym_of (i := Try.t101) (by kernel_rfl) (by kernel_rfl) (by decide) (by kernel_rfl) (⟨_, Try.underlying101, rfl, flds_all ⟨⟨_, rfl, rfl, rfl, by decide, by decide⟩, trivial⟩⟩) (by kernel_rfl)
  have t102 : TyM Try.prog E 102 (.named 9) := tym_of (i := Try.t102) (by kernel_rfl) (by kernel_rfl) (by decide) (by kernel_rfl) (⟨_, Try.underlying102, rfl, flds_all ⟨⟨_, rfl, rfl, rfl, by decide, by decide⟩, trivial⟩⟩) (by kernel_rfl)
  have t108 : TyM Try.prog E 108 (.named 10) := tym_of (i := Try.t108) (by kernel_rfl) (by kernel_rfl) (by decide) (by kernel_rfl) (⟨_, Try.underlying108, rfl, flds_all trivial⟩) (by kernel_rfl)
  have t109 : TyM Try.prog E 109 (.named 10) := tym_of (i := Try.t109) (by kernel_rfl) (by kernel_rfl) (by decide) (by kernel_rfl) (⟨_, Try.underlying109, rfl, flds_all trivial⟩) (by kernel_rfl)
  have t111 : TyM Try.prog E 111 (.named 11) := tym_of (i := Try.t111) (by kernel_rfl) (by kernel_rfl) (by decide) (by kernel_rfl) (⟨_, Try.underlying111, rfl, flds_all ⟨⟨_, rfl, rfl, rfl, by decide, by decide⟩, trivial⟩⟩) (by kernel_rfl)
  have t112 : TyM Try.prog E 112 (.named 11) := tym_of (i := Try.t112) (by kernel_rfl) (by kernel_rfl) (by decide) (by kernel_rfl) (⟨_, Try.underlying112, rfl, flds_all ⟨⟨_, rfl, rfl, rfl, by decide, by decide⟩, trivial⟩⟩) (by kernel_rfl)
  have t130 : TyM Try.prog E 130 (.named 10) := tym_of (i := Try.t130) (by kernel_rfl) (by kernel_rfl) (by decide) (by kernel_rfl) (⟨_, Try.underlying130, rfl, flds_all trivial⟩) (by kernel_rfl)
  have t133 : TyM Try.prog E 133 (.named 10) := tym_of (i := Try.t133) (by kernel_rfl) (by kernel_rfl) (by decide) (by kernel_rfl) (⟨_, Try.underlying133, rfl, flds_all trivial⟩) (by kernel_rfl)
  have t138 : TyM Try.prog E 138 (.int .u64) := tym_of (i := Try.t138) (by kernel_rfl) (by kernel_rfl) (by decide) (by kernel_rfl) (Try.underlying138) (by kernel_rfl)
  have t141 : TyM Try.prog E 141 (.named 10) := tym_of (i := Try.t141) (by kernel_rfl) (by kernel_rfl) (by decide) (by kernel_rfl) (⟨_, Try.underlying141, rfl, flds_all trivial⟩) (by kernel_rfl)
  have t143 : TyM Try.prog E 143 (.named 10) := tym_of (i := Try.t143) (by kernel_rfl) (by kernel_rfl) (by decide) (by kernel_rfl) (⟨_, Try.underlying143, rfl, flds_all trivial⟩) (by kernel_rfl)
  have t157 : TyM Try.prog E 157 (.int .u32) := tym_of (i := Try.t157) (by kernel_rfl) (by kernel_rfl) (by decide) (by kernel_rfl) (Try.underlying157) (by kernel_rfl)
  have t160 : TyM Try.prog E 160 (.int .u64) := tym_of (i := Try.t160) (by kernel_rfl) (by kernel_rfl) (by decide) (by kernel_rfl) (Try.underlying160) (by kernel_rfl)
  exact ⟨trivial, ⟨⟨_, _, _, Try.underlying1⟩, Try.t1, by kernel_rfl, by kernel_rfl, by kernel_rfl⟩, t2, t3, t4, t5, trivial, trivial, trivial, t9, trivial, trivial, t12, trivial, trivial, trivial, trivial, trivial, trivial, trivial, ⟨⟨_, Try.underlying20⟩, Try.t20, by kernel_rfl, by kernel_rfl, by kernel_rfl⟩, t21, ⟨⟨_, _, _, Try.underlying22⟩, Try.t22, by kernel_rfl, by kernel_rfl, by kernel_rfl⟩, t23, t24, t25, t26, t27, t28, t29, t30, t31, ⟨⟨_, _, _, Try.underlying32⟩, Try.t32, by kernel_rfl, by kernel_rfl, by kernel_rfl⟩, t33, t34, t35, t36, t37, t38, trivial, ⟨⟨_, _, _, Try.underlying40⟩, Try.t40, by kernel_rfl, by kernel_rfl, by kernel_rfl⟩, t41, t42, trivial, ⟨⟨_, _, _, Try.underlying44⟩, Try.t44, by kernel_rfl, by kernel_rfl, by kernel_rfl⟩, t45, ⟨⟨_, _, _, Try.underlying46⟩, Try.t46, by kernel_rfl, by kernel_rfl, by kernel_rfl⟩, t47, t48, t49, t50, ⟨⟨_, _, _, Try.underlying51⟩, Try.t51, by kernel_rfl, by kernel_rfl, by kernel_rfl⟩, ⟨⟨_, _, _, Try.underlying52⟩, Try.t52, by kernel_rfl, by kernel_rfl, by kernel_rfl⟩, ⟨⟨_, _, _, Try.underlying53⟩, Try.t53, by kernel_rfl, by kernel_rfl, by kernel_rfl⟩, ⟨⟨_, _, _, Try.underlying54⟩, Try.t54, by kernel_rfl, by kernel_rfl, by kernel_rfl⟩, ⟨⟨_, Try.underlying55⟩, Try.t55, by kernel_rfl, by kernel_rfl, by kernel_rfl⟩, ⟨⟨_, _, _, Try.underlying56⟩, Try.t56, by kernel_rfl, by kernel_rfl, by kernel_rfl⟩, ⟨⟨_, _, _, Try.underlying57⟩, Try.t57, by kernel_rfl, by kernel_rfl, by kernel_rfl⟩, t58, t59, trivial, ⟨⟨_, _, _, Try.underlying61⟩, Try.t61, by kernel_rfl, by kernel_rfl, by kernel_rfl⟩, ⟨⟨_, _, _, Try.underlying62⟩, Try.t62, by kernel_rfl, by kernel_rfl, by kernel_rfl⟩, ⟨⟨_, _, _, Try.underlying63⟩, Try.t63, by kernel_rfl, by kernel_rfl, by kernel_rfl⟩, ⟨⟨_, _, _, Try.underlying64⟩, Try.t64, by kernel_rfl, by kernel_rfl, by kernel_rfl⟩, ⟨⟨_, _, _, Try.underlying65⟩, Try.t65, by kernel_rfl, by kernel_rfl, by kernel_rfl⟩, ⟨⟨_, _, _, Try.underlying66⟩, Try.t66, by kernel_rfl, by kernel_rfl, by kernel_rfl⟩, ⟨⟨_, _, _, Try.underlying67⟩, Try.t67, by kernel_rfl, by kernel_rfl, by kernel_rfl⟩, ⟨⟨_, _, _, Try.underlying68⟩, Try.t68, by kernel_rfl, by kernel_rfl, by kernel_rfl⟩, ⟨⟨_, _, _, Try.underlying69⟩, Try.t69, by kernel_rfl, by kernel_rfl, by kernel_rfl⟩, ⟨⟨_, _, _, Try.underlying70⟩, Try.t70, by kernel_rfl, by kernel_rfl, by kernel_rfl⟩, ⟨⟨_, _, _, Try.underlying71⟩, Try.t71, by kernel_rfl, by kernel_rfl, by kernel_rfl⟩, ⟨⟨_, _, _, Try.underlying72⟩, Try.t72, by kernel_rfl, by kernel_rfl, by kernel_rfl⟩, ⟨⟨_, _, _, Try.underlying73⟩, Try.t73, by kernel_rfl, by kernel_rfl, by kernel_rfl⟩, ⟨⟨_, _, _, Try.underlying74⟩, Try.t74, by kernel_rfl, by kernel_rfl, by kernel_rfl⟩, ⟨⟨_, _, _, Try.underlying75⟩, Try.t75, by kernel_rfl, by kernel_rfl, by kernel_rfl⟩, ⟨⟨_, _, _, Try.underlying76⟩, Try.t76, by kernel_rfl, by kernel_rfl, by kernel_rfl⟩, ⟨⟨_, _, _, Try.underlying77⟩, Try.t77, by kernel_rfl, by kernel_rfl, by kernel_rfl⟩, ⟨⟨_, _, _, Try.underlying78⟩, Try.t78, by kernel_rfl, by kernel_rfl, by kernel_rfl⟩, ⟨⟨_, _, _, Try.underlying79⟩, Try.t79, by kernel_rfl, by kernel_rfl, by kernel_rfl⟩, ⟨⟨_, Try.underlying80⟩, Try.t80, by kernel_rfl, by kernel_rfl, by kernel_rfl⟩, ⟨⟨_, _, _, Try.underlying81⟩, Try.t81, by kernel_rfl, by kernel_rfl, by kernel_rfl⟩, ⟨⟨_, _, _, Try.underlying82⟩, Try.t82, by kernel_rfl, by kernel_rfl, by kernel_rfl⟩, ⟨⟨_, _, _, Try.underlying83⟩, Try.t83, by kernel_rfl, by kernel_rfl, by kernel_rfl⟩, ⟨⟨_, _, _, Try.underlying84⟩, Try.t84, by kernel_rfl, by kernel_rfl, by kernel_rfl⟩, ⟨⟨_, Try.underlying85⟩, Try.t85, by kernel_rfl, by kernel_rfl, by kernel_rfl⟩, ⟨⟨_, _, _, Try.underlying86⟩, Try.t86, by kernel_rfl, by kernel_rfl, by kernel_rfl⟩, ⟨⟨_, Try.underlying87⟩, Try.t87, by kernel_rfl, by kernel_rfl, by kernel_rfl⟩, ⟨⟨_, _, _, Try.underlying88⟩, Try.t88, by kernel_rfl, by kernel_rfl, by kernel_rfl⟩, ⟨⟨_, _, _, Try.underlying89⟩, Try.t89, by kernel_rfl, by kernel_rfl, by kernel_rfl⟩, ⟨⟨_, _, _, Try.underlying90⟩, Try.t90, by kernel_rfl, by kernel_rfl, by kernel_rfl⟩, ⟨⟨_, _, _, Try.underlying91⟩, Try.t91, by kernel_rfl, by kernel_rfl, by kernel_rfl⟩, ⟨⟨_, _, _, Try.underlying92⟩, Try.t92, by kernel_rfl, by kernel_rfl, by kernel_rfl⟩, t93, ⟨⟨_, _, _, Try.underlying94⟩, Try.t94, by kernel_rfl, by kernel_rfl, by kernel_rfl⟩, ⟨⟨_, _, _, Try.underlying95⟩, Try.t95, by kernel_rfl, by kernel_rfl, by kernel_rfl⟩, ⟨⟨_, _, _, Try.underlying96⟩, Try.t96, by kernel_rfl, by kernel_rfl, by kernel_rfl⟩, t97, t98, ⟨⟨_, _, _, Try.underlying99⟩, Try.t99, by kernel_rfl, by kernel_rfl, by kernel_rfl⟩, ⟨⟨_, _, _, Try.underlying100⟩, Try.t100, by kernel_rfl, by kernel_rfl, by kernel_rfl⟩, t101, t102, trivial, ⟨⟨_, _, _, Try.underlying104⟩, Try.t104, by kernel_rfl, by kernel_rfl, by kernel_rfl⟩, ⟨⟨_, _, _, Try.underlying105⟩, Try.t105, by kernel_rfl, by kernel_rfl, by kernel_rfl⟩, ⟨⟨_, _, _, Try.underlying106⟩, Try.t106, by kernel_rfl, by kernel_rfl, by kernel_rfl⟩, ⟨⟨_, _, _, Try.underlying107⟩, Try.t107, by kernel_rfl, by kernel_rfl, by kernel_rfl⟩, t108, t109, trivial, t111, t112, ⟨⟨_, _, _, Try.underlying113⟩, Try.t113, by kernel_rfl, by kernel_rfl, by kernel_rfl⟩, ⟨⟨_, _, _, Try.underlying114⟩, Try.t114, by kernel_rfl, by kernel_rfl, by kernel_rfl⟩, ⟨⟨_, _, _, Try.underlying115⟩, Try.t115, by kernel_rfl, by kernel_rfl, by kernel_rfl⟩, ⟨⟨_, _, _, Try.underlying116⟩, Try.t116, by kernel_rfl, by kernel_rfl, by kernel_rfl⟩, ⟨⟨_, Try.underlying117⟩, Try.t117, by kernel_rfl, by kernel_rfl, by kernel_rfl⟩, ⟨⟨_, _, _, Try.underlying118⟩, Try.t118, by kernel_rfl, by kernel_rfl, by kernel_rfl⟩, ⟨⟨_, _, _, Try.underlying119⟩, Try.t119, by kernel_rfl, by kernel_rfl, by kernel_rfl⟩, ⟨⟨_, _, _, Try.underlying120⟩, Try.t120, by kernel_rfl, by kernel_rfl, by kernel_rfl⟩, ⟨⟨_, _, _, Try.underlying121⟩, Try.t121, by kernel_rfl, by kernel_rfl, by kernel_rfl⟩, ⟨⟨_, _, _, Try.underlying122⟩, Try.t122, by kernel_rfl, by kernel_rfl, by kernel_rfl⟩, trivial, ⟨⟨_, _, _, Try.underlying124⟩, Try.t124, by kernel_rfl, by kernel_rfl, by kernel_rfl⟩, trivial, ⟨⟨_, _, _, Try.underlying126⟩, Try.t126, by kernel_rfl, by kernel_rfl, by kernel_rfl⟩, trivial, ⟨⟨_, _, _, Try.underlying128⟩, Try.t128, by kernel_rfl, by kernel_rfl, by kernel_rfl⟩, ⟨⟨_, _, _, Try.underlying129⟩, Try.t129, by kernel_rfl, by kernel_rfl, by kernel_rfl⟩, t130, trivial, ⟨⟨_, _, _, Try.underlying132⟩, Try.t132, by kernel_rfl, by kernel_rfl, by kernel_rfl⟩, t133, trivial, ⟨⟨_, _, _, Try.underlying135⟩, Try.t135, by kernel_rfl, by kernel_rfl, by kernel_rfl⟩, ⟨⟨_, Try.underlying136⟩, Try.t136, by kernel_rfl, by kernel_rfl, by kernel_rfl⟩, ⟨⟨_, _, _, Try.underlying137⟩, Try.t137, by kernel_rfl, by kernel_rfl, by kernel_rfl⟩, t138, ⟨⟨_, _, _, Try.underlying139⟩, Try.t139, by kernel_rfl, by kernel_rfl, by kernel_rfl⟩, ⟨⟨_, Try.underlying140⟩, Try.t140, by kernel_rfl, by kernel_rfl, by kernel_rfl⟩, t141, ⟨⟨_, _, _, Try.underlying142⟩, Try.t142, by kernel_rfl, by kernel_rfl, by kernel_rfl⟩, t143, trivial, trivial, trivial, ⟨⟨_, _, _, Try.underlying147⟩, Try.t147, by kernel_rfl, by kernel_rfl, by kernel_rfl⟩, ⟨⟨_, _, _, Try.underlying148⟩, Try.t148, by kernel_rfl, by kernel_rfl, by kernel_rfl⟩, ⟨⟨_, Try.underlying149⟩, Try.t149, by kernel_rfl, by kernel_rfl, by kernel_rfl⟩, trivial, trivial, ⟨⟨_, Try.underlying152⟩, Try.t152, by kernel_rfl, by kernel_rfl, by kernel_rfl⟩, ⟨⟨_, Try.underlying153⟩, Try.t153, by kernel_rfl, by kernel_rfl, by kernel_rfl⟩, trivial, ⟨⟨_, _, _, Try.underlying155⟩, Try.t155, by kernel_rfl, by kernel_rfl, by kernel_rfl⟩, ⟨⟨_, _, _, Try.underlying156⟩, Try.t156, by kernel_rfl, by kernel_rfl, by kernel_rfl⟩, t157, trivial, ⟨⟨_, _, _, Try.underlying159⟩, Try.t159, by kernel_rfl, by kernel_rfl, by kernel_rfl⟩, t160, trivial, ⟨⟨_, _, _, Try.underlying162⟩, Try.t162, by kernel_rfl, by kernel_rfl, by kernel_rfl⟩, ⟨⟨_, Try.underlying163⟩, Try.t163, by kernel_rfl, by kernel_rfl, by kernel_rfl⟩, trivial, trivial, ⟨⟨_, _, _, Try.underlying166⟩, Try.t166, by kernel_rfl, by kernel_rfl, by kernel_rfl⟩, trivial, trivial, trivial, trivial, trivial, trivial, trivial, trivial, trivial, trivial, trivial, trivial, trivial⟩
theorem mix : Try.prog.follows .mixedOrders = true := by kernel_rfl
end Go.Proofs.Ythabbcjjecpbmaa.C

set_option linter.unusedVariables false
set_option maxRecDepth 100000
namespace Go.Proofs.Ythabbcjjecpbmaa.C
open Go Go.Proofs.Ythabbcjjecpbmaa.D Go.ChangeShapes Go.RowKit
open Go.Proofs.Ythabbcjjecpbmaa

theorem one_le {H : Type} (d : DataW H) : 1 ≤ Rows.uptoBulk d := by
  cases d with
  | lit l => cases l <;> simp [Rows.uptoBulk]
  | nil => simp [Rows.uptoBulk]
  | ptr d => simp [Rows.uptoBulk]
  | slice elems spare => simp [Rows.uptoBulk]
  | agg parts => simp [Rows.uptoBulk]
  | iface t d => simp [Rows.uptoBulk]
  | map entries => simp [Rows.uptoBulk]
  | held h => simp [Rows.uptoBulk]

theorem part_le {H : Type} {d : DataW H} {l : List (DataW H)} (h : d ∈ l) : Rows.uptoBulk d ≤ Rows.uptoBulkAll l := by
  induction l with
  | nil => cases h
  | cons x r ih =>
    simp only [Rows.uptoBulkAll]
    cases List.mem_cons.1 h with
    | inl e => subst e; omega
    | inr e => have := ih e; omega

theorem length_le {H : Type} (l : List (DataW H)) : l.length ≤ Rows.uptoBulkAll l := by
  induction l with
  | nil => simp [Rows.uptoBulkAll]
  | cons x r ih => have := one_le x; simp only [Rows.uptoBulkAll, List.length_cons]; omega

theorem meas {H : Type} : Meas (Rows.uptoBulk (H := H)) where
  str := fun b => by simp [Rows.uptoBulk]
  len := fun l r => by have := length_le l; simp only [Rows.uptoBulk]; omega
  el := fun l r d h => by have := part_le h; simp only [Rows.uptoBulk]; omega
  part := fun l d h => by have := part_le h; simp only [Rows.uptoBulk]; omega

theorem own : ownKnob Try.prog.godebug = none := by kernel_rfl
theorem laid : laidOutB Try.prog = true := by kernel_rfl
theorem full : ∀ t e, t < Try.prog.types.size → Try.prog.underlying t = some (.slice e) → 0 < Try.prog.cellsOf e := fun t e => slices_full_of Try.prog (by kernel_rfl) t e
theorem tl : ∀ t, E.tk t ≠ .other → t < Try.prog.types.size := tbl_lt (tbl := tbl) (fun _ => rfl) (of_decide_eq_true (by kernel_rfl))
theorem bl : 1048576 ≤ lim := of_decide_eq_true (by kernel_rfl)

theorem small {H : Type} {ds : List (DataW H)} (hk : Rows.uptoSmall H (ds ++ []) = true) : ∀ d ∈ ds, Rows.uptoBulk d ≤ 1048576 := by
  rw [List.append_nil] at hk
  have h : Rows.uptoBulkAll ds ≤ 1048576 := of_decide_eq_true hk
  exact fun d hd => Nat.le_trans (part_le hd) h
end Go.Proofs.Ythabbcjjecpbmaa.C

set_option linter.unusedVariables false
set_option maxRecDepth 100000
namespace Go.Proofs.Ythabbcjjecpbmaa.C
open Go Go.Shelf Go.Proofs Go.Proofs.Ythabbcjjecpbmaa.D
def lays105_ren : Go.Shelf.Ren := ⟨fun | 105 => 90 | 212 => 91 | 99 => 92 | 165 => 93 | 166 => 94 | 170 => 95 | 169 => 96 | 263 => 97 | 264 => 98 | 206 => 99 | 240 => 100 | 241 => 101 | 276 => 102 | 277 => 103 | n => n, fun | 9 => 9 | 3 => 3 | 4 => 4 | 20 => 20 | 0 => 0 | 46 => 138 | 109 => 146 | 5 => 5 | 72 => 151 | 76 => 154 | 51 => 157 | 146 => 158 | 53 => 160 | 148 => 161 | 70 => 149 | 37 => 45 | 75 => 153 | 127 => 163 | 164 => 164 | 80 => 115 | n => n, fun | n => n⟩
theorem lays105 : Go.Proofs.Lays.n105 Try.prog lays105_ren := {
  mixed := by kernel_rfl
  f99 := Try.func92.trans (congrArg some (by kernel_rfl))
  f105 := Try.func90.trans (congrArg some (by kernel_rfl))
  f165 := Try.func93.trans (congrArg some (by kernel_rfl))
  f166 := Try.func94.trans (congrArg some (by kernel_rfl))
  f169 := Try.func96.trans (congrArg some (by kernel_rfl))
  f170 := Try.func95.trans (congrArg some (by kernel_rfl))
  f206 := Try.func99.trans (congrArg some (by kernel_rfl))
  f212 := Try.func91.trans (congrArg some (by kernel_rfl))
  f240 := Try.func100.trans (congrArg some (by kernel_rfl))
  f241 := Try.func101.trans (congrArg some (by kernel_rfl))
  f263 := Try.func97.trans (congrArg some (by kernel_rfl))
  f264 := Try.func98.trans (congrArg some (by kernel_rfl))
  f276 := Try.func102.trans (congrArg some (by kernel_rfl))
  f277 := Try.func103.trans (congrArg some (by kernel_rfl))
  t0 := Try.underlying0
  a0 := Try.isAgg0
  z0 := Try.sizeOf0
  v0 := Try.zeroValue0
  t3 := Try.underlying3
  a3 := Try.isAgg3
  z3 := Try.sizeOf3
  v3 := Try.zeroValue3
  t4 := Try.underlying4
  a4 := Try.isAgg4
  z4 := Try.sizeOf4
  v4 := Try.zeroValue4
  t5 := Try.underlying5
  a5 := Try.isAgg5
  z5 := Try.sizeOf5
  v5 := Try.zeroValue5
  t9 := Try.underlying9
  a9 := Try.isAgg9
  z9 := Try.sizeOf9
  v9 := Try.zeroValue9
  t20 := Try.underlying20
  a20 := Try.isAgg20
  z20 := Try.sizeOf20
  v20 := Try.zeroValue20
  t37 := Try.underlying45
  a37 := Try.isAgg45
  z37 := Try.sizeOf45
  v37 := Try.zeroValue45
  t46 := Try.underlying138
  a46 := Try.isAgg138
  z46 := Try.sizeOf138
  v46 := Try.zeroValue138
  t51 := Try.underlying157
  a51 := Try.isAgg157
  z51 := Try.sizeOf157
  v51 := Try.zeroValue157
  t53 := Try.underlying160
  a53 := Try.isAgg160
  z53 := Try.sizeOf160
  v53 := Try.zeroValue160
  t70 := Try.underlying149
  a70 := Try.isAgg149
  z70 := Try.sizeOf149
  v70 := Try.zeroValue149
  t72 := Try.underlying151
  a72 := Try.isAgg151
  z72 := Try.sizeOf151
  v72 := Try.zeroValue151
  t75 := Try.underlying153
  a75 := Try.isAgg153
  z75 := Try.sizeOf153
  v75 := Try.zeroValue153
  t76 := Try.underlying154
  a76 := Try.isAgg154
  z76 := Try.sizeOf154
  v76 := Try.zeroValue154
  t109 := Try.underlying146
  a109 := Try.isAgg146
  z109 := Try.sizeOf146
  v109 := Try.zeroValue146
  t127 := Try.underlying163
  a127 := Try.isAgg163
  z127 := Try.sizeOf163
  v127 := Try.zeroValue163
  t146 := Try.underlying158
  a146 := Try.isAgg158
  z146 := Try.sizeOf158
  v146 := Try.zeroValue158
  t148 := Try.underlying161
  a148 := Try.isAgg161
  z148 := Try.sizeOf161
  v148 := Try.zeroValue161
  t164 := Try.underlying164
  a164 := Try.isAgg164
  z164 := Try.sizeOf164
  v164 := Try.zeroValue164 }
theorem extra105 : Builder.Extra Try.prog lays105_ren := {
  sizeBuilder := by kernel_rfl
  liesBuilder := by kernel_rfl
  t5 := lays105.t5
  a5 := lays105.a5
  z5 := lays105.z5
  v5 := lays105.v5
  infoByte := by kernel_rfl
  cellsByte := by kernel_rfl
  sizeByte := by kernel_rfl
  neB5 := by decide }
noncomputable def P90 : Nat × D.Spec E := (90, .pure [.str, .int .i64] (repS E))
theorem p90 : SpecOk Try.prog E P90.1 P90.2 := rep_ok Try.call90 (fun s c w hc hl => by
  have h := Any.strings_Repeat lays105 extra105 s c w hc hl
  have e : lays105_ren.f 105 = 90 := by kernel_rfl
  rw [e] at h
  exact h)
end Go.Proofs.Ythabbcjjecpbmaa.C

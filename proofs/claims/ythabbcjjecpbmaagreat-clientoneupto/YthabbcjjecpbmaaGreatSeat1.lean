/- A seat's types. The rows' measure. The library's functions at this seat. -/
import Derived.Test.YthabbcjjecpbmaaGreatChecked
import Derived.Test.YthabbcjjecpbmaaGreatBase5
import Derived.Test.YthabbcjjecpbmaaGreatBase6
import Derived.KernelRfl
import Derived.Test.YthabbcjjecpbmaaGreatRows
import Derived.WalkKit
import Derived.ProofKit
import Derived.OpenShut
import Derived.JoinedCond
import Derived.Shelf.Strings.Repeat
set_option linter.unusedVariables false
set_option maxRecDepth 100000
namespace Go.Proofs.YthabbcjjecpbmaaGreat.Z
open Go Go.Proofs.YthabbcjjecpbmaaGreat.D
noncomputable section
def tbl : List TK := [.other, .func, .data (.int .i64), .data (.int .i64), .data .bool, .data (.int .u8), .other, .other, .other, .data .str, .other, .other, .data (.int .u64), .other, .other, .other, .other, .other, .other, .other, .iface, .data (.int .i32), .data (.slice (.arr 4 (.int .u8))), .func, .data (.slice (.named 1)), .data (.slice .str), .data (.slice (.named 0)), .data (.named 2), .data (.named 2), .data (.named 3), .data (.named 3), .data (.named 4), .data (.named 4), .func, .data (.slice (.int .i64)), .data (.named 5), .data (.named 5), .data (.slice (.int .u8)), .other, .func, .data (.arr 4 (.int .u8)), .data (.slice (.named 2)), .other, .func, .func, .data (.int .i64), .data (.named 6), .data (.named 6), .other, .func, .func, .func, .func, .data (.named 1), .data (.named 1), .func, .data (.named 7), .data (.named 7), .func, .func, .func, .data (.named 0), .data (.named 0), .func, .func, .data (.slice (.int .i64)), .ptr, .func, .other, .func, .data (.named 8), .data (.named 8), .func, .func, .func, .func, .func, .func, .func, .func, .func, .func, .func, .func, .func, .func, .func, .func, .func, .func, .func, .func, .func, .func, .func, .func, .func, .func, .func, .func, .func, .func, .func, .func, .func, .func, .ptr, .ptr, .func, .func, .func, .func, .func, .func, .ptr, .func, .ptr, .data (.named 9), .data (.named 9), .func, .func, .func, .other, .func, .data (.int .u16), .func, .func, .data (.named 10), .data (.named 10), .other, .data (.named 11), .data (.named 11), .func, .func, .ptr, .func, .data (.named 12), .data (.named 12), .other, .func, .func, .func, .other, .func, .other, .func, .func, .func, .data (.named 10), .other, .func, .func, .ptr, .func, .data (.int .u64), .func, .ptr, .data (.named 10), .func, .data (.named 10), .other, .data (.named 10), .other, .other, .other, .func, .func, .ptr, .other, .other, .iface, .iface, .other, .func, .func, .data (.int .u32), .other, .func, .data (.int .u64), .other, .func, .ptr, .other, .other, .func, .other, .other, .other, .other, .other, .other, .other, .other, .other, .other, .other, .other]
def T : Nat → Type
 | 0 => N.TWrite
 | 1 => N.TCache
 | 2 => N.TAsk
 | 3 => N.TOut
 | 4 => N.TClient
 | 5 => N.TStep
 | 6 => N.TAns
 | 7 => N.TTell
 | 8 => N.Tclient_work
 | 9 => N.Ttenancyref13_Reader
 | 10 => N.TNil0
 | 11 => N.Tmsg_reader
 | 12 => N.Tclient_told
 | _ + 13 => Unit
def fields : Nat → List Ty
 | 0 => [(.int .i64), .str]
 | 1 => [(.int .i64), (.int .i64), (.int .i64), .str, (.slice (.named 0)), (.int .i64), .bool, .bool]
 | 2 => [(.int .i64), (.int .i64), (.int .i64), (.int .i64), .str, (.int .i64), (.int .i64), (.slice (.named 0))]
 | 3 => [.bool, (.named 2), (.int .i64), (.int .i64)]
 | 4 => [(.int .i64), (.int .i64), (.int .i64), (.int .i64), (.slice (.named 1)), (.slice .str), (.named 3), (.int .i64), (.int .i64), (.int .i64)]
 | 5 => [(.int .i64), (.int .i64), (.int .i64), (.int .i64), (.int .i64), (.int .i64), (.int .i64), .str, (.slice (.int .i64))]
 | 6 => [(.int .i64), (.int .i64), .str]
 | 7 => [(.int .i64), (.int .i64), (.int .i64), (.int .i64), (.int .i64), (.int .i64), (.int .i64), (.int .i64), .str]
 | 8 => [(.named 4), (.slice (.named 2))]
 | 9 => [(.slice (.int .u8)), .bool]
 | 10 => []
 | 11 => [(.slice (.int .u8))]
 | 12 => [(.named 6)]
 | _ + 13 => []
def out : (i : Nat) → T i → HL T (fields i)
 | 0, x => (x.Off, x.B, ())
 | 1, x => (x.Mode, x.Until, x.Ver, x.Body, x.Dirty, x.Sent, x.Called, x.Lost, ())
 | 2, x => (x.Kind, x.From, x.Epoch, x.Seq, x.Name, x.File, x.Mode, x.Writes, ())
 | 3, x => (x.Is, x.Ask, x.First, x.Last, ())
 | 4, x => (x.ID, x.Now, x.Epoch, x.Seq, x.Files, x.Names, x.Out, x.Bad, x.Hits, x.Asks, ())
 | 5, x => (x.Kind, x.R, x.By, x.File, x.Off, x.I, x.To, x.Text, x.Gains, ())
 | 6, x => (x.Err, x.File, x.Body, ())
 | 7, x => (x.Kind, x.To, x.Epoch, x.Seq, x.Err, x.File, x.Mode, x.Ver, x.Body, ())
 | 8, x => (x.Client, x.asked, ())
 | 9, x => (x.B, x.Bad, ())
 | 10, _ => ()
 | 11, x => (x.b, ())
 | 12, x => (x.a, ())
 | _ + 13, _ => ()
def into : (i : Nat) → HL T (fields i) → T i
 | 0, x => ⟨x.1, x.2.1⟩
 | 1, x => ⟨x.1, x.2.1, x.2.2.1, x.2.2.2.1, x.2.2.2.2.1, x.2.2.2.2.2.1, x.2.2.2.2.2.2.1, x.2.2.2.2.2.2.2.1⟩
 | 2, x => ⟨x.1, x.2.1, x.2.2.1, x.2.2.2.1, x.2.2.2.2.1, x.2.2.2.2.2.1, x.2.2.2.2.2.2.1, x.2.2.2.2.2.2.2.1⟩
 | 3, x => ⟨x.1, x.2.1, x.2.2.1, x.2.2.2.1⟩
 | 4, x => ⟨x.1, x.2.1, x.2.2.1, x.2.2.2.1, x.2.2.2.2.1, x.2.2.2.2.2.1, x.2.2.2.2.2.2.1, x.2.2.2.2.2.2.2.1, x.2.2.2.2.2.2.2.2.1, x.2.2.2.2.2.2.2.2.2.1⟩
 | 5, x => ⟨x.1, x.2.1, x.2.2.1, x.2.2.2.1, x.2.2.2.2.1, x.2.2.2.2.2.1, x.2.2.2.2.2.2.1, x.2.2.2.2.2.2.2.1, x.2.2.2.2.2.2.2.2.1⟩
 | 6, x => ⟨x.1, x.2.1, x.2.2.1⟩
 | 7, x => ⟨x.1, x.2.1, x.2.2.1, x.2.2.2.1, x.2.2.2.2.1, x.2.2.2.2.2.1, x.2.2.2.2.2.2.1, x.2.2.2.2.2.2.2.1, x.2.2.2.2.2.2.2.2.1⟩
 | 8, x => ⟨x.1, x.2.1⟩
 | 9, x => ⟨x.1, x.2.1⟩
 | 10, _ => ⟨⟩
 | 11, x => ⟨x.1⟩
 | 12, x => ⟨x.1⟩
 | _ + 13, _ => ()
def eqb : (i : Nat) → T i → T i → Bool
 | 0, x, y => N.TWrite.eqb x y
 | 1, x, y => N.TCache.eqb x y
 | 2, x, y => N.TAsk.eqb x y
 | 3, x, y => N.TOut.eqb x y
 | 4, x, y => N.TClient.eqb x y
 | 5, x, y => N.TStep.eqb x y
 | 6, x, y => N.TAns.eqb x y
 | 7, x, y => N.TTell.eqb x y
 | 8, x, y => N.Tclient_work.eqb x y
 | 9, x, y => N.Ttenancyref13_Reader.eqb x y
 | 10, x, y => N.TNil0.eqb x y
 | 11, x, y => N.Tmsg_reader.eqb x y
 | 12, x, y => N.Tclient_told.eqb x y
 | _ + 13, _, _ => true
def nsize : Nat → Nat
 | 0 => 2
 | 1 => 8
 | 2 => 8
 | 3 => 11
 | 4 => 20
 | 5 => 9
 | 6 => 3
 | 7 => 9
 | 8 => 21
 | 9 => 2
 | 10 => 0
 | 11 => 1
 | 12 => 3
 | _ + 13 => 0
def cmpT : List Nat := [2, 3, 4, 5, 9, 12, 21, 40, 45, 46, 47, 56, 57, 61, 62, 124, 127, 128, 136, 137, 148, 154, 157, 159, 161, 175, 178]
def E : Env where
 T := T
 fields := fields
 out := out
 into := into
 eqb := eqb
 nsize := nsize
 tk := fun t => nth tbl t .other
 cmp := fun t => memB cmpT t
theorem into_out : ∀ i x, E.into i (E.out i x) = x
 | 0, _ => rfl
 | 1, _ => rfl
 | 2, _ => rfl
 | 3, _ => rfl
 | 4, _ => rfl
 | 5, _ => rfl
 | 6, _ => rfl
 | 7, _ => rfl
 | 8, _ => rfl
 | 9, _ => rfl
 | 10, _ => rfl
 | 11, _ => rfl
 | 12, _ => rfl
 | _ + 13, _ => rfl
theorem out_into : ∀ i r, E.out i (E.into i r) = r
 | 0, _ => rfl
 | 1, _ => rfl
 | 2, _ => rfl
 | 3, _ => rfl
 | 4, _ => rfl
 | 5, _ => rfl
 | 6, _ => rfl
 | 7, _ => rfl
 | 8, _ => rfl
 | 9, _ => rfl
 | 10, _ => rfl
 | 11, _ => rfl
 | 12, _ => rfl
 | _ + 13, () => rfl
theorem nsize_ok : ∀ i, E.nsize i = ((E.fields i).map E.size).sum
 | 0 => rfl
 | 1 => rfl
 | 2 => rfl
 | 3 => rfl
 | 4 => rfl
 | 5 => rfl
 | 6 => rfl
 | 7 => rfl
 | 8 => rfl
 | 9 => rfl
 | 10 => rfl
 | 11 => rfl
 | 12 => rfl
 | _ + 13 => rfl
theorem eqb_ok : ∀ i x y, E.eqb i x y = eqHL E (E.fields i) (E.out i x) (E.out i y)
 | 0, _, _ => rfl
 | 1, _, _ => rfl
 | 2, _, _ => rfl
 | 3, _, _ => rfl
 | 4, _, _ => rfl
 | 5, _, _ => rfl
 | 6, _, _ => rfl
 | 7, _, _ => rfl
 | 8, _, _ => rfl
 | 9, _, _ => rfl
 | 10, _, _ => rfl
 | 11, _, _ => rfl
 | 12, _, _ => rfl
 | _ + 13, _, _ => rfl
theorem ok : EnvOk E := ⟨into_out, out_into, nsize_ok⟩
theorem cmp_ok : ∀ t, E.cmp t = true → Tryz.prog.eqGuardType Tryz.prog.depth t = false ∧ Tryz.prog.stoodInHeld t = false ∧ (∀ fs, Tryz.prog.underlying t = some (.struct fs) → ∀ f ∈ fs.toList, E.cmp f.type = true) ∧ ∀ n e, Tryz.prog.underlying t = some (.array n e) → E.cmp e = true :=
 cmp_of Tryz.prog cmpT (by kernel_rfl)
theorem sound : Sound Tryz.prog E := sound_of ok eqb_ok cmp_ok tbl (fun _ => rfl) (tkAll_of tbl 0 (by kernel_rfl) (by kernel_rfl))
theorem mix : Tryz.prog.follows .mixedOrders = true := by kernel_rfl
abbrev SP := Nat × D.Spec E
abbrev OK (p : SP) : Prop := SpecOk Tryz.prog E p.1 p.2
theorem go {x : GFn E} {f : FuncId} {fn : Func} {c : Code} (hf : Tryz.prog.funcs[f]? = some fn) (hb : fn.body = some c) (hS : AllS Tryz.prog E x.S) (hD : AllD Tryz.prog E x.D) (hL : x.Loops fn) (h : GFact (x.B fn) x.i) : InsOk Tryz.prog f x.ins := GFn.ok sound mix hf hb hS hD hL h
theorem goF {x : GFn E} {f : FuncId} {fn : Func} {c : Code} (hf : Tryz.prog.funcs[f]? = some fn) (hb : fn.body = some c) (hS : AllS Tryz.prog E x.S) (hD : AllD Tryz.prog E x.D) (hL : x.Loops fn) (h : GFact (tidyF (x.B fn)) x.i) : InsOk Tryz.prog f x.ins := GFn.okF sound mix hf hb hS hD hL h
end
open Go Go.Proofs.YthabbcjjecpbmaaGreat.D Go.ChangeShapes Go.RowKit
open Go.Proofs.YthabbcjjecpbmaaGreat
theorem one_le {H : Type} (d : DataW H) : 1 ≤ Rows.uptoBulk d := by
 cases d with
 | lit l => cases l <;> simp [Rows.uptoBulk]
 | nil => simp [Rows.uptoBulk]
 | ptr d => simp [Rows.uptoBulk]
 | slice elems spare => simp [Rows.uptoBulk]
 | agg parts => simp [Rows.uptoBulk]
 | iface t d => simp [Rows.uptoBulk]
 | map entries => simp [Rows.uptoBulk]
 | held h => simp [Rows.uptoBulk]
theorem part_le {H : Type} {d : DataW H} {l : List (DataW H)} (h : d ∈ l) : Rows.uptoBulk d ≤ Rows.uptoBulkAll l := by
 induction l with
 | nil => cases h
 | cons x r ih =>
  simp only [Rows.uptoBulkAll]
  cases List.mem_cons.1 h with
  | inl e => subst e; omega
  | inr e => have := ih e; omega
theorem length_le {H : Type} (l : List (DataW H)) : l.length ≤ Rows.uptoBulkAll l := by
 induction l with
 | nil => simp [Rows.uptoBulkAll]
 | cons x r ih => have := one_le x; simp only [Rows.uptoBulkAll, List.length_cons]; omega
theorem meas {H : Type} : Meas (Rows.uptoBulk (H := H)) where
 str := fun b => by simp [Rows.uptoBulk]
 len := fun l r => by have := length_le l; simp only [Rows.uptoBulk]; omega
 el := fun l r d h => by have := part_le h; simp only [Rows.uptoBulk]; omega
 part := fun l d h => by have := part_le h; simp only [Rows.uptoBulk]; omega
theorem own : ownKnob Tryz.prog.godebug = none := by kernel_rfl
theorem laid : laidOutB Tryz.prog = true := by kernel_rfl
theorem full : ∀ t e, t < Tryz.prog.types.size → Tryz.prog.underlying t = some (.slice e) → 0 < Tryz.prog.cellsOf e := fun t e => slices_full_of Tryz.prog (by kernel_rfl) t e
theorem tl : ∀ t, E.tk t ≠ .other → t < Tryz.prog.types.size := tbl_lt (tbl := tbl) (fun _ => rfl) (of_decide_eq_true (by kernel_rfl))
theorem bl : 1048576 ≤ lim := of_decide_eq_true (by kernel_rfl)
theorem small {H : Type} {ds : List (DataW H)} (hk : Rows.uptoSmall H (ds ++ []) = true) : ∀ d ∈ ds, Rows.uptoBulk d ≤ 1048576 := by
 rw [List.append_nil] at hk
 have h : Rows.uptoBulkAll ds ≤ 1048576 := of_decide_eq_true hk
 exact fun d hd => Nat.le_trans (part_le hd) h
open Go Go.RowKit Go.Shelf Go.Proofs Go.Proofs.YthabbcjjecpbmaaGreat.D
open Go.Proofs.YthabbcjjecpbmaaGreat.N (chunkS chunkL)
attribute [local go_sem] Oper.semAt_some
noncomputable section
def lays105_ren : Go.Shelf.Ren := ⟨fun | 105 => 133 | 212 => 135 | 99 => 136 | 165 => 137 | 166 => 138 | 170 => 139 | 169 => 140 | 263 => 141 | 264 => 142 | 206 => 143 | 240 => 144 | 241 => 145 | 276 => 146 | 277 => 147 | n => n, fun | 9 => 9 | 3 => 3 | 4 => 4 | 20 => 20 | 0 => 0 | 46 => 154 | 109 => 164 | 5 => 5 | 72 => 169 | 76 => 172 | 51 => 175 | 146 => 176 | 53 => 178 | 148 => 179 | 70 => 167 | 37 => 37 | 75 => 171 | 127 => 181 | 164 => 182 | 80 => 120 | n => n, fun | n => n⟩
theorem lays105 : Go.Proofs.Lays.n105 Tryz.prog lays105_ren := {
 mixed := by kernel_rfl
 f99 := Tryz.func136.trans (congrArg some (by kernel_rfl))
 f105 := Tryz.func133.trans (congrArg some (by kernel_rfl))
 f165 := Tryz.func137.trans (congrArg some (by kernel_rfl))
 f166 := Tryz.func138.trans (congrArg some (by kernel_rfl))
 f169 := Tryz.func140.trans (congrArg some (by kernel_rfl))
 f170 := Tryz.func139.trans (congrArg some (by kernel_rfl))
 f206 := Tryz.func143.trans (congrArg some (by kernel_rfl))
 f212 := Tryz.func135.trans (congrArg some (by kernel_rfl))
 f240 := Tryz.func144.trans (congrArg some (by kernel_rfl))
 f241 := Tryz.func145.trans (congrArg some (by kernel_rfl))
 f263 := Tryz.func141.trans (congrArg some (by kernel_rfl))
 f264 := Tryz.func142.trans (congrArg some (by kernel_rfl))
 f276 := Tryz.func146.trans (congrArg some (by kernel_rfl))
 f277 := Tryz.func147.trans (congrArg some (by kernel_rfl))
 t0 := Tryz.underlying0
 a0 := Tryz.isAgg0
 z0 := Tryz.sizeOf0
 v0 := Tryz.zeroValue0
 t3 := Tryz.underlying3
 a3 := Tryz.isAgg3
 z3 := Tryz.sizeOf3
 v3 := Tryz.zeroValue3
 t4 := Tryz.underlying4
 a4 := Tryz.isAgg4
 z4 := Tryz.sizeOf4
 v4 := Tryz.zeroValue4
 t5 := Tryz.underlying5
 a5 := Tryz.isAgg5
 z5 := Tryz.sizeOf5
 v5 := Tryz.zeroValue5
 t9 := Tryz.underlying9
 a9 := Tryz.isAgg9
 z9 := Tryz.sizeOf9
 v9 := Tryz.zeroValue9
 t20 := Tryz.underlying20
 a20 := Tryz.isAgg20
 z20 := Tryz.sizeOf20
 v20 := Tryz.zeroValue20
 t37 := Tryz.underlying37
 a37 := Tryz.isAgg37
 z37 := Tryz.sizeOf37
 v37 := Tryz.zeroValue37
 t46 := Tryz.underlying154
 a46 := Tryz.isAgg154
 z46 := Tryz.sizeOf154
 v46 := Tryz.zeroValue154
 t51 := Tryz.underlying175
 a51 := Tryz.isAgg175
 z51 := Tryz.sizeOf175
 v51 := Tryz.zeroValue175
 t53 := Tryz.underlying178
 a53 := Tryz.isAgg178
 z53 := Tryz.sizeOf178
 v53 := Tryz.zeroValue178
 t70 := Tryz.underlying167
 a70 := Tryz.isAgg167
 z70 := Tryz.sizeOf167
 v70 := Tryz.zeroValue167
 t72 := Tryz.underlying169
 a72 := Tryz.isAgg169
 z72 := Tryz.sizeOf169
 v72 := Tryz.zeroValue169
 t75 := Tryz.underlying171
 a75 := Tryz.isAgg171
 z75 := Tryz.sizeOf171
 v75 := Tryz.zeroValue171
 t76 := Tryz.underlying172
 a76 := Tryz.isAgg172
 z76 := Tryz.sizeOf172
 v76 := Tryz.zeroValue172
 t109 := Tryz.underlying164
 a109 := Tryz.isAgg164
 z109 := Tryz.sizeOf164
 v109 := Tryz.zeroValue164
 t127 := Tryz.underlying181
 a127 := Tryz.isAgg181
 z127 := Tryz.sizeOf181
 v127 := Tryz.zeroValue181
 t146 := Tryz.underlying176
 a146 := Tryz.isAgg176
 z146 := Tryz.sizeOf176
 v146 := Tryz.zeroValue176
 t148 := Tryz.underlying179
 a148 := Tryz.isAgg179
 z148 := Tryz.sizeOf179
 v148 := Tryz.zeroValue179
 t164 := Tryz.underlying182
 a164 := Tryz.isAgg182
 z164 := Tryz.sizeOf182
 v164 := Tryz.zeroValue182 }
theorem extra105 : Builder.Extra Tryz.prog lays105_ren := {
 sizeBuilder := by kernel_rfl
 liesBuilder := by kernel_rfl
 t5 := lays105.t5
 a5 := lays105.a5
 z5 := lays105.z5
 v5 := lays105.v5
 infoByte := by kernel_rfl
 cellsByte := by kernel_rfl
 sizeByte := by kernel_rfl
 neB5 := by decide }
noncomputable def P133 : Nat × D.Spec E := (133, .pure [.str, .int .i64] (repS E))
theorem p133 : SpecOk Tryz.prog E P133.1 P133.2 := rep_ok Tryz.call133 (fun s c w hc hl => by
 have h := Any.strings_Repeat lays105 extra105 s c w hc hl
 have e : lays105_ren.f 105 = 133 := by kernel_rfl
 rw [e] at h
 exact h)
end
end Go.Proofs.YthabbcjjecpbmaaGreat.Z

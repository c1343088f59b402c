/-
  No cell of these rows narrows 'for every input' (looked for: loops, veiled, ifaces, maps, wideKeys, modest, calm, conditions, laid).
  DERIVED. THE GIVEN ROWS OF THIS SEAT. 5 by the template 'for every input the law returns true; each argument reads behind the call as it read before'; 0 by the template 'total and deterministic' (their statements: YtbdkijiaojbmgaaTotals.lean).
  GIVEN WITH THE SEED: the statements are not yours to turn. If you find one false, say at which input.
  Laid BY PROGRAM, IN A SANDBOX (cutbox-rows.mjs): the forced cells as the released guide's own fill.sh prints them over the translation 8965eeb794b8fa5e… (all of the seat's roots in one cut). By AI agents, Wed Nov 11 2026. No macro, syntax, notation, axiom, sorry.
-/
import Derived.Test.YtbdkijiaojbmgaaChecked
import GoSem.Claim
import GoSem.ClaimJoined
import GoSem.ClaimMapViews
import Derived.JoinedTies
import Derived.KernelRfl
namespace Go.Proofs.Ytbdkijiaojbmgaa
/- THE CELL 'sum', in the pinned program and in every row, IS THE sha256 OF THE DUMP (.gsa) THAT YtbdkijiaojbmgaaProg.lean LOADS. Nothing in Lean hashes anything: it is a label: what it is worth is what the hold of that sum in a sandbox is worth. -/
noncomputable def Try.pinned : Pinned := { name := "ytbdkijiaojbmgaa", sum := "8965eeb794b8fa5e06a1628a3f9d9e44460ef19a47c31ef0c9ae852db0949072", checked := Try.checked }
namespace Rows
def none {H : Type} : Left H := { results := [], args := [] }

/-- 'tenancylaw1.ClockAll': WHATEVER THE INPUT: true; the input reads as it did. -/
def clockAllSpec : ChangeSpec := { name := "clockAll", fn := fun _ => fun
  | [d1, d2, d3, d4, d5, d6, d7] => { results := [.lit (.bool true)], args := [d1, d2, d3, d4, d5, d6, d7] }
  | _ => none }
def clockAllRow : OpenClaim := { program := "ytbdkijiaojbmgaa", sum := "8965eeb794b8fa5e06a1628a3f9d9e44460ef19a47c31ef0c9ae852db0949072", func := "tenancy/tenancylaw1.ClockAll", spec := "clockAll", apart := false }
def ClockAllSaid : Prop := clockAllRow.holds Try.pinned (OpenSpec.ofChange clockAllSpec)

/-- ITS FALSE NEIGHBOUR: 'it returns false'. Refute it at one input. -/
def clockAllWrong : ChangeSpec := { name := "clockAll", fn := fun _ => fun
  | [d1, d2, d3, d4, d5, d6, d7] => { results := [.lit (.bool false)], args := [d1, d2, d3, d4, d5, d6, d7] }
  | _ => none }
def ClockAllWrongFalsely : Prop := clockAllRow.holds Try.pinned (OpenSpec.ofChange clockAllWrong)

/-- 'tenancylaw1.ClockDone': WHATEVER THE INPUT: true; the input reads as it did. -/
def clockDoneSpec : ChangeSpec := { name := "clockDone", fn := fun _ => fun
  | [d1, d2, d3] => { results := [.lit (.bool true)], args := [d1, d2, d3] }
  | _ => none }
def clockDoneRow : OpenClaim := { program := "ytbdkijiaojbmgaa", sum := "8965eeb794b8fa5e06a1628a3f9d9e44460ef19a47c31ef0c9ae852db0949072", func := "tenancy/tenancylaw1.ClockDone", spec := "clockDone", apart := false }
def ClockDoneSaid : Prop := clockDoneRow.holds Try.pinned (OpenSpec.ofChange clockDoneSpec)

/-- ITS FALSE NEIGHBOUR: 'it returns false'. Refute it at one input. -/
def clockDoneWrong : ChangeSpec := { name := "clockDone", fn := fun _ => fun
  | [d1, d2, d3] => { results := [.lit (.bool false)], args := [d1, d2, d3] }
  | _ => none }
def ClockDoneWrongFalsely : Prop := clockDoneRow.holds Try.pinned (OpenSpec.ofChange clockDoneWrong)

/-- 'tenancylaw1.ClockSums': WHATEVER THE INPUT: true; the input reads as it did. -/
def clockSumsSpec : ChangeSpec := { name := "clockSums", fn := fun _ => fun
  | [d1, d2, d3, d4] => { results := [.lit (.bool true)], args := [d1, d2, d3, d4] }
  | _ => none }
def clockSumsRow : OpenClaim := { program := "ytbdkijiaojbmgaa", sum := "8965eeb794b8fa5e06a1628a3f9d9e44460ef19a47c31ef0c9ae852db0949072", func := "tenancy/tenancylaw1.ClockSums", spec := "clockSums", apart := false }
def ClockSumsSaid : Prop := clockSumsRow.holds Try.pinned (OpenSpec.ofChange clockSumsSpec)

/-- ITS FALSE NEIGHBOUR: 'it returns false'. Refute it at one input. -/
def clockSumsWrong : ChangeSpec := { name := "clockSums", fn := fun _ => fun
  | [d1, d2, d3, d4] => { results := [.lit (.bool false)], args := [d1, d2, d3, d4] }
  | _ => none }
def ClockSumsWrongFalsely : Prop := clockSumsRow.holds Try.pinned (OpenSpec.ofChange clockSumsWrong)

/-- 'tenancylaw1.ClockForms': WHATEVER THE INPUT: true; the input reads as it did. -/
def clockFormsSpec : ChangeSpec := { name := "clockForms", fn := fun _ => fun
  | [] => { results := [.lit (.bool true)], args := [] }
  | _ => none }
def clockFormsRow : OpenClaim := { program := "ytbdkijiaojbmgaa", sum := "8965eeb794b8fa5e06a1628a3f9d9e44460ef19a47c31ef0c9ae852db0949072", func := "tenancy/tenancylaw1.ClockForms", spec := "clockForms", apart := false }
def ClockFormsSaid : Prop := clockFormsRow.holds Try.pinned (OpenSpec.ofChange clockFormsSpec)

/-- ITS FALSE NEIGHBOUR: 'it returns false'. Refute it at one input. -/
def clockFormsWrong : ChangeSpec := { name := "clockForms", fn := fun _ => fun
  | [] => { results := [.lit (.bool false)], args := [] }
  | _ => none }
def ClockFormsWrongFalsely : Prop := clockFormsRow.holds Try.pinned (OpenSpec.ofChange clockFormsWrong)

/-- 'tenancylaw1.ClockGrows': WHATEVER THE INPUT: true; the input reads as it did. -/
def clockGrowsSpec : ChangeSpec := { name := "clockGrows", fn := fun _ => fun
  | [d1, d2, d3, d4] => { results := [.lit (.bool true)], args := [d1, d2, d3, d4] }
  | _ => none }
def clockGrowsRow : OpenClaim := { program := "ytbdkijiaojbmgaa", sum := "8965eeb794b8fa5e06a1628a3f9d9e44460ef19a47c31ef0c9ae852db0949072", func := "tenancy/tenancylaw1.ClockGrows", spec := "clockGrows", apart := false }
def ClockGrowsSaid : Prop := clockGrowsRow.holds Try.pinned (OpenSpec.ofChange clockGrowsSpec)

/-- ITS FALSE NEIGHBOUR: 'it returns false'. Refute it at one input. -/
def clockGrowsWrong : ChangeSpec := { name := "clockGrows", fn := fun _ => fun
  | [d1, d2, d3, d4] => { results := [.lit (.bool false)], args := [d1, d2, d3, d4] }
  | _ => none }
def ClockGrowsWrongFalsely : Prop := clockGrowsRow.holds Try.pinned (OpenSpec.ofChange clockGrowsWrong)

/- THE SECOND FORM. 'bulk': how many values and letters a reading holds, each counted each time it is reached (what is shared counts as often as it is met; a slice's spare places count too). A statement '..UptoSaid' is the law's where the arguments, and the package variables that the reading takes, are together of bulk at most 1048576: NARROWER than '..Said'. Prove '..Said' where nothing that the law and all that it calls make is longer than what came in: it says more and counts as full. Else prove '..UptoSaid'. A law counts once. -/
mutual
def uptoBulk {H : Type} : DataW H → Nat
  | .lit (.string bytes) => bytes.length + 1
  | .lit _ => 1
  | .nil => 1
  | .ptr d => uptoBulk d + 1
  | .slice elems spare => uptoBulkAll elems + uptoBulkAll spare + 1
  | .agg parts => uptoBulkAll parts + 1
  | .iface _ d => uptoBulk d + 1
  | .map entries => uptoBulkEntries entries + 1
  | .held _ => 1
def uptoBulkAll {H : Type} : List (DataW H) → Nat
  | [] => 0
  | d :: r => uptoBulk d + uptoBulkAll r
def uptoBulkEntries {H : Type} : List (Lit × DataW H) → Nat
  | [] => 0
  | x :: r => uptoBulkEntry x + uptoBulkEntries r
def uptoBulkEntry {H : Type} : Lit × DataW H → Nat
  | (.string bytes, d) => bytes.length + uptoBulk d + 1
  | (_, d) => uptoBulk d + 1
 end
def uptoSmall : (H : Type) → List (DataW H) → Bool := fun _ ds => decide (uptoBulkAll ds ≤ 1048576)
def OpenSpec.upto (s : _root_.Go.ChangeSpec) : _root_.Go.OpenSpec := { _root_.Go.OpenSpec.ofChange s with cond := some uptoSmall }

/-- 'tenancylaw1.ClockAll', WHERE WHAT IT READS IS OF BULK AT MOST 1048576: true; the input reads as it did. -/
def clockAllUptoRow : OpenClaim := { program := "ytbdkijiaojbmgaa", sum := "8965eeb794b8fa5e06a1628a3f9d9e44460ef19a47c31ef0c9ae852db0949072", func := "tenancy/tenancylaw1.ClockAll", spec := "clockAll", apart := false, narrowed := true }
def ClockAllUptoSaid : Prop := clockAllUptoRow.holds Try.pinned (OpenSpec.upto clockAllSpec)

/-- 'tenancylaw1.ClockDone', WHERE WHAT IT READS IS OF BULK AT MOST 1048576: true; the input reads as it did. -/
def clockDoneUptoRow : OpenClaim := { program := "ytbdkijiaojbmgaa", sum := "8965eeb794b8fa5e06a1628a3f9d9e44460ef19a47c31ef0c9ae852db0949072", func := "tenancy/tenancylaw1.ClockDone", spec := "clockDone", apart := false, narrowed := true }
def ClockDoneUptoSaid : Prop := clockDoneUptoRow.holds Try.pinned (OpenSpec.upto clockDoneSpec)

/-- 'tenancylaw1.ClockSums', WHERE WHAT IT READS IS OF BULK AT MOST 1048576: true; the input reads as it did. -/
def clockSumsUptoRow : OpenClaim := { program := "ytbdkijiaojbmgaa", sum := "8965eeb794b8fa5e06a1628a3f9d9e44460ef19a47c31ef0c9ae852db0949072", func := "tenancy/tenancylaw1.ClockSums", spec := "clockSums", apart := false, narrowed := true }
def ClockSumsUptoSaid : Prop := clockSumsUptoRow.holds Try.pinned (OpenSpec.upto clockSumsSpec)

/-- 'tenancylaw1.ClockForms', WHERE WHAT IT READS IS OF BULK AT MOST 1048576: true; the input reads as it did. -/
def clockFormsUptoRow : OpenClaim := { program := "ytbdkijiaojbmgaa", sum := "8965eeb794b8fa5e06a1628a3f9d9e44460ef19a47c31ef0c9ae852db0949072", func := "tenancy/tenancylaw1.ClockForms", spec := "clockForms", apart := false, narrowed := true }
def ClockFormsUptoSaid : Prop := clockFormsUptoRow.holds Try.pinned (OpenSpec.upto clockFormsSpec)

/-- 'tenancylaw1.ClockGrows', WHERE WHAT IT READS IS OF BULK AT MOST 1048576: true; the input reads as it did. -/
def clockGrowsUptoRow : OpenClaim := { program := "ytbdkijiaojbmgaa", sum := "8965eeb794b8fa5e06a1628a3f9d9e44460ef19a47c31ef0c9ae852db0949072", func := "tenancy/tenancylaw1.ClockGrows", spec := "clockGrows", apart := false, narrowed := true }
def ClockGrowsUptoSaid : Prop := clockGrowsUptoRow.holds Try.pinned (OpenSpec.upto clockGrowsSpec)

end Rows
end Go.Proofs.Ytbdkijiaojbmgaa

/-
  No cell of these rows narrows 'for every input' (looked for: loops, veiled, ifaces, maps, wideKeys, modest, calm, conditions, laid).
  DERIVED. THE GIVEN ROWS OF THIS SEAT. 4 by the template 'for every input the law returns true; each argument reads behind the call as it read before'; 0 by the template 'total and deterministic' (their statements: YthefogjlenmgfaaTotals.lean).
  GIVEN WITH THE SEED: the statements are not yours to turn. If you find one false, say at which input.
  Laid BY PROGRAM, IN A SANDBOX (cutbox-rows.mjs): the forced cells as the released guide's own fill.sh prints them over the translation 351efb072d020f2e… (all of the seat's roots in one cut). By AI agents, Wed Nov 11 2026. No macro, syntax, notation, axiom, sorry.
-/
import Derived.Test.YthefogjlenmgfaaChecked
import GoSem.Claim
import GoSem.ClaimJoined
import GoSem.ClaimMapViews
import Derived.JoinedTies
import Derived.KernelRfl
namespace Go.Proofs.Ythefogjlenmgfaa
/- THE CELL 'sum', in the pinned program and in every row, IS THE sha256 OF THE DUMP (.gsa) THAT YthefogjlenmgfaaProg.lean LOADS. Nothing in Lean hashes anything: it is a label: what it is worth is what the hold of that sum in a sandbox is worth. -/
noncomputable def Try.pinned : Pinned := { name := "ythefogjlenmgfaa", sum := "351efb072d020f2e4eedc4a1a46b93016ea1465cfc85b9abb1a2f4d97dca03e9", checked := Try.checked }
namespace Rows
def none {H : Type} : Left H := { results := [], args := [] }

/-- 'tenancylaw11.ImageAll': WHATEVER THE INPUT: true; the input reads as it did. -/
def imageAllSpec : ChangeSpec := { name := "imageAll", fn := fun _ => fun
  | [d1, d2, d3, d4, d5, d6] => { results := [.lit (.bool true)], args := [d1, d2, d3, d4, d5, d6] }
  | _ => none }
def imageAllRow : OpenClaim := { program := "ythefogjlenmgfaa", sum := "351efb072d020f2e4eedc4a1a46b93016ea1465cfc85b9abb1a2f4d97dca03e9", func := "tenancy/tenancylaw11.ImageAll", spec := "imageAll", inPlace := ["internal/abi.NoEscape", "internal/bytealg.MakeNoZero"], unfollowed := true, recurses := true, apart := false }
def ImageAllSaid : Prop := imageAllRow.holds Try.pinned (OpenSpec.ofChange imageAllSpec)

/-- ITS FALSE NEIGHBOUR: 'it returns false'. Refute it at one input. -/
def imageAllWrong : ChangeSpec := { name := "imageAll", fn := fun _ => fun
  | [d1, d2, d3, d4, d5, d6] => { results := [.lit (.bool false)], args := [d1, d2, d3, d4, d5, d6] }
  | _ => none }
def ImageAllWrongFalsely : Prop := imageAllRow.holds Try.pinned (OpenSpec.ofChange imageAllWrong)

/-- 'tenancylaw11.ImageBack': WHATEVER THE INPUT: true; the input reads as it did. -/
def imageBackSpec : ChangeSpec := { name := "imageBack", fn := fun _ => fun
  | [d1, d2] => { results := [.lit (.bool true)], args := [d1, d2] }
  | _ => none }
def imageBackRow : OpenClaim := { program := "ythefogjlenmgfaa", sum := "351efb072d020f2e4eedc4a1a46b93016ea1465cfc85b9abb1a2f4d97dca03e9", func := "tenancy/tenancylaw11.ImageBack", spec := "imageBack", inPlace := ["internal/abi.NoEscape", "internal/bytealg.MakeNoZero"], unfollowed := true, recurses := true, apart := false }
def ImageBackSaid : Prop := imageBackRow.holds Try.pinned (OpenSpec.ofChange imageBackSpec)

/-- ITS FALSE NEIGHBOUR: 'it returns false'. Refute it at one input. -/
def imageBackWrong : ChangeSpec := { name := "imageBack", fn := fun _ => fun
  | [d1, d2] => { results := [.lit (.bool false)], args := [d1, d2] }
  | _ => none }
def ImageBackWrongFalsely : Prop := imageBackRow.holds Try.pinned (OpenSpec.ofChange imageBackWrong)

/-- 'tenancylaw11.ImageForms': WHATEVER THE INPUT: true; the input reads as it did. -/
def imageFormsSpec : ChangeSpec := { name := "imageForms", fn := fun _ => fun
  | [] => { results := [.lit (.bool true)], args := [] }
  | _ => none }
def imageFormsRow : OpenClaim := { program := "ythefogjlenmgfaa", sum := "351efb072d020f2e4eedc4a1a46b93016ea1465cfc85b9abb1a2f4d97dca03e9", func := "tenancy/tenancylaw11.ImageForms", spec := "imageForms", inPlace := ["internal/abi.NoEscape", "internal/bytealg.MakeNoZero"], unfollowed := true, recurses := true, apart := false }
def ImageFormsSaid : Prop := imageFormsRow.holds Try.pinned (OpenSpec.ofChange imageFormsSpec)

/-- ITS FALSE NEIGHBOUR: 'it returns false'. Refute it at one input. -/
def imageFormsWrong : ChangeSpec := { name := "imageForms", fn := fun _ => fun
  | [] => { results := [.lit (.bool false)], args := [] }
  | _ => none }
def ImageFormsWrongFalsely : Prop := imageFormsRow.holds Try.pinned (OpenSpec.ofChange imageFormsWrong)

/-- 'tenancylaw11.ImageFixed': WHATEVER THE INPUT: true; the input reads as it did. -/
def imageFixedSpec : ChangeSpec := { name := "imageFixed", fn := fun _ => fun
  | [d] => { results := [.lit (.bool true)], args := [d] }
  | _ => none }
def imageFixedRow : OpenClaim := { program := "ythefogjlenmgfaa", sum := "351efb072d020f2e4eedc4a1a46b93016ea1465cfc85b9abb1a2f4d97dca03e9", func := "tenancy/tenancylaw11.ImageFixed", spec := "imageFixed", inPlace := ["internal/abi.NoEscape", "internal/bytealg.MakeNoZero"], unfollowed := true, recurses := true, apart := false }
def ImageFixedSaid : Prop := imageFixedRow.holds Try.pinned (OpenSpec.ofChange imageFixedSpec)

/-- ITS FALSE NEIGHBOUR: 'it returns false'. Refute it at one input. -/
def imageFixedWrong : ChangeSpec := { name := "imageFixed", fn := fun _ => fun
  | [d] => { results := [.lit (.bool false)], args := [d] }
  | _ => none }
def ImageFixedWrongFalsely : Prop := imageFixedRow.holds Try.pinned (OpenSpec.ofChange imageFixedWrong)

/- THE SECOND FORM. 'bulk': how many values and letters a reading holds, each counted each time it is reached (what is shared counts as often as it is met; a slice's spare places count too). A statement '..UptoSaid' is the law's where the arguments, and the package variables that the reading takes, are together of bulk at most 1048576: NARROWER than '..Said'. Prove '..Said' where nothing that the law and all that it calls make is longer than what came in: it says more and counts as full. Else prove '..UptoSaid'. A law counts once. -/
mutual
def uptoBulk {H : Type} : DataW H → Nat
  | .lit (.string bytes) => bytes.length + 1
  | .lit _ => 1
  | .nil => 1
  | .ptr d => uptoBulk d + 1
  | .slice elems spare => uptoBulkAll elems + uptoBulkAll spare + 1
  | .agg parts => uptoBulkAll parts + 1
  | .iface _ d => uptoBulk d + 1
  | .map entries => uptoBulkEntries entries + 1
  | .held _ => 1
def uptoBulkAll {H : Type} : List (DataW H) → Nat
  | [] => 0
  | d :: r => uptoBulk d + uptoBulkAll r
def uptoBulkEntries {H : Type} : List (Lit × DataW H) → Nat
  | [] => 0
  | x :: r => uptoBulkEntry x + uptoBulkEntries r
def uptoBulkEntry {H : Type} : Lit × DataW H → Nat
  | (.string bytes, d) => bytes.length + uptoBulk d + 1
  | (_, d) => uptoBulk d + 1
 end
def uptoSmall : (H : Type) → List (DataW H) → Bool := fun _ ds => decide (uptoBulkAll ds ≤ 1048576)
def OpenSpec.upto (s : _root_.Go.ChangeSpec) : _root_.Go.OpenSpec := { _root_.Go.OpenSpec.ofChange s with cond := some uptoSmall }

/-- 'tenancylaw11.ImageAll', WHERE WHAT IT READS IS OF BULK AT MOST 1048576: true; the input reads as it did. -/
def imageAllUptoRow : OpenClaim := { program := "ythefogjlenmgfaa", sum := "351efb072d020f2e4eedc4a1a46b93016ea1465cfc85b9abb1a2f4d97dca03e9", func := "tenancy/tenancylaw11.ImageAll", spec := "imageAll", inPlace := ["internal/abi.NoEscape", "internal/bytealg.MakeNoZero"], unfollowed := true, recurses := true, apart := false, narrowed := true }
def ImageAllUptoSaid : Prop := imageAllUptoRow.holds Try.pinned (OpenSpec.upto imageAllSpec)

/-- 'tenancylaw11.ImageBack', WHERE WHAT IT READS IS OF BULK AT MOST 1048576: true; the input reads as it did. -/
def imageBackUptoRow : OpenClaim := { program := "ythefogjlenmgfaa", sum := "351efb072d020f2e4eedc4a1a46b93016ea1465cfc85b9abb1a2f4d97dca03e9", func := "tenancy/tenancylaw11.ImageBack", spec := "imageBack", inPlace := ["internal/abi.NoEscape", "internal/bytealg.MakeNoZero"], unfollowed := true, recurses := true, apart := false, narrowed := true }
def ImageBackUptoSaid : Prop := imageBackUptoRow.holds Try.pinned (OpenSpec.upto imageBackSpec)

/-- 'tenancylaw11.ImageForms', WHERE WHAT IT READS IS OF BULK AT MOST 1048576: true; the input reads as it did. -/
def imageFormsUptoRow : OpenClaim := { program := "ythefogjlenmgfaa", sum := "351efb072d020f2e4eedc4a1a46b93016ea1465cfc85b9abb1a2f4d97dca03e9", func := "tenancy/tenancylaw11.ImageForms", spec := "imageForms", inPlace := ["internal/abi.NoEscape", "internal/bytealg.MakeNoZero"], unfollowed := true, recurses := true, apart := false, narrowed := true }
def ImageFormsUptoSaid : Prop := imageFormsUptoRow.holds Try.pinned (OpenSpec.upto imageFormsSpec)

/-- 'tenancylaw11.ImageFixed', WHERE WHAT IT READS IS OF BULK AT MOST 1048576: true; the input reads as it did. -/
def imageFixedUptoRow : OpenClaim := { program := "ythefogjlenmgfaa", sum := "351efb072d020f2e4eedc4a1a46b93016ea1465cfc85b9abb1a2f4d97dca03e9", func := "tenancy/tenancylaw11.ImageFixed", spec := "imageFixed", inPlace := ["internal/abi.NoEscape", "internal/bytealg.MakeNoZero"], unfollowed := true, recurses := true, apart := false, narrowed := true }
def ImageFixedUptoSaid : Prop := imageFixedUptoRow.holds Try.pinned (OpenSpec.upto imageFixedSpec)

end Rows
end Go.Proofs.Ythefogjlenmgfaa

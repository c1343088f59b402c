/-
  No cell of these rows narrows 'for every input' (looked for: loops, veiled, ifaces, maps, wideKeys, modest, calm, conditions, laid).
  DERIVED. THE GIVEN ROWS OF THIS SEAT. 5 by the template 'for every input the law returns true; each argument reads behind the call as it read before'; 0 by the template 'total and deterministic' (their statements: YthabbcjjecpbmaaGreatTotals.lean).
  GIVEN WITH THE SEED: the statements are not yours to turn. If you find one false, say at which input.
  Laid BY PROGRAM, IN A SANDBOX (cutbox-rows.mjs): the forced cells as the released guide's own fill.sh prints them over the translation db204cacb56ae8c9… (all of the seat's roots in one cut). By AI agents, Wed Nov 11 2026. No macro, syntax, notation, axiom, sorry.
-/
import Derived.Test.YthabbcjjecpbmaaGreatChecked
import GoSem.Claim
import GoSem.ClaimJoined
import GoSem.ClaimMapViews
import Derived.JoinedTies
import Derived.KernelRfl
namespace Go.Proofs.YthabbcjjecpbmaaGreat
/- THE CELL 'sum', in the pinned program and in every row, IS THE sha256 OF THE DUMP (.gsa) THAT YthabbcjjecpbmaaGreatProg.lean LOADS. Nothing in Lean hashes anything: it is a label: what it is worth is what the hold of that sum in a sandbox is worth. -/
noncomputable def Tryz.pinned : Pinned := { name := "ythabbcjjecpbmaagreat", sum := "db204cacb56ae8c90b82a133d4c02c81b8d7c4f033df7ca322487a03107e8c5c", checked := Tryz.checked }
namespace Rows
def none {H : Type} : Left H := { results := [], args := [] }

/-- 'tenancylaw20.ClientOne': WHATEVER THE INPUT: true; the input reads as it did. -/
def clientOneSpec : ChangeSpec := { name := "clientOne", fn := fun _ => fun
  | [d1, d2] => { results := [.lit (.bool true)], args := [d1, d2] }
  | _ => none }
def clientOneRow : OpenClaim := { program := "ythabbcjjecpbmaagreat", sum := "db204cacb56ae8c90b82a133d4c02c81b8d7c4f033df7ca322487a03107e8c5c", func := "tenancy/tenancylaw20.ClientOne", spec := "clientOne", inPlace := ["internal/abi.NoEscape", "internal/bytealg.MakeNoZero"], unfollowed := true, recurses := true, apart := false }
def ClientOneSaid : Prop := clientOneRow.holds Tryz.pinned (OpenSpec.ofChange clientOneSpec)

/-- ITS FALSE NEIGHBOUR: 'it returns false'. Refute it at one input. -/
def clientOneWrong : ChangeSpec := { name := "clientOne", fn := fun _ => fun
  | [d1, d2] => { results := [.lit (.bool false)], args := [d1, d2] }
  | _ => none }
def ClientOneWrongFalsely : Prop := clientOneRow.holds Tryz.pinned (OpenSpec.ofChange clientOneWrong)

/-- 'tenancylaw20.ClientLost': WHATEVER THE INPUT: true; the input reads as it did. -/
def clientLostSpec : ChangeSpec := { name := "clientLost", fn := fun _ => fun
  | [d1, d2] => { results := [.lit (.bool true)], args := [d1, d2] }
  | _ => none }
def clientLostRow : OpenClaim := { program := "ythabbcjjecpbmaagreat", sum := "db204cacb56ae8c90b82a133d4c02c81b8d7c4f033df7ca322487a03107e8c5c", func := "tenancy/tenancylaw20.ClientLost", spec := "clientLost", inPlace := ["internal/abi.NoEscape", "internal/bytealg.MakeNoZero"], unfollowed := true, recurses := true, apart := false }
def ClientLostSaid : Prop := clientLostRow.holds Tryz.pinned (OpenSpec.ofChange clientLostSpec)

/-- ITS FALSE NEIGHBOUR: 'it returns false'. Refute it at one input. -/
def clientLostWrong : ChangeSpec := { name := "clientLost", fn := fun _ => fun
  | [d1, d2] => { results := [.lit (.bool false)], args := [d1, d2] }
  | _ => none }
def ClientLostWrongFalsely : Prop := clientLostRow.holds Tryz.pinned (OpenSpec.ofChange clientLostWrong)

/-- 'tenancylaw20.ClientAgain': WHATEVER THE INPUT: true; the input reads as it did. -/
def clientAgainSpec : ChangeSpec := { name := "clientAgain", fn := fun _ => fun
  | [d1, d2, d3] => { results := [.lit (.bool true)], args := [d1, d2, d3] }
  | _ => none }
def clientAgainRow : OpenClaim := { program := "ythabbcjjecpbmaagreat", sum := "db204cacb56ae8c90b82a133d4c02c81b8d7c4f033df7ca322487a03107e8c5c", func := "tenancy/tenancylaw20.ClientAgain", spec := "clientAgain", inPlace := ["internal/abi.NoEscape", "internal/bytealg.MakeNoZero"], unfollowed := true, recurses := true, apart := false }
def ClientAgainSaid : Prop := clientAgainRow.holds Tryz.pinned (OpenSpec.ofChange clientAgainSpec)

/-- ITS FALSE NEIGHBOUR: 'it returns false'. Refute it at one input. -/
def clientAgainWrong : ChangeSpec := { name := "clientAgain", fn := fun _ => fun
  | [d1, d2, d3] => { results := [.lit (.bool false)], args := [d1, d2, d3] }
  | _ => none }
def ClientAgainWrongFalsely : Prop := clientAgainRow.holds Tryz.pinned (OpenSpec.ofChange clientAgainWrong)

/-- 'tenancylaw20.ClientEpoch': WHATEVER THE INPUT: true; the input reads as it did. -/
def clientEpochSpec : ChangeSpec := { name := "clientEpoch", fn := fun _ => fun
  | [d1, d2] => { results := [.lit (.bool true)], args := [d1, d2] }
  | _ => none }
def clientEpochRow : OpenClaim := { program := "ythabbcjjecpbmaagreat", sum := "db204cacb56ae8c90b82a133d4c02c81b8d7c4f033df7ca322487a03107e8c5c", func := "tenancy/tenancylaw20.ClientEpoch", spec := "clientEpoch", inPlace := ["internal/abi.NoEscape", "internal/bytealg.MakeNoZero"], unfollowed := true, recurses := true, apart := false }
def ClientEpochSaid : Prop := clientEpochRow.holds Tryz.pinned (OpenSpec.ofChange clientEpochSpec)

/-- ITS FALSE NEIGHBOUR: 'it returns false'. Refute it at one input. -/
def clientEpochWrong : ChangeSpec := { name := "clientEpoch", fn := fun _ => fun
  | [d1, d2] => { results := [.lit (.bool false)], args := [d1, d2] }
  | _ => none }
def ClientEpochWrongFalsely : Prop := clientEpochRow.holds Tryz.pinned (OpenSpec.ofChange clientEpochWrong)

/-- 'tenancylaw20.ClientGives': WHATEVER THE INPUT: true; the input reads as it did. -/
def clientGivesSpec : ChangeSpec := { name := "clientGives", fn := fun _ => fun
  | [d1, d2] => { results := [.lit (.bool true)], args := [d1, d2] }
  | _ => none }
def clientGivesRow : OpenClaim := { program := "ythabbcjjecpbmaagreat", sum := "db204cacb56ae8c90b82a133d4c02c81b8d7c4f033df7ca322487a03107e8c5c", func := "tenancy/tenancylaw20.ClientGives", spec := "clientGives", inPlace := ["internal/abi.NoEscape", "internal/bytealg.MakeNoZero"], unfollowed := true, recurses := true, apart := false }
def ClientGivesSaid : Prop := clientGivesRow.holds Tryz.pinned (OpenSpec.ofChange clientGivesSpec)

/-- ITS FALSE NEIGHBOUR: 'it returns false'. Refute it at one input. -/
def clientGivesWrong : ChangeSpec := { name := "clientGives", fn := fun _ => fun
  | [d1, d2] => { results := [.lit (.bool false)], args := [d1, d2] }
  | _ => none }
def ClientGivesWrongFalsely : Prop := clientGivesRow.holds Tryz.pinned (OpenSpec.ofChange clientGivesWrong)

/- THE SECOND FORM. 'bulk': how many values and letters a reading holds, each counted each time it is reached (what is shared counts as often as it is met; a slice's spare places count too). A statement '..UptoSaid' is the law's where the arguments, and the package variables that the reading takes, are together of bulk at most 1048576: NARROWER than '..Said'. Prove '..Said' where nothing that the law and all that it calls make is longer than what came in: it says more and counts as full. Else prove '..UptoSaid'. A law counts once. -/
mutual
def uptoBulk {H : Type} : DataW H → Nat
  | .lit (.string bytes) => bytes.length + 1
  | .lit _ => 1
  | .nil => 1
  | .ptr d => uptoBulk d + 1
  | .slice elems spare => uptoBulkAll elems + uptoBulkAll spare + 1
  | .agg parts => uptoBulkAll parts + 1
  | .iface _ d => uptoBulk d + 1
  | .map entries => uptoBulkEntries entries + 1
  | .held _ => 1
def uptoBulkAll {H : Type} : List (DataW H) → Nat
  | [] => 0
  | d :: r => uptoBulk d + uptoBulkAll r
def uptoBulkEntries {H : Type} : List (Lit × DataW H) → Nat
  | [] => 0
  | x :: r => uptoBulkEntry x + uptoBulkEntries r
def uptoBulkEntry {H : Type} : Lit × DataW H → Nat
  | (.string bytes, d) => bytes.length + uptoBulk d + 1
  | (_, d) => uptoBulk d + 1
 end
def uptoSmall : (H : Type) → List (DataW H) → Bool := fun _ ds => decide (uptoBulkAll ds ≤ 1048576)
def OpenSpec.upto (s : _root_.Go.ChangeSpec) : _root_.Go.OpenSpec := { _root_.Go.OpenSpec.ofChange s with cond := some uptoSmall }

/-- 'tenancylaw20.ClientOne', WHERE WHAT IT READS IS OF BULK AT MOST 1048576: true; the input reads as it did. -/
def clientOneUptoRow : OpenClaim := { program := "ythabbcjjecpbmaagreat", sum := "db204cacb56ae8c90b82a133d4c02c81b8d7c4f033df7ca322487a03107e8c5c", func := "tenancy/tenancylaw20.ClientOne", spec := "clientOne", inPlace := ["internal/abi.NoEscape", "internal/bytealg.MakeNoZero"], unfollowed := true, recurses := true, apart := false, narrowed := true }
def ClientOneUptoSaid : Prop := clientOneUptoRow.holds Tryz.pinned (OpenSpec.upto clientOneSpec)

/-- 'tenancylaw20.ClientLost', WHERE WHAT IT READS IS OF BULK AT MOST 1048576: true; the input reads as it did. -/
def clientLostUptoRow : OpenClaim := { program := "ythabbcjjecpbmaagreat", sum := "db204cacb56ae8c90b82a133d4c02c81b8d7c4f033df7ca322487a03107e8c5c", func := "tenancy/tenancylaw20.ClientLost", spec := "clientLost", inPlace := ["internal/abi.NoEscape", "internal/bytealg.MakeNoZero"], unfollowed := true, recurses := true, apart := false, narrowed := true }
def ClientLostUptoSaid : Prop := clientLostUptoRow.holds Tryz.pinned (OpenSpec.upto clientLostSpec)

/-- 'tenancylaw20.ClientAgain', WHERE WHAT IT READS IS OF BULK AT MOST 1048576: true; the input reads as it did. -/
def clientAgainUptoRow : OpenClaim := { program := "ythabbcjjecpbmaagreat", sum := "db204cacb56ae8c90b82a133d4c02c81b8d7c4f033df7ca322487a03107e8c5c", func := "tenancy/tenancylaw20.ClientAgain", spec := "clientAgain", inPlace := ["internal/abi.NoEscape", "internal/bytealg.MakeNoZero"], unfollowed := true, recurses := true, apart := false, narrowed := true }
def ClientAgainUptoSaid : Prop := clientAgainUptoRow.holds Tryz.pinned (OpenSpec.upto clientAgainSpec)

/-- 'tenancylaw20.ClientEpoch', WHERE WHAT IT READS IS OF BULK AT MOST 1048576: true; the input reads as it did. -/
def clientEpochUptoRow : OpenClaim := { program := "ythabbcjjecpbmaagreat", sum := "db204cacb56ae8c90b82a133d4c02c81b8d7c4f033df7ca322487a03107e8c5c", func := "tenancy/tenancylaw20.ClientEpoch", spec := "clientEpoch", inPlace := ["internal/abi.NoEscape", "internal/bytealg.MakeNoZero"], unfollowed := true, recurses := true, apart := false, narrowed := true }
def ClientEpochUptoSaid : Prop := clientEpochUptoRow.holds Tryz.pinned (OpenSpec.upto clientEpochSpec)

/-- 'tenancylaw20.ClientGives', WHERE WHAT IT READS IS OF BULK AT MOST 1048576: true; the input reads as it did. -/
def clientGivesUptoRow : OpenClaim := { program := "ythabbcjjecpbmaagreat", sum := "db204cacb56ae8c90b82a133d4c02c81b8d7c4f033df7ca322487a03107e8c5c", func := "tenancy/tenancylaw20.ClientGives", spec := "clientGives", inPlace := ["internal/abi.NoEscape", "internal/bytealg.MakeNoZero"], unfollowed := true, recurses := true, apart := false, narrowed := true }
def ClientGivesUptoSaid : Prop := clientGivesUptoRow.holds Tryz.pinned (OpenSpec.upto clientGivesSpec)

end Rows
end Go.Proofs.YthabbcjjecpbmaaGreat

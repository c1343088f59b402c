/-
  NARROWER THAN 'FOR EVERY INPUT', by the rows' own cells (each row's printed sentence says how): ServerOnce: laid · ServerKeeps: laid · ServerAll: laid · ServerHush: laid · ServerForms: laid · ServerDead: laid · ServerLends: laid · ServerCalls: laid.
  DERIVED. THE GIVEN ROWS OF THIS SEAT. 8 by the template 'for every input the law returns true; each argument reads behind the call as it read before'; 0 by the template 'total and deterministic' (their statements: YtlejgahbbfeagaaGreatDoorTotals.lean).
  GIVEN WITH THE SEED: the statements are not yours to turn. If you find one false, say at which input.
  Laid BY PROGRAM, IN A SANDBOX (cutbox-rows.mjs): the forced cells as the released guide's own fill.sh prints them over the translation 222821f51bc99d34… (all of the seat's roots in one cut). By AI agents, Wed Nov 11 2026. No macro, syntax, notation, axiom, sorry.
-/
import Derived.Test.YtlejgahbbfeagaaGreatDoorChecked
import GoSem.PinnedTables
import GoSem.Claim
import GoSem.ClaimJoined
import GoSem.ClaimMapViews
import Derived.JoinedTies
import Derived.KernelRfl
namespace Go.Proofs.YtlejgahbbfeagaaGreatDoor
/- THE CELL 'sum', in the pinned program and in every row, IS THE sha256 OF THE DUMP (.gsa) THAT YtlejgahbbfeagaaGreatDoorProg.lean LOADS. Nothing in Lean hashes anything: it is a label: what it is worth is what the hold of that sum in a sandbox is worth. -/
noncomputable def Tryz.pinned : Pinned := { name := "ytlejgahbbfeagaagreatdoor", sum := "222821f51bc99d346df954e94fcc90308d645ae78431b338b8ab170811cdd1e0", checked := Tryz.checked }
namespace Rows
def none {H : Type} : Left H := { results := [], args := [] }

/- WHAT THE LISTED PACKAGE-LEVEL VARIABLES READ AS WHEN THE CALL BEGINS. Each datum BY PROGRAM (the guide's laid-datum.mjs) off the statement by which the dump's own 'gosem.cut.vars' lays the variable. In a bare row this is a premise. The card (YtlejgahbbfeagaaGreatDoorCards.lean) ties it to the program's text. -/
def laid_unicode_utf8_acceptRanges {H : Type} : DataW H := .agg [.agg [.lit (.int .u8 128), .lit (.int .u8 191)], .agg [.lit (.int .u8 160), .lit (.int .u8 191)], .agg [.lit (.int .u8 128), .lit (.int .u8 159)], .agg [.lit (.int .u8 144), .lit (.int .u8 191)], .agg [.lit (.int .u8 128), .lit (.int .u8 143)], .agg [.lit (.int .u8 0), .lit (.int .u8 0)], .agg [.lit (.int .u8 0), .lit (.int .u8 0)], .agg [.lit (.int .u8 0), .lit (.int .u8 0)], .agg [.lit (.int .u8 0), .lit (.int .u8 0)], .agg [.lit (.int .u8 0), .lit (.int .u8 0)], .agg [.lit (.int .u8 0), .lit (.int .u8 0)], .agg [.lit (.int .u8 0), .lit (.int .u8 0)], .agg [.lit (.int .u8 0), .lit (.int .u8 0)], .agg [.lit (.int .u8 0), .lit (.int .u8 0)], .agg [.lit (.int .u8 0), .lit (.int .u8 0)], .agg [.lit (.int .u8 0), .lit (.int .u8 0)]]
/-- One of Go's own tables, pinned by name: the form's constant. -/
def laid_unicode_utf8_first : DataW Unit := Go.Pinned.utf8First

/-- 'tenancylaw18.ServerOnce': WHATEVER THE INPUT: true; the input reads as it did. -/
def serverOnceSpec : ChangeSpec := { name := "serverOnce", fn := fun _ => fun
  | [d1, d2] => { results := [.lit (.bool true)], args := [d1, d2] }
  | _ => none }
def serverOnceRow : OpenClaim := { program := "ytlejgahbbfeagaagreatdoor", sum := "222821f51bc99d346df954e94fcc90308d645ae78431b338b8ab170811cdd1e0", func := "tenancy/tenancylaw18.ServerOnce", spec := "serverOnce", inPlace := ["internal/abi.NoEscape", "internal/bytealg.MakeNoZero", "slices.overlaps[tenancy/api.Lease]", "internal/bytealg.IndexByteString", "internal/bytealg.IndexString"], unfollowed := true, recurses := true, named := ["unicode/utf8.first", "unicode/utf8.acceptRanges", "internal/bytealg.MaxLen"], apart := false, laid := [("unicode/utf8.acceptRanges", laid_unicode_utf8_acceptRanges), ("unicode/utf8.first", laid_unicode_utf8_first)] }
def ServerOnceSaid : Prop := serverOnceRow.holds Tryz.pinned (OpenSpec.ofChange serverOnceSpec)

/-- ITS FALSE NEIGHBOUR: 'it returns false'. Refute it at one input. -/
def serverOnceWrong : ChangeSpec := { name := "serverOnce", fn := fun _ => fun
  | [d1, d2] => { results := [.lit (.bool false)], args := [d1, d2] }
  | _ => none }
def ServerOnceWrongFalsely : Prop := serverOnceRow.holds Tryz.pinned (OpenSpec.ofChange serverOnceWrong)

/-- 'tenancylaw18.ServerKeeps': WHATEVER THE INPUT: true; the input reads as it did. -/
def serverKeepsSpec : ChangeSpec := { name := "serverKeeps", fn := fun _ => fun
  | [d1, d2, d3] => { results := [.lit (.bool true)], args := [d1, d2, d3] }
  | _ => none }
def serverKeepsRow : OpenClaim := { program := "ytlejgahbbfeagaagreatdoor", sum := "222821f51bc99d346df954e94fcc90308d645ae78431b338b8ab170811cdd1e0", func := "tenancy/tenancylaw18.ServerKeeps", spec := "serverKeeps", inPlace := ["internal/abi.NoEscape", "internal/bytealg.MakeNoZero", "slices.overlaps[tenancy/api.Lease]", "internal/bytealg.IndexByteString", "internal/bytealg.IndexString"], unfollowed := true, recurses := true, named := ["unicode/utf8.first", "unicode/utf8.acceptRanges", "internal/bytealg.MaxLen"], apart := false, laid := [("unicode/utf8.acceptRanges", laid_unicode_utf8_acceptRanges), ("unicode/utf8.first", laid_unicode_utf8_first)] }
def ServerKeepsSaid : Prop := serverKeepsRow.holds Tryz.pinned (OpenSpec.ofChange serverKeepsSpec)

/-- ITS FALSE NEIGHBOUR: 'it returns false'. Refute it at one input. -/
def serverKeepsWrong : ChangeSpec := { name := "serverKeeps", fn := fun _ => fun
  | [d1, d2, d3] => { results := [.lit (.bool false)], args := [d1, d2, d3] }
  | _ => none }
def ServerKeepsWrongFalsely : Prop := serverKeepsRow.holds Tryz.pinned (OpenSpec.ofChange serverKeepsWrong)

/-- 'tenancylaw18.ServerAll': WHATEVER THE INPUT: true; the input reads as it did. -/
def serverAllSpec : ChangeSpec := { name := "serverAll", fn := fun _ => fun
  | [d1, d2, d3, d4] => { results := [.lit (.bool true)], args := [d1, d2, d3, d4] }
  | _ => none }
def serverAllRow : OpenClaim := { program := "ytlejgahbbfeagaagreatdoor", sum := "222821f51bc99d346df954e94fcc90308d645ae78431b338b8ab170811cdd1e0", func := "tenancy/tenancylaw18.ServerAll", spec := "serverAll", inPlace := ["internal/abi.NoEscape", "internal/bytealg.MakeNoZero", "slices.overlaps[tenancy/api.Lease]", "internal/bytealg.IndexByteString", "internal/bytealg.IndexString"], unfollowed := true, recurses := true, named := ["unicode/utf8.first", "unicode/utf8.acceptRanges", "internal/bytealg.MaxLen"], apart := false, laid := [("unicode/utf8.acceptRanges", laid_unicode_utf8_acceptRanges), ("unicode/utf8.first", laid_unicode_utf8_first)] }
def ServerAllSaid : Prop := serverAllRow.holds Tryz.pinned (OpenSpec.ofChange serverAllSpec)

/-- ITS FALSE NEIGHBOUR: 'it returns false'. Refute it at one input. -/
def serverAllWrong : ChangeSpec := { name := "serverAll", fn := fun _ => fun
  | [d1, d2, d3, d4] => { results := [.lit (.bool false)], args := [d1, d2, d3, d4] }
  | _ => none }
def ServerAllWrongFalsely : Prop := serverAllRow.holds Tryz.pinned (OpenSpec.ofChange serverAllWrong)

/-- 'tenancylaw18.ServerHush': WHATEVER THE INPUT: true; the input reads as it did. -/
def serverHushSpec : ChangeSpec := { name := "serverHush", fn := fun _ => fun
  | [d1, d2, d3] => { results := [.lit (.bool true)], args := [d1, d2, d3] }
  | _ => none }
def serverHushRow : OpenClaim := { program := "ytlejgahbbfeagaagreatdoor", sum := "222821f51bc99d346df954e94fcc90308d645ae78431b338b8ab170811cdd1e0", func := "tenancy/tenancylaw18.ServerHush", spec := "serverHush", inPlace := ["internal/abi.NoEscape", "internal/bytealg.MakeNoZero", "slices.overlaps[tenancy/api.Lease]", "internal/bytealg.IndexByteString", "internal/bytealg.IndexString"], unfollowed := true, recurses := true, named := ["unicode/utf8.first", "unicode/utf8.acceptRanges", "internal/bytealg.MaxLen"], apart := false, laid := [("unicode/utf8.acceptRanges", laid_unicode_utf8_acceptRanges), ("unicode/utf8.first", laid_unicode_utf8_first)] }
def ServerHushSaid : Prop := serverHushRow.holds Tryz.pinned (OpenSpec.ofChange serverHushSpec)

/-- ITS FALSE NEIGHBOUR: 'it returns false'. Refute it at one input. -/
def serverHushWrong : ChangeSpec := { name := "serverHush", fn := fun _ => fun
  | [d1, d2, d3] => { results := [.lit (.bool false)], args := [d1, d2, d3] }
  | _ => none }
def ServerHushWrongFalsely : Prop := serverHushRow.holds Tryz.pinned (OpenSpec.ofChange serverHushWrong)

/-- 'tenancylaw18.ServerForms': WHATEVER THE INPUT: true; the input reads as it did. -/
def serverFormsSpec : ChangeSpec := { name := "serverForms", fn := fun _ => fun
  | [] => { results := [.lit (.bool true)], args := [] }
  | _ => none }
def serverFormsRow : OpenClaim := { program := "ytlejgahbbfeagaagreatdoor", sum := "222821f51bc99d346df954e94fcc90308d645ae78431b338b8ab170811cdd1e0", func := "tenancy/tenancylaw18.ServerForms", spec := "serverForms", inPlace := ["internal/abi.NoEscape", "internal/bytealg.MakeNoZero", "slices.overlaps[tenancy/api.Lease]", "internal/bytealg.IndexByteString", "internal/bytealg.IndexString"], unfollowed := true, recurses := true, named := ["unicode/utf8.first", "unicode/utf8.acceptRanges", "internal/bytealg.MaxLen"], apart := false, laid := [("unicode/utf8.acceptRanges", laid_unicode_utf8_acceptRanges), ("unicode/utf8.first", laid_unicode_utf8_first)] }
def ServerFormsSaid : Prop := serverFormsRow.holds Tryz.pinned (OpenSpec.ofChange serverFormsSpec)

/-- ITS FALSE NEIGHBOUR: 'it returns false'. Refute it at one input. -/
def serverFormsWrong : ChangeSpec := { name := "serverForms", fn := fun _ => fun
  | [] => { results := [.lit (.bool false)], args := [] }
  | _ => none }
def ServerFormsWrongFalsely : Prop := serverFormsRow.holds Tryz.pinned (OpenSpec.ofChange serverFormsWrong)

/-- 'tenancylaw18.ServerDead': WHATEVER THE INPUT: true; the input reads as it did. -/
def serverDeadSpec : ChangeSpec := { name := "serverDead", fn := fun _ => fun
  | [d1, d2, d3] => { results := [.lit (.bool true)], args := [d1, d2, d3] }
  | _ => none }
def serverDeadRow : OpenClaim := { program := "ytlejgahbbfeagaagreatdoor", sum := "222821f51bc99d346df954e94fcc90308d645ae78431b338b8ab170811cdd1e0", func := "tenancy/tenancylaw18.ServerDead", spec := "serverDead", inPlace := ["internal/abi.NoEscape", "internal/bytealg.MakeNoZero", "slices.overlaps[tenancy/api.Lease]", "internal/bytealg.IndexByteString", "internal/bytealg.IndexString"], unfollowed := true, recurses := true, named := ["unicode/utf8.first", "unicode/utf8.acceptRanges", "internal/bytealg.MaxLen"], apart := false, laid := [("unicode/utf8.acceptRanges", laid_unicode_utf8_acceptRanges), ("unicode/utf8.first", laid_unicode_utf8_first)] }
def ServerDeadSaid : Prop := serverDeadRow.holds Tryz.pinned (OpenSpec.ofChange serverDeadSpec)

/-- ITS FALSE NEIGHBOUR: 'it returns false'. Refute it at one input. -/
def serverDeadWrong : ChangeSpec := { name := "serverDead", fn := fun _ => fun
  | [d1, d2, d3] => { results := [.lit (.bool false)], args := [d1, d2, d3] }
  | _ => none }
def ServerDeadWrongFalsely : Prop := serverDeadRow.holds Tryz.pinned (OpenSpec.ofChange serverDeadWrong)

/-- 'tenancylaw18.ServerLends': WHATEVER THE INPUT: true; the input reads as it did. -/
def serverLendsSpec : ChangeSpec := { name := "serverLends", fn := fun _ => fun
  | [d] => { results := [.lit (.bool true)], args := [d] }
  | _ => none }
def serverLendsRow : OpenClaim := { program := "ytlejgahbbfeagaagreatdoor", sum := "222821f51bc99d346df954e94fcc90308d645ae78431b338b8ab170811cdd1e0", func := "tenancy/tenancylaw18.ServerLends", spec := "serverLends", inPlace := ["internal/abi.NoEscape", "internal/bytealg.MakeNoZero", "slices.overlaps[tenancy/api.Lease]", "internal/bytealg.IndexByteString", "internal/bytealg.IndexString"], unfollowed := true, recurses := true, named := ["unicode/utf8.first", "unicode/utf8.acceptRanges", "internal/bytealg.MaxLen"], apart := false, laid := [("unicode/utf8.acceptRanges", laid_unicode_utf8_acceptRanges), ("unicode/utf8.first", laid_unicode_utf8_first)] }
def ServerLendsSaid : Prop := serverLendsRow.holds Tryz.pinned (OpenSpec.ofChange serverLendsSpec)

/-- ITS FALSE NEIGHBOUR: 'it returns false'. Refute it at one input. -/
def serverLendsWrong : ChangeSpec := { name := "serverLends", fn := fun _ => fun
  | [d] => { results := [.lit (.bool false)], args := [d] }
  | _ => none }
def ServerLendsWrongFalsely : Prop := serverLendsRow.holds Tryz.pinned (OpenSpec.ofChange serverLendsWrong)

/-- 'tenancylaw18.ServerCalls': WHATEVER THE INPUT: true; the input reads as it did. -/
def serverCallsSpec : ChangeSpec := { name := "serverCalls", fn := fun _ => fun
  | [d] => { results := [.lit (.bool true)], args := [d] }
  | _ => none }
def serverCallsRow : OpenClaim := { program := "ytlejgahbbfeagaagreatdoor", sum := "222821f51bc99d346df954e94fcc90308d645ae78431b338b8ab170811cdd1e0", func := "tenancy/tenancylaw18.ServerCalls", spec := "serverCalls", inPlace := ["internal/abi.NoEscape", "internal/bytealg.MakeNoZero", "slices.overlaps[tenancy/api.Lease]", "internal/bytealg.IndexByteString", "internal/bytealg.IndexString"], unfollowed := true, recurses := true, named := ["unicode/utf8.first", "unicode/utf8.acceptRanges", "internal/bytealg.MaxLen"], apart := false, laid := [("unicode/utf8.acceptRanges", laid_unicode_utf8_acceptRanges), ("unicode/utf8.first", laid_unicode_utf8_first)] }
def ServerCallsSaid : Prop := serverCallsRow.holds Tryz.pinned (OpenSpec.ofChange serverCallsSpec)

/-- ITS FALSE NEIGHBOUR: 'it returns false'. Refute it at one input. -/
def serverCallsWrong : ChangeSpec := { name := "serverCalls", fn := fun _ => fun
  | [d] => { results := [.lit (.bool false)], args := [d] }
  | _ => none }
def ServerCallsWrongFalsely : Prop := serverCallsRow.holds Tryz.pinned (OpenSpec.ofChange serverCallsWrong)

/- THE SECOND FORM. 'bulk': how many values and letters a reading holds, each counted each time it is reached (what is shared counts as often as it is met; a slice's spare places count too). A statement '..UptoSaid' is the law's where the arguments, and the package variables that the reading takes, are together of bulk at most 1048576: NARROWER than '..Said'. Prove '..Said' where nothing that the law and all that it calls make is longer than what came in: it says more and counts as full. Else prove '..UptoSaid'. A law counts once. -/
mutual
def uptoBulk {H : Type} : DataW H → Nat
  | .lit (.string bytes) => bytes.length + 1
  | .lit _ => 1
  | .nil => 1
  | .ptr d => uptoBulk d + 1
  | .slice elems spare => uptoBulkAll elems + uptoBulkAll spare + 1
  | .agg parts => uptoBulkAll parts + 1
  | .iface _ d => uptoBulk d + 1
  | .map entries => uptoBulkEntries entries + 1
  | .held _ => 1
def uptoBulkAll {H : Type} : List (DataW H) → Nat
  | [] => 0
  | d :: r => uptoBulk d + uptoBulkAll r
def uptoBulkEntries {H : Type} : List (Lit × DataW H) → Nat
  | [] => 0
  | x :: r => uptoBulkEntry x + uptoBulkEntries r
def uptoBulkEntry {H : Type} : Lit × DataW H → Nat
  | (.string bytes, d) => bytes.length + uptoBulk d + 1
  | (_, d) => uptoBulk d + 1
 end
def uptoSmall : (H : Type) → List (DataW H) → Bool := fun _ ds => decide (uptoBulkAll ds ≤ 1048576)
def OpenSpec.upto (s : _root_.Go.ChangeSpec) : _root_.Go.OpenSpec := { _root_.Go.OpenSpec.ofChange s with cond := some uptoSmall }

/-- 'tenancylaw18.ServerOnce', WHERE WHAT IT READS IS OF BULK AT MOST 1048576: true; the input reads as it did. -/
def serverOnceUptoRow : OpenClaim := { program := "ytlejgahbbfeagaagreatdoor", sum := "222821f51bc99d346df954e94fcc90308d645ae78431b338b8ab170811cdd1e0", func := "tenancy/tenancylaw18.ServerOnce", spec := "serverOnce", inPlace := ["internal/abi.NoEscape", "internal/bytealg.MakeNoZero", "slices.overlaps[tenancy/api.Lease]", "internal/bytealg.IndexByteString", "internal/bytealg.IndexString"], unfollowed := true, recurses := true, named := ["unicode/utf8.first", "unicode/utf8.acceptRanges", "internal/bytealg.MaxLen"], apart := false, laid := [("unicode/utf8.acceptRanges", laid_unicode_utf8_acceptRanges), ("unicode/utf8.first", laid_unicode_utf8_first)], narrowed := true }
def ServerOnceUptoSaid : Prop := serverOnceUptoRow.holds Tryz.pinned (OpenSpec.upto serverOnceSpec)

/-- 'tenancylaw18.ServerKeeps', WHERE WHAT IT READS IS OF BULK AT MOST 1048576: true; the input reads as it did. -/
def serverKeepsUptoRow : OpenClaim := { program := "ytlejgahbbfeagaagreatdoor", sum := "222821f51bc99d346df954e94fcc90308d645ae78431b338b8ab170811cdd1e0", func := "tenancy/tenancylaw18.ServerKeeps", spec := "serverKeeps", inPlace := ["internal/abi.NoEscape", "internal/bytealg.MakeNoZero", "slices.overlaps[tenancy/api.Lease]", "internal/bytealg.IndexByteString", "internal/bytealg.IndexString"], unfollowed := true, recurses := true, named := ["unicode/utf8.first", "unicode/utf8.acceptRanges", "internal/bytealg.MaxLen"], apart := false, laid := [("unicode/utf8.acceptRanges", laid_unicode_utf8_acceptRanges), ("unicode/utf8.first", laid_unicode_utf8_first)], narrowed := true }
def ServerKeepsUptoSaid : Prop := serverKeepsUptoRow.holds Tryz.pinned (OpenSpec.upto serverKeepsSpec)

/-- 'tenancylaw18.ServerAll', WHERE WHAT IT READS IS OF BULK AT MOST 1048576: true; the input reads as it did. -/
def serverAllUptoRow : OpenClaim := { program := "ytlejgahbbfeagaagreatdoor", sum := "222821f51bc99d346df954e94fcc90308d645ae78431b338b8ab170811cdd1e0", func := "tenancy/tenancylaw18.ServerAll", spec := "serverAll", inPlace := ["internal/abi.NoEscape", "internal/bytealg.MakeNoZero", "slices.overlaps[tenancy/api.Lease]", "internal/bytealg.IndexByteString", "internal/bytealg.IndexString"], unfollowed := true, recurses := true, named := ["unicode/utf8.first", "unicode/utf8.acceptRanges", "internal/bytealg.MaxLen"], apart := false, laid := [("unicode/utf8.acceptRanges", laid_unicode_utf8_acceptRanges), ("unicode/utf8.first", laid_unicode_utf8_first)], narrowed := true }
def ServerAllUptoSaid : Prop := serverAllUptoRow.holds Tryz.pinned (OpenSpec.upto serverAllSpec)

/-- 'tenancylaw18.ServerHush', WHERE WHAT IT READS IS OF BULK AT MOST 1048576: true; the input reads as it did. -/
def serverHushUptoRow : OpenClaim := { program := "ytlejgahbbfeagaagreatdoor", sum := "222821f51bc99d346df954e94fcc90308d645ae78431b338b8ab170811cdd1e0", func := "tenancy/tenancylaw18.ServerHush", spec := "serverHush", inPlace := ["internal/abi.NoEscape", "internal/bytealg.MakeNoZero", "slices.overlaps[tenancy/api.Lease]", "internal/bytealg.IndexByteString", "internal/bytealg.IndexString"], unfollowed := true, recurses := true, named := ["unicode/utf8.first", "unicode/utf8.acceptRanges", "internal/bytealg.MaxLen"], apart := false, laid := [("unicode/utf8.acceptRanges", laid_unicode_utf8_acceptRanges), ("unicode/utf8.first", laid_unicode_utf8_first)], narrowed := true }
def ServerHushUptoSaid : Prop := serverHushUptoRow.holds Tryz.pinned (OpenSpec.upto serverHushSpec)

/-- 'tenancylaw18.ServerForms', WHERE WHAT IT READS IS OF BULK AT MOST 1048576: true; the input reads as it did. -/
def serverFormsUptoRow : OpenClaim := { program := "ytlejgahbbfeagaagreatdoor", sum := "222821f51bc99d346df954e94fcc90308d645ae78431b338b8ab170811cdd1e0", func := "tenancy/tenancylaw18.ServerForms", spec := "serverForms", inPlace := ["internal/abi.NoEscape", "internal/bytealg.MakeNoZero", "slices.overlaps[tenancy/api.Lease]", "internal/bytealg.IndexByteString", "internal/bytealg.IndexString"], unfollowed := true, recurses := true, named := ["unicode/utf8.first", "unicode/utf8.acceptRanges", "internal/bytealg.MaxLen"], apart := false, laid := [("unicode/utf8.acceptRanges", laid_unicode_utf8_acceptRanges), ("unicode/utf8.first", laid_unicode_utf8_first)], narrowed := true }
def ServerFormsUptoSaid : Prop := serverFormsUptoRow.holds Tryz.pinned (OpenSpec.upto serverFormsSpec)

/-- 'tenancylaw18.ServerDead', WHERE WHAT IT READS IS OF BULK AT MOST 1048576: true; the input reads as it did. -/
def serverDeadUptoRow : OpenClaim := { program := "ytlejgahbbfeagaagreatdoor", sum := "222821f51bc99d346df954e94fcc90308d645ae78431b338b8ab170811cdd1e0", func := "tenancy/tenancylaw18.ServerDead", spec := "serverDead", inPlace := ["internal/abi.NoEscape", "internal/bytealg.MakeNoZero", "slices.overlaps[tenancy/api.Lease]", "internal/bytealg.IndexByteString", "internal/bytealg.IndexString"], unfollowed := true, recurses := true, named := ["unicode/utf8.first", "unicode/utf8.acceptRanges", "internal/bytealg.MaxLen"], apart := false, laid := [("unicode/utf8.acceptRanges", laid_unicode_utf8_acceptRanges), ("unicode/utf8.first", laid_unicode_utf8_first)], narrowed := true }
def ServerDeadUptoSaid : Prop := serverDeadUptoRow.holds Tryz.pinned (OpenSpec.upto serverDeadSpec)

/-- 'tenancylaw18.ServerLends', WHERE WHAT IT READS IS OF BULK AT MOST 1048576: true; the input reads as it did. -/
def serverLendsUptoRow : OpenClaim := { program := "ytlejgahbbfeagaagreatdoor", sum := "222821f51bc99d346df954e94fcc90308d645ae78431b338b8ab170811cdd1e0", func := "tenancy/tenancylaw18.ServerLends", spec := "serverLends", inPlace := ["internal/abi.NoEscape", "internal/bytealg.MakeNoZero", "slices.overlaps[tenancy/api.Lease]", "internal/bytealg.IndexByteString", "internal/bytealg.IndexString"], unfollowed := true, recurses := true, named := ["unicode/utf8.first", "unicode/utf8.acceptRanges", "internal/bytealg.MaxLen"], apart := false, laid := [("unicode/utf8.acceptRanges", laid_unicode_utf8_acceptRanges), ("unicode/utf8.first", laid_unicode_utf8_first)], narrowed := true }
def ServerLendsUptoSaid : Prop := serverLendsUptoRow.holds Tryz.pinned (OpenSpec.upto serverLendsSpec)

/-- 'tenancylaw18.ServerCalls', WHERE WHAT IT READS IS OF BULK AT MOST 1048576: true; the input reads as it did. -/
def serverCallsUptoRow : OpenClaim := { program := "ytlejgahbbfeagaagreatdoor", sum := "222821f51bc99d346df954e94fcc90308d645ae78431b338b8ab170811cdd1e0", func := "tenancy/tenancylaw18.ServerCalls", spec := "serverCalls", inPlace := ["internal/abi.NoEscape", "internal/bytealg.MakeNoZero", "slices.overlaps[tenancy/api.Lease]", "internal/bytealg.IndexByteString", "internal/bytealg.IndexString"], unfollowed := true, recurses := true, named := ["unicode/utf8.first", "unicode/utf8.acceptRanges", "internal/bytealg.MaxLen"], apart := false, laid := [("unicode/utf8.acceptRanges", laid_unicode_utf8_acceptRanges), ("unicode/utf8.first", laid_unicode_utf8_first)], narrowed := true }
def ServerCallsUptoSaid : Prop := serverCallsUptoRow.holds Tryz.pinned (OpenSpec.upto serverCallsSpec)

end Rows
end Go.Proofs.YtlejgahbbfeagaaGreatDoor

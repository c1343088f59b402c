/-
  NARROWER THAN 'FOR EVERY INPUT', by the rows' own cells (each row's printed sentence says how): JrnlWhole: laid · JrnlHead: laid · JrnlForms: laid · JrnlTwice: laid · JrnlMany: laid.
  DERIVED. THE GIVEN ROWS OF THIS SEAT. 5 by the template 'for every input the law returns true; each argument reads behind the call as it read before'; 0 by the template 'total and deterministic' (their statements: YtddhfdbfackahaaDoorTotals.lean).
  GIVEN WITH THE SEED: the statements are not yours to turn. If you find one false, say at which input.
  Laid BY PROGRAM, IN A SANDBOX (cutbox-rows.mjs): the forced cells as the released guide's own fill.sh prints them over the translation 9eea0c76ed1b69b7… (all of the seat's roots in one cut). By AI agents, Wed Nov 11 2026. No macro, syntax, notation, axiom, sorry.
-/
import Derived.Test.YtddhfdbfackahaaDoorChecked
import GoSem.PinnedTables
import GoSem.Claim
import GoSem.ClaimJoined
import GoSem.ClaimMapViews
import Derived.JoinedTies
import Derived.KernelRfl
namespace Go.Proofs.YtddhfdbfackahaaDoor
/- THE CELL 'sum', in the pinned program and in every row, IS THE sha256 OF THE DUMP (.gsa) THAT YtddhfdbfackahaaDoorProg.lean LOADS. Nothing in Lean hashes anything: it is a label: what it is worth is what the hold of that sum in a sandbox is worth. -/
noncomputable def Tryd.pinned : Pinned := { name := "ytddhfdbfackahaadoor", sum := "9eea0c76ed1b69b74cf35d09a336ab8dec49b2ee971ad7ad719d0514c340130b", checked := Tryd.checked }
namespace Rows
def none {H : Type} : Left H := { results := [], args := [] }

/- WHAT THE LISTED PACKAGE-LEVEL VARIABLES READ AS WHEN THE CALL BEGINS. Each datum BY PROGRAM (the guide's laid-datum.mjs) off the statement by which the dump's own 'gosem.cut.vars' lays the variable. In a bare row this is a premise. The card (YtddhfdbfackahaaDoorCards.lean) ties it to the program's text. -/
def laid_unicode_utf8_acceptRanges {H : Type} : DataW H := .agg [.agg [.lit (.int .u8 128), .lit (.int .u8 191)], .agg [.lit (.int .u8 160), .lit (.int .u8 191)], .agg [.lit (.int .u8 128), .lit (.int .u8 159)], .agg [.lit (.int .u8 144), .lit (.int .u8 191)], .agg [.lit (.int .u8 128), .lit (.int .u8 143)], .agg [.lit (.int .u8 0), .lit (.int .u8 0)], .agg [.lit (.int .u8 0), .lit (.int .u8 0)], .agg [.lit (.int .u8 0), .lit (.int .u8 0)], .agg [.lit (.int .u8 0), .lit (.int .u8 0)], .agg [.lit (.int .u8 0), .lit (.int .u8 0)], .agg [.lit (.int .u8 0), .lit (.int .u8 0)], .agg [.lit (.int .u8 0), .lit (.int .u8 0)], .agg [.lit (.int .u8 0), .lit (.int .u8 0)], .agg [.lit (.int .u8 0), .lit (.int .u8 0)], .agg [.lit (.int .u8 0), .lit (.int .u8 0)], .agg [.lit (.int .u8 0), .lit (.int .u8 0)]]
/-- One of Go's own tables, pinned by name: the form's constant. -/
def laid_unicode_utf8_first : DataW Unit := Go.Pinned.utf8First

/-- 'tenancylaw6.JrnlWhole': WHATEVER THE INPUT: true; the input reads as it did. -/
def jrnlWholeSpec : ChangeSpec := { name := "jrnlWhole", fn := fun _ => fun
  | [d1, d2, d3, d4, d5, d6] => { results := [.lit (.bool true)], args := [d1, d2, d3, d4, d5, d6] }
  | _ => none }
def jrnlWholeRow : OpenClaim := { program := "ytddhfdbfackahaadoor", sum := "9eea0c76ed1b69b74cf35d09a336ab8dec49b2ee971ad7ad719d0514c340130b", func := "tenancy/tenancylaw6.JrnlWhole", spec := "jrnlWhole", inPlace := ["internal/bytealg.IndexByteString", "internal/bytealg.IndexString"], unfollowed := true, recurses := true, named := ["unicode/utf8.first", "unicode/utf8.acceptRanges", "internal/bytealg.MaxLen"], apart := false, laid := [("unicode/utf8.acceptRanges", laid_unicode_utf8_acceptRanges), ("unicode/utf8.first", laid_unicode_utf8_first)] }
def JrnlWholeSaid : Prop := jrnlWholeRow.holds Tryd.pinned (OpenSpec.ofChange jrnlWholeSpec)

/-- ITS FALSE NEIGHBOUR: 'it returns false'. Refute it at one input. -/
def jrnlWholeWrong : ChangeSpec := { name := "jrnlWhole", fn := fun _ => fun
  | [d1, d2, d3, d4, d5, d6] => { results := [.lit (.bool false)], args := [d1, d2, d3, d4, d5, d6] }
  | _ => none }
def JrnlWholeWrongFalsely : Prop := jrnlWholeRow.holds Tryd.pinned (OpenSpec.ofChange jrnlWholeWrong)

/-- 'tenancylaw6.JrnlHead': WHATEVER THE INPUT: true; the input reads as it did. -/
def jrnlHeadSpec : ChangeSpec := { name := "jrnlHead", fn := fun _ => fun
  | [d1, d2] => { results := [.lit (.bool true)], args := [d1, d2] }
  | _ => none }
def jrnlHeadRow : OpenClaim := { program := "ytddhfdbfackahaadoor", sum := "9eea0c76ed1b69b74cf35d09a336ab8dec49b2ee971ad7ad719d0514c340130b", func := "tenancy/tenancylaw6.JrnlHead", spec := "jrnlHead", inPlace := ["internal/bytealg.IndexByteString", "internal/bytealg.IndexString"], unfollowed := true, recurses := true, named := ["unicode/utf8.first", "unicode/utf8.acceptRanges", "internal/bytealg.MaxLen"], apart := false, laid := [("unicode/utf8.acceptRanges", laid_unicode_utf8_acceptRanges), ("unicode/utf8.first", laid_unicode_utf8_first)] }
def JrnlHeadSaid : Prop := jrnlHeadRow.holds Tryd.pinned (OpenSpec.ofChange jrnlHeadSpec)

/-- ITS FALSE NEIGHBOUR: 'it returns false'. Refute it at one input. -/
def jrnlHeadWrong : ChangeSpec := { name := "jrnlHead", fn := fun _ => fun
  | [d1, d2] => { results := [.lit (.bool false)], args := [d1, d2] }
  | _ => none }
def JrnlHeadWrongFalsely : Prop := jrnlHeadRow.holds Tryd.pinned (OpenSpec.ofChange jrnlHeadWrong)

/-- 'tenancylaw6.JrnlForms': WHATEVER THE INPUT: true; the input reads as it did. -/
def jrnlFormsSpec : ChangeSpec := { name := "jrnlForms", fn := fun _ => fun
  | [] => { results := [.lit (.bool true)], args := [] }
  | _ => none }
def jrnlFormsRow : OpenClaim := { program := "ytddhfdbfackahaadoor", sum := "9eea0c76ed1b69b74cf35d09a336ab8dec49b2ee971ad7ad719d0514c340130b", func := "tenancy/tenancylaw6.JrnlForms", spec := "jrnlForms", inPlace := ["internal/bytealg.IndexByteString", "internal/bytealg.IndexString"], unfollowed := true, recurses := true, named := ["unicode/utf8.first", "unicode/utf8.acceptRanges", "internal/bytealg.MaxLen"], apart := false, laid := [("unicode/utf8.acceptRanges", laid_unicode_utf8_acceptRanges), ("unicode/utf8.first", laid_unicode_utf8_first)] }
def JrnlFormsSaid : Prop := jrnlFormsRow.holds Tryd.pinned (OpenSpec.ofChange jrnlFormsSpec)

/-- ITS FALSE NEIGHBOUR: 'it returns false'. Refute it at one input. -/
def jrnlFormsWrong : ChangeSpec := { name := "jrnlForms", fn := fun _ => fun
  | [] => { results := [.lit (.bool false)], args := [] }
  | _ => none }
def JrnlFormsWrongFalsely : Prop := jrnlFormsRow.holds Tryd.pinned (OpenSpec.ofChange jrnlFormsWrong)

/-- 'tenancylaw6.JrnlTwice': WHATEVER THE INPUT: true; the input reads as it did. -/
def jrnlTwiceSpec : ChangeSpec := { name := "jrnlTwice", fn := fun _ => fun
  | [d1, d2, d3, d4] => { results := [.lit (.bool true)], args := [d1, d2, d3, d4] }
  | _ => none }
def jrnlTwiceRow : OpenClaim := { program := "ytddhfdbfackahaadoor", sum := "9eea0c76ed1b69b74cf35d09a336ab8dec49b2ee971ad7ad719d0514c340130b", func := "tenancy/tenancylaw6.JrnlTwice", spec := "jrnlTwice", inPlace := ["internal/bytealg.IndexByteString", "internal/bytealg.IndexString"], unfollowed := true, recurses := true, named := ["unicode/utf8.first", "unicode/utf8.acceptRanges", "internal/bytealg.MaxLen"], apart := false, laid := [("unicode/utf8.acceptRanges", laid_unicode_utf8_acceptRanges), ("unicode/utf8.first", laid_unicode_utf8_first)] }
def JrnlTwiceSaid : Prop := jrnlTwiceRow.holds Tryd.pinned (OpenSpec.ofChange jrnlTwiceSpec)

/-- ITS FALSE NEIGHBOUR: 'it returns false'. Refute it at one input. -/
def jrnlTwiceWrong : ChangeSpec := { name := "jrnlTwice", fn := fun _ => fun
  | [d1, d2, d3, d4] => { results := [.lit (.bool false)], args := [d1, d2, d3, d4] }
  | _ => none }
def JrnlTwiceWrongFalsely : Prop := jrnlTwiceRow.holds Tryd.pinned (OpenSpec.ofChange jrnlTwiceWrong)

/-- 'tenancylaw6.JrnlMany': WHATEVER THE INPUT: true; the input reads as it did. -/
def jrnlManySpec : ChangeSpec := { name := "jrnlMany", fn := fun _ => fun
  | [d] => { results := [.lit (.bool true)], args := [d] }
  | _ => none }
def jrnlManyRow : OpenClaim := { program := "ytddhfdbfackahaadoor", sum := "9eea0c76ed1b69b74cf35d09a336ab8dec49b2ee971ad7ad719d0514c340130b", func := "tenancy/tenancylaw6.JrnlMany", spec := "jrnlMany", inPlace := ["internal/bytealg.IndexByteString", "internal/bytealg.IndexString"], unfollowed := true, recurses := true, named := ["unicode/utf8.first", "unicode/utf8.acceptRanges", "internal/bytealg.MaxLen"], apart := false, laid := [("unicode/utf8.acceptRanges", laid_unicode_utf8_acceptRanges), ("unicode/utf8.first", laid_unicode_utf8_first)] }
def JrnlManySaid : Prop := jrnlManyRow.holds Tryd.pinned (OpenSpec.ofChange jrnlManySpec)

/-- ITS FALSE NEIGHBOUR: 'it returns false'. Refute it at one input. -/
def jrnlManyWrong : ChangeSpec := { name := "jrnlMany", fn := fun _ => fun
  | [d] => { results := [.lit (.bool false)], args := [d] }
  | _ => none }
def JrnlManyWrongFalsely : Prop := jrnlManyRow.holds Tryd.pinned (OpenSpec.ofChange jrnlManyWrong)

/- THE SECOND FORM. 'bulk': how many values and letters a reading holds, each counted each time it is reached (what is shared counts as often as it is met; a slice's spare places count too). A statement '..UptoSaid' is the law's where the arguments, and the package variables that the reading takes, are together of bulk at most 1048576: NARROWER than '..Said'. Prove '..Said' where nothing that the law and all that it calls make is longer than what came in: it says more and counts as full. Else prove '..UptoSaid'. A law counts once. -/
mutual
def uptoBulk {H : Type} : DataW H → Nat
  | .lit (.string bytes) => bytes.length + 1
  | .lit _ => 1
  | .nil => 1
  | .ptr d => uptoBulk d + 1
  | .slice elems spare => uptoBulkAll elems + uptoBulkAll spare + 1
  | .agg parts => uptoBulkAll parts + 1
  | .iface _ d => uptoBulk d + 1
  | .map entries => uptoBulkEntries entries + 1
  | .held _ => 1
def uptoBulkAll {H : Type} : List (DataW H) → Nat
  | [] => 0
  | d :: r => uptoBulk d + uptoBulkAll r
def uptoBulkEntries {H : Type} : List (Lit × DataW H) → Nat
  | [] => 0
  | x :: r => uptoBulkEntry x + uptoBulkEntries r
def uptoBulkEntry {H : Type} : Lit × DataW H → Nat
  | (.string bytes, d) => bytes.length + uptoBulk d + 1
  | (_, d) => uptoBulk d + 1
 end
def uptoSmall : (H : Type) → List (DataW H) → Bool := fun _ ds => decide (uptoBulkAll ds ≤ 1048576)
def OpenSpec.upto (s : _root_.Go.ChangeSpec) : _root_.Go.OpenSpec := { _root_.Go.OpenSpec.ofChange s with cond := some uptoSmall }

/-- 'tenancylaw6.JrnlWhole', WHERE WHAT IT READS IS OF BULK AT MOST 1048576: true; the input reads as it did. -/
def jrnlWholeUptoRow : OpenClaim := { program := "ytddhfdbfackahaadoor", sum := "9eea0c76ed1b69b74cf35d09a336ab8dec49b2ee971ad7ad719d0514c340130b", func := "tenancy/tenancylaw6.JrnlWhole", spec := "jrnlWhole", inPlace := ["internal/bytealg.IndexByteString", "internal/bytealg.IndexString"], unfollowed := true, recurses := true, named := ["unicode/utf8.first", "unicode/utf8.acceptRanges", "internal/bytealg.MaxLen"], apart := false, laid := [("unicode/utf8.acceptRanges", laid_unicode_utf8_acceptRanges), ("unicode/utf8.first", laid_unicode_utf8_first)], narrowed := true }
def JrnlWholeUptoSaid : Prop := jrnlWholeUptoRow.holds Tryd.pinned (OpenSpec.upto jrnlWholeSpec)

/-- 'tenancylaw6.JrnlHead', WHERE WHAT IT READS IS OF BULK AT MOST 1048576: true; the input reads as it did. -/
def jrnlHeadUptoRow : OpenClaim := { program := "ytddhfdbfackahaadoor", sum := "9eea0c76ed1b69b74cf35d09a336ab8dec49b2ee971ad7ad719d0514c340130b", func := "tenancy/tenancylaw6.JrnlHead", spec := "jrnlHead", inPlace := ["internal/bytealg.IndexByteString", "internal/bytealg.IndexString"], unfollowed := true, recurses := true, named := ["unicode/utf8.first", "unicode/utf8.acceptRanges", "internal/bytealg.MaxLen"], apart := false, laid := [("unicode/utf8.acceptRanges", laid_unicode_utf8_acceptRanges), ("unicode/utf8.first", laid_unicode_utf8_first)], narrowed := true }
def JrnlHeadUptoSaid : Prop := jrnlHeadUptoRow.holds Tryd.pinned (OpenSpec.upto jrnlHeadSpec)

/-- 'tenancylaw6.JrnlForms', WHERE WHAT IT READS IS OF BULK AT MOST 1048576: true; the input reads as it did. -/
def jrnlFormsUptoRow : OpenClaim := { program := "ytddhfdbfackahaadoor", sum := "9eea0c76ed1b69b74cf35d09a336ab8dec49b2ee971ad7ad719d0514c340130b", func := "tenancy/tenancylaw6.JrnlForms", spec := "jrnlForms", inPlace := ["internal/bytealg.IndexByteString", "internal/bytealg.IndexString"], unfollowed := true, recurses := true, named := ["unicode/utf8.first", "unicode/utf8.acceptRanges", "internal/bytealg.MaxLen"], apart := false, laid := [("unicode/utf8.acceptRanges", laid_unicode_utf8_acceptRanges), ("unicode/utf8.first", laid_unicode_utf8_first)], narrowed := true }
def JrnlFormsUptoSaid : Prop := jrnlFormsUptoRow.holds Tryd.pinned (OpenSpec.upto jrnlFormsSpec)

/-- 'tenancylaw6.JrnlTwice', WHERE WHAT IT READS IS OF BULK AT MOST 1048576: true; the input reads as it did. -/
def jrnlTwiceUptoRow : OpenClaim := { program := "ytddhfdbfackahaadoor", sum := "9eea0c76ed1b69b74cf35d09a336ab8dec49b2ee971ad7ad719d0514c340130b", func := "tenancy/tenancylaw6.JrnlTwice", spec := "jrnlTwice", inPlace := ["internal/bytealg.IndexByteString", "internal/bytealg.IndexString"], unfollowed := true, recurses := true, named := ["unicode/utf8.first", "unicode/utf8.acceptRanges", "internal/bytealg.MaxLen"], apart := false, laid := [("unicode/utf8.acceptRanges", laid_unicode_utf8_acceptRanges), ("unicode/utf8.first", laid_unicode_utf8_first)], narrowed := true }
def JrnlTwiceUptoSaid : Prop := jrnlTwiceUptoRow.holds Tryd.pinned (OpenSpec.upto jrnlTwiceSpec)

/-- 'tenancylaw6.JrnlMany', WHERE WHAT IT READS IS OF BULK AT MOST 1048576: true; the input reads as it did. -/
def jrnlManyUptoRow : OpenClaim := { program := "ytddhfdbfackahaadoor", sum := "9eea0c76ed1b69b74cf35d09a336ab8dec49b2ee971ad7ad719d0514c340130b", func := "tenancy/tenancylaw6.JrnlMany", spec := "jrnlMany", inPlace := ["internal/bytealg.IndexByteString", "internal/bytealg.IndexString"], unfollowed := true, recurses := true, named := ["unicode/utf8.first", "unicode/utf8.acceptRanges", "internal/bytealg.MaxLen"], apart := false, laid := [("unicode/utf8.acceptRanges", laid_unicode_utf8_acceptRanges), ("unicode/utf8.first", laid_unicode_utf8_first)], narrowed := true }
def JrnlManyUptoSaid : Prop := jrnlManyUptoRow.holds Tryd.pinned (OpenSpec.upto jrnlManySpec)

end Rows
end Go.Proofs.YtddhfdbfackahaaDoor

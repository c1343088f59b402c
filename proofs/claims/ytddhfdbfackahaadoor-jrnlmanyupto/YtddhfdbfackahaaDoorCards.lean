/-
  DERIVED. GIVEN WITH THE SEED: THE CARDS: each row of YtddhfdbfackahaaDoorRows.lean that lists a variable, with what it lists TIED to the program's text (the seventh form; the later family's looks); each row that meets fmt, with fmt's text TOLD by the authors' own Lean function (tested against real Go, not proved from fmt's source: count such statements apart). THE CARD IS WHAT COUNTS. Prove the row's statement (the work); the ties are given (YtddhfdbfackahaaDoorTie.lean); close each card by the builder's one call (the guide's Derived/Test/ToyasCard.lean, 'card_holds'). Laid BY PROGRAM, IN A SANDBOX (cutbox-door.mjs). By AI agents, Wed Nov 11 2026. No macro, syntax, notation, axiom, sorry.
-/
import Derived.Test.YtddhfdbfackahaaDoorRows
import GoSem.ClaimSeven
namespace Go.Proofs.YtddhfdbfackahaaDoor
namespace Rows

/-- THE TIED CARD OF 'tenancylaw6.JrnlWhole'. -/
def jrnlWholeCard : Claim7 := { stood := { row := jrnlWholeRow, standIns := [], harness := (true, "6afcfc7e6f0c481bdba9a3e4422a4c713f737a5eaf9ecd9d721b58498f8453ce"), looks := true }, kinds := [], alts := [], laidByText := true, laidKinds := [.data, .pinned], laidTests := true, laidLooks := .later }
def JrnlWholeCardSaid : Prop := Claim7.holds Tryd.pinned (.plain (OpenSpec.ofChange jrnlWholeSpec)) jrnlWholeCard

/-- THE TIED CARD OF 'tenancylaw6.JrnlHead'. -/
def jrnlHeadCard : Claim7 := { stood := { row := jrnlHeadRow, standIns := [], harness := (true, "6afcfc7e6f0c481bdba9a3e4422a4c713f737a5eaf9ecd9d721b58498f8453ce"), looks := true }, kinds := [], alts := [], laidByText := true, laidKinds := [.data, .pinned], laidTests := true, laidLooks := .later }
def JrnlHeadCardSaid : Prop := Claim7.holds Tryd.pinned (.plain (OpenSpec.ofChange jrnlHeadSpec)) jrnlHeadCard

/-- THE TIED CARD OF 'tenancylaw6.JrnlForms'. -/
def jrnlFormsCard : Claim7 := { stood := { row := jrnlFormsRow, standIns := [], harness := (true, "6afcfc7e6f0c481bdba9a3e4422a4c713f737a5eaf9ecd9d721b58498f8453ce"), looks := true }, kinds := [], alts := [], laidByText := true, laidKinds := [.data, .pinned], laidTests := true, laidLooks := .later }
def JrnlFormsCardSaid : Prop := Claim7.holds Tryd.pinned (.plain (OpenSpec.ofChange jrnlFormsSpec)) jrnlFormsCard

/-- THE TIED CARD OF 'tenancylaw6.JrnlTwice'. -/
def jrnlTwiceCard : Claim7 := { stood := { row := jrnlTwiceRow, standIns := [], harness := (true, "6afcfc7e6f0c481bdba9a3e4422a4c713f737a5eaf9ecd9d721b58498f8453ce"), looks := true }, kinds := [], alts := [], laidByText := true, laidKinds := [.data, .pinned], laidTests := true, laidLooks := .later }
def JrnlTwiceCardSaid : Prop := Claim7.holds Tryd.pinned (.plain (OpenSpec.ofChange jrnlTwiceSpec)) jrnlTwiceCard

/-- THE TIED CARD OF 'tenancylaw6.JrnlMany'. -/
def jrnlManyCard : Claim7 := { stood := { row := jrnlManyRow, standIns := [], harness := (true, "6afcfc7e6f0c481bdba9a3e4422a4c713f737a5eaf9ecd9d721b58498f8453ce"), looks := true }, kinds := [], alts := [], laidByText := true, laidKinds := [.data, .pinned], laidTests := true, laidLooks := .later }
def JrnlManyCardSaid : Prop := Claim7.holds Tryd.pinned (.plain (OpenSpec.ofChange jrnlManySpec)) jrnlManyCard

/-- THE SECOND FORM's CARD OF 'tenancylaw6.JrnlWhole'. -/
def jrnlWholeUptoCard : Claim7 := { stood := { row := jrnlWholeUptoRow, standIns := [], harness := (true, "6afcfc7e6f0c481bdba9a3e4422a4c713f737a5eaf9ecd9d721b58498f8453ce"), looks := true }, kinds := [], alts := [], laidByText := true, laidKinds := [.data, .pinned], laidTests := true, laidLooks := .later }
def JrnlWholeUptoCardSaid : Prop := Claim7.holds Tryd.pinned (.plain (OpenSpec.upto jrnlWholeSpec)) jrnlWholeUptoCard

/-- THE SECOND FORM's CARD OF 'tenancylaw6.JrnlHead'. -/
def jrnlHeadUptoCard : Claim7 := { stood := { row := jrnlHeadUptoRow, standIns := [], harness := (true, "6afcfc7e6f0c481bdba9a3e4422a4c713f737a5eaf9ecd9d721b58498f8453ce"), looks := true }, kinds := [], alts := [], laidByText := true, laidKinds := [.data, .pinned], laidTests := true, laidLooks := .later }
def JrnlHeadUptoCardSaid : Prop := Claim7.holds Tryd.pinned (.plain (OpenSpec.upto jrnlHeadSpec)) jrnlHeadUptoCard

/-- THE SECOND FORM's CARD OF 'tenancylaw6.JrnlForms'. -/
def jrnlFormsUptoCard : Claim7 := { stood := { row := jrnlFormsUptoRow, standIns := [], harness := (true, "6afcfc7e6f0c481bdba9a3e4422a4c713f737a5eaf9ecd9d721b58498f8453ce"), looks := true }, kinds := [], alts := [], laidByText := true, laidKinds := [.data, .pinned], laidTests := true, laidLooks := .later }
def JrnlFormsUptoCardSaid : Prop := Claim7.holds Tryd.pinned (.plain (OpenSpec.upto jrnlFormsSpec)) jrnlFormsUptoCard

/-- THE SECOND FORM's CARD OF 'tenancylaw6.JrnlTwice'. -/
def jrnlTwiceUptoCard : Claim7 := { stood := { row := jrnlTwiceUptoRow, standIns := [], harness := (true, "6afcfc7e6f0c481bdba9a3e4422a4c713f737a5eaf9ecd9d721b58498f8453ce"), looks := true }, kinds := [], alts := [], laidByText := true, laidKinds := [.data, .pinned], laidTests := true, laidLooks := .later }
def JrnlTwiceUptoCardSaid : Prop := Claim7.holds Tryd.pinned (.plain (OpenSpec.upto jrnlTwiceSpec)) jrnlTwiceUptoCard

/-- THE SECOND FORM's CARD OF 'tenancylaw6.JrnlMany'. -/
def jrnlManyUptoCard : Claim7 := { stood := { row := jrnlManyUptoRow, standIns := [], harness := (true, "6afcfc7e6f0c481bdba9a3e4422a4c713f737a5eaf9ecd9d721b58498f8453ce"), looks := true }, kinds := [], alts := [], laidByText := true, laidKinds := [.data, .pinned], laidTests := true, laidLooks := .later }
def JrnlManyUptoCardSaid : Prop := Claim7.holds Tryd.pinned (.plain (OpenSpec.upto jrnlManySpec)) jrnlManyUptoCard
end Rows
end Go.Proofs.YtddhfdbfackahaaDoor

/-
  DERIVED. GIVEN WITH THE SEED: THE CARDS: each row of YthgefhjknifehaaGreatDoorRows.lean that lists a variable, with what it lists TIED to the program's text (the seventh form; the later family's looks); each row that meets fmt, with fmt's text TOLD by the authors' own Lean function (tested against real Go, not proved from fmt's source: count such statements apart). THE CARD IS WHAT COUNTS. Prove the row's statement (the work); the ties are given (YthgefhjknifehaaGreatDoorTie.lean); close each card by the builder's one call (the guide's Derived/Test/ToyasCard.lean, 'card_holds'). Laid BY PROGRAM, IN A SANDBOX (cutbox-door.mjs). By AI agents, Wed Nov 11 2026. No macro, syntax, notation, axiom, sorry.
-/
import Derived.Test.YthgefhjknifehaaGreatDoorRows
import GoSem.ClaimSeven
namespace Go.Proofs.YthgefhjknifehaaGreatDoor
namespace Rows

/-- THE TIED CARD OF 'tenancylaw22.WorldForms'. -/
def worldFormsCard : Claim7 := { stood := { row := worldFormsRow, standIns := [], harness := (true, "17f3d382152304c8e6549159c7ddac430da533fa38dc30e5285b0d860a8eea30"), looks := true }, kinds := [], alts := [], laidByText := true, laidKinds := [.data, .pinned], laidTests := true, laidLooks := .later }
def WorldFormsCardSaid : Prop := Claim7.holds Tryz.pinned (.plain (OpenSpec.ofChange worldFormsSpec)) worldFormsCard

/-- THE TIED CARD OF 'tenancylaw26.PlayQuiet'. -/
def playQuietCard : Claim7 := { stood := { row := playQuietRow, standIns := [], harness := (true, "17f3d382152304c8e6549159c7ddac430da533fa38dc30e5285b0d860a8eea30"), looks := true }, kinds := [], alts := [], laidByText := true, laidKinds := [.data, .pinned], laidTests := true, laidLooks := .later }
def PlayQuietCardSaid : Prop := Claim7.holds Tryz.pinned (.plain (OpenSpec.ofChange playQuietSpec)) playQuietCard

/-- THE SECOND FORM's CARD OF 'tenancylaw22.WorldForms'. -/
def worldFormsUptoCard : Claim7 := { stood := { row := worldFormsUptoRow, standIns := [], harness := (true, "17f3d382152304c8e6549159c7ddac430da533fa38dc30e5285b0d860a8eea30"), looks := true }, kinds := [], alts := [], laidByText := true, laidKinds := [.data, .pinned], laidTests := true, laidLooks := .later }
def WorldFormsUptoCardSaid : Prop := Claim7.holds Tryz.pinned (.plain (OpenSpec.upto worldFormsSpec)) worldFormsUptoCard

/-- THE SECOND FORM's CARD OF 'tenancylaw26.PlayQuiet'. -/
def playQuietUptoCard : Claim7 := { stood := { row := playQuietUptoRow, standIns := [], harness := (true, "17f3d382152304c8e6549159c7ddac430da533fa38dc30e5285b0d860a8eea30"), looks := true }, kinds := [], alts := [], laidByText := true, laidKinds := [.data, .pinned], laidTests := true, laidLooks := .later }
def PlayQuietUptoCardSaid : Prop := Claim7.holds Tryz.pinned (.plain (OpenSpec.upto playQuietSpec)) playQuietUptoCard
end Rows
end Go.Proofs.YthgefhjknifehaaGreatDoor

/-
  DERIVED. GIVEN WITH THE SEED: THE CARDS: each row of YtinbnobanikfmaaGreatDoorRows.lean that lists a variable, with what it lists TIED to the program's text (the seventh form; the later family's looks); each row that meets fmt, with fmt's text TOLD by the authors' own Lean function (tested against real Go, not proved from fmt's source: count such statements apart). THE CARD IS WHAT COUNTS. Prove the row's statement (the work); the ties are given (YtinbnobanikfmaaGreatDoorTie.lean); close each card by the builder's one call (the guide's Derived/Test/ToyasCard.lean, 'card_holds'). Laid BY PROGRAM, IN A SANDBOX (cutbox-door.mjs). By AI agents, Wed Nov 11 2026. No macro, syntax, notation, axiom, sorry.
-/
import Derived.Test.YtinbnobanikfmaaGreatDoorRows
import GoSem.ClaimSeven
namespace Go.Proofs.YtinbnobanikfmaaGreatDoor
namespace Rows

/-- THE TIED CARD OF 'tenancylaw12.StoreKeeps'. -/
def storeKeepsCard : Claim7 := { stood := { row := storeKeepsRow, standIns := [], harness := (true, "cae544dba9925e23db6f219e90288ac7f6f6284cc8ff99436ea17968f882d072"), looks := true }, kinds := [], alts := [], laidByText := true, laidKinds := [.data, .pinned], laidTests := true, laidLooks := .later }
def StoreKeepsCardSaid : Prop := Claim7.holds Tryz.pinned (.plain (OpenSpec.ofChange storeKeepsSpec)) storeKeepsCard

/-- THE TIED CARD OF 'tenancylaw12.StoreForms'. -/
def storeFormsCard : Claim7 := { stood := { row := storeFormsRow, standIns := [], harness := (true, "cae544dba9925e23db6f219e90288ac7f6f6284cc8ff99436ea17968f882d072"), looks := true }, kinds := [], alts := [], laidByText := true, laidKinds := [.data, .pinned], laidTests := true, laidLooks := .later }
def StoreFormsCardSaid : Prop := Claim7.holds Tryz.pinned (.plain (OpenSpec.ofChange storeFormsSpec)) storeFormsCard

/-- THE TIED CARD OF 'tenancylaw12.StoreTwice'. -/
def storeTwiceCard : Claim7 := { stood := { row := storeTwiceRow, standIns := [], harness := (true, "cae544dba9925e23db6f219e90288ac7f6f6284cc8ff99436ea17968f882d072"), looks := true }, kinds := [], alts := [], laidByText := true, laidKinds := [.data, .pinned], laidTests := true, laidLooks := .later }
def StoreTwiceCardSaid : Prop := Claim7.holds Tryz.pinned (.plain (OpenSpec.ofChange storeTwiceSpec)) storeTwiceCard

/-- THE TIED CARD OF 'tenancylaw12.StoreFew'. -/
def storeFewCard : Claim7 := { stood := { row := storeFewRow, standIns := [], harness := (true, "cae544dba9925e23db6f219e90288ac7f6f6284cc8ff99436ea17968f882d072"), looks := true }, kinds := [], alts := [], laidByText := true, laidKinds := [.data, .pinned], laidTests := true, laidLooks := .later }
def StoreFewCardSaid : Prop := Claim7.holds Tryz.pinned (.plain (OpenSpec.ofChange storeFewSpec)) storeFewCard

/-- THE SECOND FORM's CARD OF 'tenancylaw12.StoreKeeps'. -/
def storeKeepsUptoCard : Claim7 := { stood := { row := storeKeepsUptoRow, standIns := [], harness := (true, "cae544dba9925e23db6f219e90288ac7f6f6284cc8ff99436ea17968f882d072"), looks := true }, kinds := [], alts := [], laidByText := true, laidKinds := [.data, .pinned], laidTests := true, laidLooks := .later }
def StoreKeepsUptoCardSaid : Prop := Claim7.holds Tryz.pinned (.plain (OpenSpec.upto storeKeepsSpec)) storeKeepsUptoCard

/-- THE SECOND FORM's CARD OF 'tenancylaw12.StoreForms'. -/
def storeFormsUptoCard : Claim7 := { stood := { row := storeFormsUptoRow, standIns := [], harness := (true, "cae544dba9925e23db6f219e90288ac7f6f6284cc8ff99436ea17968f882d072"), looks := true }, kinds := [], alts := [], laidByText := true, laidKinds := [.data, .pinned], laidTests := true, laidLooks := .later }
def StoreFormsUptoCardSaid : Prop := Claim7.holds Tryz.pinned (.plain (OpenSpec.upto storeFormsSpec)) storeFormsUptoCard

/-- THE SECOND FORM's CARD OF 'tenancylaw12.StoreTwice'. -/
def storeTwiceUptoCard : Claim7 := { stood := { row := storeTwiceUptoRow, standIns := [], harness := (true, "cae544dba9925e23db6f219e90288ac7f6f6284cc8ff99436ea17968f882d072"), looks := true }, kinds := [], alts := [], laidByText := true, laidKinds := [.data, .pinned], laidTests := true, laidLooks := .later }
def StoreTwiceUptoCardSaid : Prop := Claim7.holds Tryz.pinned (.plain (OpenSpec.upto storeTwiceSpec)) storeTwiceUptoCard

/-- THE SECOND FORM's CARD OF 'tenancylaw12.StoreFew'. -/
def storeFewUptoCard : Claim7 := { stood := { row := storeFewUptoRow, standIns := [], harness := (true, "cae544dba9925e23db6f219e90288ac7f6f6284cc8ff99436ea17968f882d072"), looks := true }, kinds := [], alts := [], laidByText := true, laidKinds := [.data, .pinned], laidTests := true, laidLooks := .later }
def StoreFewUptoCardSaid : Prop := Claim7.holds Tryz.pinned (.plain (OpenSpec.upto storeFewSpec)) storeFewUptoCard
end Rows
end Go.Proofs.YtinbnobanikfmaaGreatDoor

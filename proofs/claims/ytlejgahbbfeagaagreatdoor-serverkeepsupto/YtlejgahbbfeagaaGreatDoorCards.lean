/-
  DERIVED. GIVEN WITH THE SEED: THE CARDS: each row of YtlejgahbbfeagaaGreatDoorRows.lean that lists a variable, with what it lists TIED to the program's text (the seventh form; the later family's looks); each row that meets fmt, with fmt's text TOLD by the authors' own Lean function (tested against real Go, not proved from fmt's source: count such statements apart). THE CARD IS WHAT COUNTS. Prove the row's statement (the work); the ties are given (YtlejgahbbfeagaaGreatDoorTie.lean); close each card by the builder's one call (the guide's Derived/Test/ToyasCard.lean, 'card_holds'). Laid BY PROGRAM, IN A SANDBOX (cutbox-door.mjs). By AI agents, Wed Nov 11 2026. No macro, syntax, notation, axiom, sorry.
-/
import Derived.Test.YtlejgahbbfeagaaGreatDoorRows
import GoSem.ClaimSeven
namespace Go.Proofs.YtlejgahbbfeagaaGreatDoor
namespace Rows

/-- THE TIED CARD OF 'tenancylaw18.ServerOnce'. -/
def serverOnceCard : Claim7 := { stood := { row := serverOnceRow, standIns := [], harness := (true, "46835f2944b92125b2edcb2d6670745bcee33334ab76691ac9eefe579638dfa5"), looks := true }, kinds := [], alts := [], laidByText := true, laidKinds := [.data, .pinned], laidTests := true, laidLooks := .later }
def ServerOnceCardSaid : Prop := Claim7.holds Tryz.pinned (.plain (OpenSpec.ofChange serverOnceSpec)) serverOnceCard

/-- THE TIED CARD OF 'tenancylaw18.ServerKeeps'. -/
def serverKeepsCard : Claim7 := { stood := { row := serverKeepsRow, standIns := [], harness := (true, "46835f2944b92125b2edcb2d6670745bcee33334ab76691ac9eefe579638dfa5"), looks := true }, kinds := [], alts := [], laidByText := true, laidKinds := [.data, .pinned], laidTests := true, laidLooks := .later }
def ServerKeepsCardSaid : Prop := Claim7.holds Tryz.pinned (.plain (OpenSpec.ofChange serverKeepsSpec)) serverKeepsCard

/-- THE TIED CARD OF 'tenancylaw18.ServerAll'. -/
def serverAllCard : Claim7 := { stood := { row := serverAllRow, standIns := [], harness := (true, "46835f2944b92125b2edcb2d6670745bcee33334ab76691ac9eefe579638dfa5"), looks := true }, kinds := [], alts := [], laidByText := true, laidKinds := [.data, .pinned], laidTests := true, laidLooks := .later }
def ServerAllCardSaid : Prop := Claim7.holds Tryz.pinned (.plain (OpenSpec.ofChange serverAllSpec)) serverAllCard

/-- THE TIED CARD OF 'tenancylaw18.ServerHush'. -/
def serverHushCard : Claim7 := { stood := { row := serverHushRow, standIns := [], harness := (true, "46835f2944b92125b2edcb2d6670745bcee33334ab76691ac9eefe579638dfa5"), looks := true }, kinds := [], alts := [], laidByText := true, laidKinds := [.data, .pinned], laidTests := true, laidLooks := .later }
def ServerHushCardSaid : Prop := Claim7.holds Tryz.pinned (.plain (OpenSpec.ofChange serverHushSpec)) serverHushCard

/-- THE TIED CARD OF 'tenancylaw18.ServerForms'. -/
def serverFormsCard : Claim7 := { stood := { row := serverFormsRow, standIns := [], harness := (true, "46835f2944b92125b2edcb2d6670745bcee33334ab76691ac9eefe579638dfa5"), looks := true }, kinds := [], alts := [], laidByText := true, laidKinds := [.data, .pinned], laidTests := true, laidLooks := .later }
def ServerFormsCardSaid : Prop := Claim7.holds Tryz.pinned (.plain (OpenSpec.ofChange serverFormsSpec)) serverFormsCard

/-- THE TIED CARD OF 'tenancylaw18.ServerDead'. -/
def serverDeadCard : Claim7 := { stood := { row := serverDeadRow, standIns := [], harness := (true, "46835f2944b92125b2edcb2d6670745bcee33334ab76691ac9eefe579638dfa5"), looks := true }, kinds := [], alts := [], laidByText := true, laidKinds := [.data, .pinned], laidTests := true, laidLooks := .later }
def ServerDeadCardSaid : Prop := Claim7.holds Tryz.pinned (.plain (OpenSpec.ofChange serverDeadSpec)) serverDeadCard

/-- THE TIED CARD OF 'tenancylaw18.ServerLends'. -/
def serverLendsCard : Claim7 := { stood := { row := serverLendsRow, standIns := [], harness := (true, "46835f2944b92125b2edcb2d6670745bcee33334ab76691ac9eefe579638dfa5"), looks := true }, kinds := [], alts := [], laidByText := true, laidKinds := [.data, .pinned], laidTests := true, laidLooks := .later }
def ServerLendsCardSaid : Prop := Claim7.holds Tryz.pinned (.plain (OpenSpec.ofChange serverLendsSpec)) serverLendsCard

/-- THE TIED CARD OF 'tenancylaw18.ServerCalls'. -/
def serverCallsCard : Claim7 := { stood := { row := serverCallsRow, standIns := [], harness := (true, "46835f2944b92125b2edcb2d6670745bcee33334ab76691ac9eefe579638dfa5"), looks := true }, kinds := [], alts := [], laidByText := true, laidKinds := [.data, .pinned], laidTests := true, laidLooks := .later }
def ServerCallsCardSaid : Prop := Claim7.holds Tryz.pinned (.plain (OpenSpec.ofChange serverCallsSpec)) serverCallsCard

/-- THE SECOND FORM's CARD OF 'tenancylaw18.ServerOnce'. -/
def serverOnceUptoCard : Claim7 := { stood := { row := serverOnceUptoRow, standIns := [], harness := (true, "46835f2944b92125b2edcb2d6670745bcee33334ab76691ac9eefe579638dfa5"), looks := true }, kinds := [], alts := [], laidByText := true, laidKinds := [.data, .pinned], laidTests := true, laidLooks := .later }
def ServerOnceUptoCardSaid : Prop := Claim7.holds Tryz.pinned (.plain (OpenSpec.upto serverOnceSpec)) serverOnceUptoCard

/-- THE SECOND FORM's CARD OF 'tenancylaw18.ServerKeeps'. -/
def serverKeepsUptoCard : Claim7 := { stood := { row := serverKeepsUptoRow, standIns := [], harness := (true, "46835f2944b92125b2edcb2d6670745bcee33334ab76691ac9eefe579638dfa5"), looks := true }, kinds := [], alts := [], laidByText := true, laidKinds := [.data, .pinned], laidTests := true, laidLooks := .later }
def ServerKeepsUptoCardSaid : Prop := Claim7.holds Tryz.pinned (.plain (OpenSpec.upto serverKeepsSpec)) serverKeepsUptoCard

/-- THE SECOND FORM's CARD OF 'tenancylaw18.ServerAll'. -/
def serverAllUptoCard : Claim7 := { stood := { row := serverAllUptoRow, standIns := [], harness := (true, "46835f2944b92125b2edcb2d6670745bcee33334ab76691ac9eefe579638dfa5"), looks := true }, kinds := [], alts := [], laidByText := true, laidKinds := [.data, .pinned], laidTests := true, laidLooks := .later }
def ServerAllUptoCardSaid : Prop := Claim7.holds Tryz.pinned (.plain (OpenSpec.upto serverAllSpec)) serverAllUptoCard

/-- THE SECOND FORM's CARD OF 'tenancylaw18.ServerHush'. -/
def serverHushUptoCard : Claim7 := { stood := { row := serverHushUptoRow, standIns := [], harness := (true, "46835f2944b92125b2edcb2d6670745bcee33334ab76691ac9eefe579638dfa5"), looks := true }, kinds := [], alts := [], laidByText := true, laidKinds := [.data, .pinned], laidTests := true, laidLooks := .later }
def ServerHushUptoCardSaid : Prop := Claim7.holds Tryz.pinned (.plain (OpenSpec.upto serverHushSpec)) serverHushUptoCard

/-- THE SECOND FORM's CARD OF 'tenancylaw18.ServerForms'. -/
def serverFormsUptoCard : Claim7 := { stood := { row := serverFormsUptoRow, standIns := [], harness := (true, "46835f2944b92125b2edcb2d6670745bcee33334ab76691ac9eefe579638dfa5"), looks := true }, kinds := [], alts := [], laidByText := true, laidKinds := [.data, .pinned], laidTests := true, laidLooks := .later }
def ServerFormsUptoCardSaid : Prop := Claim7.holds Tryz.pinned (.plain (OpenSpec.upto serverFormsSpec)) serverFormsUptoCard

/-- THE SECOND FORM's CARD OF 'tenancylaw18.ServerDead'. -/
def serverDeadUptoCard : Claim7 := { stood := { row := serverDeadUptoRow, standIns := [], harness := (true, "46835f2944b92125b2edcb2d6670745bcee33334ab76691ac9eefe579638dfa5"), looks := true }, kinds := [], alts := [], laidByText := true, laidKinds := [.data, .pinned], laidTests := true, laidLooks := .later }
def ServerDeadUptoCardSaid : Prop := Claim7.holds Tryz.pinned (.plain (OpenSpec.upto serverDeadSpec)) serverDeadUptoCard

/-- THE SECOND FORM's CARD OF 'tenancylaw18.ServerLends'. -/
def serverLendsUptoCard : Claim7 := { stood := { row := serverLendsUptoRow, standIns := [], harness := (true, "46835f2944b92125b2edcb2d6670745bcee33334ab76691ac9eefe579638dfa5"), looks := true }, kinds := [], alts := [], laidByText := true, laidKinds := [.data, .pinned], laidTests := true, laidLooks := .later }
def ServerLendsUptoCardSaid : Prop := Claim7.holds Tryz.pinned (.plain (OpenSpec.upto serverLendsSpec)) serverLendsUptoCard

/-- THE SECOND FORM's CARD OF 'tenancylaw18.ServerCalls'. -/
def serverCallsUptoCard : Claim7 := { stood := { row := serverCallsUptoRow, standIns := [], harness := (true, "46835f2944b92125b2edcb2d6670745bcee33334ab76691ac9eefe579638dfa5"), looks := true }, kinds := [], alts := [], laidByText := true, laidKinds := [.data, .pinned], laidTests := true, laidLooks := .later }
def ServerCallsUptoCardSaid : Prop := Claim7.holds Tryz.pinned (.plain (OpenSpec.upto serverCallsSpec)) serverCallsUptoCard
end Rows
end Go.Proofs.YtlejgahbbfeagaaGreatDoor

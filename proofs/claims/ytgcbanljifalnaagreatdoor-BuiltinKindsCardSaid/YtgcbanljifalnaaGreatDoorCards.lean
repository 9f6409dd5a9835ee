/-
  DERIVED. GIVEN WITH THE SEED: THE CARDS: each row of YtgcbanljifalnaaGreatDoorRows.lean that lists a variable, with what it lists TIED to the program's text (the seventh form; the later family's looks); each row that meets fmt, with fmt's text TOLD by the authors' own Lean function (tested against real Go, not proved from fmt's source: count such statements apart). THE CARD IS WHAT COUNTS. Prove the row's statement (the work); the ties are given (YtgcbanljifalnaaGreatDoorTie.lean); close each card by the builder's one call (the guide's Derived/Test/ToyasCard.lean, 'card_holds'). Laid BY PROGRAM, IN A SANDBOX (cutbox-door.mjs). By AI agents, Wed Nov 11 2026. No macro, syntax, notation, axiom, sorry.
-/
import Derived.Test.YtgcbanljifalnaaGreatDoorRows
import GoSem.ClaimSeven
namespace Go.Proofs.YtgcbanljifalnaaGreatDoor
namespace Rows

/-- THE TIED CARD OF 'resolventlaw12.CheckPreds'. -/
def checkPredsCard : Claim7 := { stood := { row := checkPredsRow, standIns := [], harness := (true, "db64c0f8bbcaf992326c2ac7d02490db827d3bb8b9408eb3969b405c5e690d85"), looks := true }, kinds := [], alts := [], laidByText := true, laidKinds := [.listed, .data], laidTests := true, laidLooks := .later }
def CheckPredsCardSaid : Prop := Claim7.holds Tryz.pinned (.plain (OpenSpec.ofChange checkPredsSpec)) checkPredsCard

/-- THE TIED CARD OF 'resolventlaw14.BuiltinTells'. -/
def builtinTellsCard : Claim7 := { stood := { row := builtinTellsRow, standIns := [], harness := (true, "db64c0f8bbcaf992326c2ac7d02490db827d3bb8b9408eb3969b405c5e690d85"), looks := true }, kinds := [], alts := [], laidByText := true, laidKinds := [.listed, .data], laidTests := true, laidLooks := .later }
def BuiltinTellsCardSaid : Prop := Claim7.holds Tryz.pinned (.plain (OpenSpec.ofChange builtinTellsSpec)) builtinTellsCard

/-- THE TIED CARD OF 'resolventlaw14.BuiltinSides'. -/
def builtinSidesCard : Claim7 := { stood := { row := builtinSidesRow, standIns := [], harness := (true, "db64c0f8bbcaf992326c2ac7d02490db827d3bb8b9408eb3969b405c5e690d85"), looks := true }, kinds := [], alts := [], laidByText := true, laidKinds := [.listed, .data], laidTests := true, laidLooks := .later }
def BuiltinSidesCardSaid : Prop := Claim7.holds Tryz.pinned (.plain (OpenSpec.ofChange builtinSidesSpec)) builtinSidesCard

/-- THE TIED CARD OF 'resolventlaw14.BuiltinKinds'. -/
def builtinKindsCard : Claim7 := { stood := { row := builtinKindsRow, standIns := [], harness := (true, "db64c0f8bbcaf992326c2ac7d02490db827d3bb8b9408eb3969b405c5e690d85"), looks := true }, kinds := [], alts := [], laidByText := true, laidKinds := [.listed, .data], laidTests := true, laidLooks := .later }
def BuiltinKindsCardSaid : Prop := Claim7.holds Tryz.pinned (.plain (OpenSpec.ofChange builtinKindsSpec)) builtinKindsCard

/-- THE TIED CARD OF 'resolventlaw14.BuiltinGround'. -/
def builtinGroundCard : Claim7 := { stood := { row := builtinGroundRow, standIns := [], harness := (true, "db64c0f8bbcaf992326c2ac7d02490db827d3bb8b9408eb3969b405c5e690d85"), looks := true }, kinds := [], alts := [], laidByText := true, laidKinds := [.listed, .data], laidTests := true, laidLooks := .later }
def BuiltinGroundCardSaid : Prop := Claim7.holds Tryz.pinned (.plain (OpenSpec.ofChange builtinGroundSpec)) builtinGroundCard

/-- THE SECOND FORM's CARD OF 'resolventlaw12.CheckPreds'. -/
def checkPredsUptoCard : Claim7 := { stood := { row := checkPredsUptoRow, standIns := [], harness := (true, "db64c0f8bbcaf992326c2ac7d02490db827d3bb8b9408eb3969b405c5e690d85"), looks := true }, kinds := [], alts := [], laidByText := true, laidKinds := [.listed, .data], laidTests := true, laidLooks := .later }
def CheckPredsUptoCardSaid : Prop := Claim7.holds Tryz.pinned (.plain (OpenSpec.upto checkPredsSpec)) checkPredsUptoCard

/-- THE SECOND FORM's CARD OF 'resolventlaw14.BuiltinTells'. -/
def builtinTellsUptoCard : Claim7 := { stood := { row := builtinTellsUptoRow, standIns := [], harness := (true, "db64c0f8bbcaf992326c2ac7d02490db827d3bb8b9408eb3969b405c5e690d85"), looks := true }, kinds := [], alts := [], laidByText := true, laidKinds := [.listed, .data], laidTests := true, laidLooks := .later }
def BuiltinTellsUptoCardSaid : Prop := Claim7.holds Tryz.pinned (.plain (OpenSpec.upto builtinTellsSpec)) builtinTellsUptoCard

/-- THE SECOND FORM's CARD OF 'resolventlaw14.BuiltinSides'. -/
def builtinSidesUptoCard : Claim7 := { stood := { row := builtinSidesUptoRow, standIns := [], harness := (true, "db64c0f8bbcaf992326c2ac7d02490db827d3bb8b9408eb3969b405c5e690d85"), looks := true }, kinds := [], alts := [], laidByText := true, laidKinds := [.listed, .data], laidTests := true, laidLooks := .later }
def BuiltinSidesUptoCardSaid : Prop := Claim7.holds Tryz.pinned (.plain (OpenSpec.upto builtinSidesSpec)) builtinSidesUptoCard

/-- THE SECOND FORM's CARD OF 'resolventlaw14.BuiltinKinds'. -/
def builtinKindsUptoCard : Claim7 := { stood := { row := builtinKindsUptoRow, standIns := [], harness := (true, "db64c0f8bbcaf992326c2ac7d02490db827d3bb8b9408eb3969b405c5e690d85"), looks := true }, kinds := [], alts := [], laidByText := true, laidKinds := [.listed, .data], laidTests := true, laidLooks := .later }
def BuiltinKindsUptoCardSaid : Prop := Claim7.holds Tryz.pinned (.plain (OpenSpec.upto builtinKindsSpec)) builtinKindsUptoCard

/-- THE SECOND FORM's CARD OF 'resolventlaw14.BuiltinGround'. -/
def builtinGroundUptoCard : Claim7 := { stood := { row := builtinGroundUptoRow, standIns := [], harness := (true, "db64c0f8bbcaf992326c2ac7d02490db827d3bb8b9408eb3969b405c5e690d85"), looks := true }, kinds := [], alts := [], laidByText := true, laidKinds := [.listed, .data], laidTests := true, laidLooks := .later }
def BuiltinGroundUptoCardSaid : Prop := Claim7.holds Tryz.pinned (.plain (OpenSpec.upto builtinGroundSpec)) builtinGroundUptoCard
end Rows
end Go.Proofs.YtgcbanljifalnaaGreatDoor

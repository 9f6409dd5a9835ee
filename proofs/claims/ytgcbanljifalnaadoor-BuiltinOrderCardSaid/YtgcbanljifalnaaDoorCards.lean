/-
  DERIVED. GIVEN WITH THE SEED: THE CARDS: each row of YtgcbanljifalnaaDoorRows.lean that lists a variable, with what it lists TIED to the program's text (the seventh form; the later family's looks); each row that meets fmt, with fmt's text TOLD by the authors' own Lean function (tested against real Go, not proved from fmt's source: count such statements apart). THE CARD IS WHAT COUNTS. Prove the row's statement (the work); the ties are given (YtgcbanljifalnaaDoorTie.lean); close each card by the builder's one call (the guide's Derived/Test/ToyasCard.lean, 'card_holds'). Laid BY PROGRAM, IN A SANDBOX (cutbox-door.mjs). By AI agents, Wed Nov 11 2026. No macro, syntax, notation, axiom, sorry.
-/
import Derived.Test.YtgcbanljifalnaaDoorRows
import GoSem.ClaimSeven
namespace Go.Proofs.YtgcbanljifalnaaDoor
namespace Rows

/-- THE TIED CARD OF 'resolventlaw14.BuiltinOrder'. -/
def builtinOrderCard : Claim7 := { stood := { row := builtinOrderRow, standIns := [], harness := (true, "24097cbe77c894d51009178a6c87aed0f7130abe971c8ffc415870a0b6a05207"), looks := true }, kinds := [], alts := [], laidByText := true, laidKinds := [.listed, .data], laidTests := true, laidLooks := .later }
def BuiltinOrderCardSaid : Prop := Claim7.holds Tryd.pinned (.plain (OpenSpec.ofChange builtinOrderSpec)) builtinOrderCard

/-- THE TIED CARD OF 'resolventlaw22.CodeTexts'. -/
def codeTextsCard : Claim7 := { stood := { row := codeTextsRow, standIns := [], harness := (true, "24097cbe77c894d51009178a6c87aed0f7130abe971c8ffc415870a0b6a05207"), looks := true }, kinds := [], alts := [], laidByText := true, laidKinds := [.data, .data, .data, .data, .pinned, .pinned, .pinned, .pinned, .pinned, .pinned], laidTests := true, laidLooks := .later }
def CodeTextsCardSaid : Prop := Claim7.holds Tryd.pinned (.plain (OpenSpec.ofChange codeTextsSpec)) codeTextsCard

/-- THE SECOND FORM's CARD OF 'resolventlaw14.BuiltinOrder'. -/
def builtinOrderUptoCard : Claim7 := { stood := { row := builtinOrderUptoRow, standIns := [], harness := (true, "24097cbe77c894d51009178a6c87aed0f7130abe971c8ffc415870a0b6a05207"), looks := true }, kinds := [], alts := [], laidByText := true, laidKinds := [.listed, .data], laidTests := true, laidLooks := .later }
def BuiltinOrderUptoCardSaid : Prop := Claim7.holds Tryd.pinned (.plain (OpenSpec.upto builtinOrderSpec)) builtinOrderUptoCard

/-- THE SECOND FORM's CARD OF 'resolventlaw22.CodeTexts'. -/
def codeTextsUptoCard : Claim7 := { stood := { row := codeTextsUptoRow, standIns := [], harness := (true, "24097cbe77c894d51009178a6c87aed0f7130abe971c8ffc415870a0b6a05207"), looks := true }, kinds := [], alts := [], laidByText := true, laidKinds := [.data, .data, .data, .data, .pinned, .pinned, .pinned, .pinned, .pinned, .pinned], laidTests := true, laidLooks := .later }
def CodeTextsUptoCardSaid : Prop := Claim7.holds Tryd.pinned (.plain (OpenSpec.upto codeTextsSpec)) codeTextsUptoCard
end Rows
end Go.Proofs.YtgcbanljifalnaaDoor

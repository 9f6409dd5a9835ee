/-
  NARROWER THAN 'FOR EVERY INPUT', by the rows' own cells (each row's printed sentence says how): TermMakes: loops · TermVars: loops · TermTells: loops · TermParts: loops · OrderTells: loops · OrderSorts: loops · OrderArgs: loops · OrderOne: loops · RenameTells: loops · RenameShifts: loops.
  DERIVED. THE GIVEN ROWS OF THIS SEAT. 10 by the template 'for every input the law returns true; each argument reads behind the call as it read before'; 0 by the template 'total and deterministic' (their statements: YtgoeglahmlpmeaaTotals.lean).
  GIVEN WITH THE SEED: the statements are not yours to turn. If you find one false, say at which input.
  Laid BY PROGRAM, IN A SANDBOX (cutbox-rows.mjs): the forced cells as the released guide's own fill.sh prints them over the translation 5ab3cac847997b9a… (all of the seat's roots in one cut). By AI agents, Wed Nov 11 2026. No macro, syntax, notation, axiom, sorry.
-/
import Derived.Test.YtgoeglahmlpmeaaChecked
import GoSem.Claim
import GoSem.ClaimJoined
import GoSem.ClaimMapViews
import Derived.JoinedTies
import Derived.KernelRfl
namespace Go.Proofs.Ytgoeglahmlpmeaa
/- THE CELL 'sum', in the pinned program and in every row, IS THE sha256 OF THE DUMP (.gsa) THAT YtgoeglahmlpmeaaProg.lean LOADS. Nothing in Lean hashes anything: it is a label: what it is worth is what the hold of that sum in a sandbox is worth. -/
noncomputable def Try.pinned : Pinned := { name := "ytgoeglahmlpmeaa", sum := "5ab3cac847997b9add3fc10e25a5ff461c89bb5b6dc5e94a834fae8e8dcc18fc", checked := Try.checked }
namespace Rows
def none {H : Type} : Left H := { results := [], args := [] }

/-- 'resolventlaw01.TermMakes': WHATEVER THE INPUT: true; the input reads as it did. -/
def termMakesSpec : ChangeSpec := { name := "termMakes", fn := fun _ => fun
  | [d1, d2, d3] => { results := [.lit (.bool true)], args := [d1, d2, d3] }
  | _ => none }
def termMakesRow : OpenClaim := { program := "ytgoeglahmlpmeaa", sum := "5ab3cac847997b9add3fc10e25a5ff461c89bb5b6dc5e94a834fae8e8dcc18fc", func := "resolvent/resolventlaw01.TermMakes", spec := "termMakes", unfollowed := true, recurses := true, loops := true, apart := false }
def TermMakesSaid : Prop := termMakesRow.holds Try.pinned (OpenSpec.ofChange termMakesSpec)

/-- ITS FALSE NEIGHBOUR: 'it returns false'. Refute it at one input. -/
def termMakesWrong : ChangeSpec := { name := "termMakes", fn := fun _ => fun
  | [d1, d2, d3] => { results := [.lit (.bool false)], args := [d1, d2, d3] }
  | _ => none }
def TermMakesWrongFalsely : Prop := termMakesRow.holds Try.pinned (OpenSpec.ofChange termMakesWrong)

/-- 'resolventlaw01.TermVars': WHATEVER THE INPUT: true; the input reads as it did. -/
def termVarsSpec : ChangeSpec := { name := "termVars", fn := fun _ => fun
  | [d1, d2] => { results := [.lit (.bool true)], args := [d1, d2] }
  | _ => none }
def termVarsRow : OpenClaim := { program := "ytgoeglahmlpmeaa", sum := "5ab3cac847997b9add3fc10e25a5ff461c89bb5b6dc5e94a834fae8e8dcc18fc", func := "resolvent/resolventlaw01.TermVars", spec := "termVars", unfollowed := true, recurses := true, loops := true, apart := false }
def TermVarsSaid : Prop := termVarsRow.holds Try.pinned (OpenSpec.ofChange termVarsSpec)

/-- ITS FALSE NEIGHBOUR: 'it returns false'. Refute it at one input. -/
def termVarsWrong : ChangeSpec := { name := "termVars", fn := fun _ => fun
  | [d1, d2] => { results := [.lit (.bool false)], args := [d1, d2] }
  | _ => none }
def TermVarsWrongFalsely : Prop := termVarsRow.holds Try.pinned (OpenSpec.ofChange termVarsWrong)

/-- 'resolventlaw01.TermTells': WHATEVER THE INPUT: true; the input reads as it did. -/
def termTellsSpec : ChangeSpec := { name := "termTells", fn := fun _ => fun
  | [d1, d2] => { results := [.lit (.bool true)], args := [d1, d2] }
  | _ => none }
def termTellsRow : OpenClaim := { program := "ytgoeglahmlpmeaa", sum := "5ab3cac847997b9add3fc10e25a5ff461c89bb5b6dc5e94a834fae8e8dcc18fc", func := "resolvent/resolventlaw01.TermTells", spec := "termTells", unfollowed := true, recurses := true, loops := true, apart := false }
def TermTellsSaid : Prop := termTellsRow.holds Try.pinned (OpenSpec.ofChange termTellsSpec)

/-- ITS FALSE NEIGHBOUR: 'it returns false'. Refute it at one input. -/
def termTellsWrong : ChangeSpec := { name := "termTells", fn := fun _ => fun
  | [d1, d2] => { results := [.lit (.bool false)], args := [d1, d2] }
  | _ => none }
def TermTellsWrongFalsely : Prop := termTellsRow.holds Try.pinned (OpenSpec.ofChange termTellsWrong)

/-- 'resolventlaw01.TermParts': WHATEVER THE INPUT: true; the input reads as it did. -/
def termPartsSpec : ChangeSpec := { name := "termParts", fn := fun _ => fun
  | [d1, d2, d3] => { results := [.lit (.bool true)], args := [d1, d2, d3] }
  | _ => none }
def termPartsRow : OpenClaim := { program := "ytgoeglahmlpmeaa", sum := "5ab3cac847997b9add3fc10e25a5ff461c89bb5b6dc5e94a834fae8e8dcc18fc", func := "resolvent/resolventlaw01.TermParts", spec := "termParts", unfollowed := true, recurses := true, loops := true, apart := false }
def TermPartsSaid : Prop := termPartsRow.holds Try.pinned (OpenSpec.ofChange termPartsSpec)

/-- ITS FALSE NEIGHBOUR: 'it returns false'. Refute it at one input. -/
def termPartsWrong : ChangeSpec := { name := "termParts", fn := fun _ => fun
  | [d1, d2, d3] => { results := [.lit (.bool false)], args := [d1, d2, d3] }
  | _ => none }
def TermPartsWrongFalsely : Prop := termPartsRow.holds Try.pinned (OpenSpec.ofChange termPartsWrong)

/-- 'resolventlaw02.OrderTells': WHATEVER THE INPUT: true; the input reads as it did. -/
def orderTellsSpec : ChangeSpec := { name := "orderTells", fn := fun _ => fun
  | [d1, d2] => { results := [.lit (.bool true)], args := [d1, d2] }
  | _ => none }
def orderTellsRow : OpenClaim := { program := "ytgoeglahmlpmeaa", sum := "5ab3cac847997b9add3fc10e25a5ff461c89bb5b6dc5e94a834fae8e8dcc18fc", func := "resolvent/resolventlaw02.OrderTells", spec := "orderTells", unfollowed := true, recurses := true, loops := true, apart := false }
def OrderTellsSaid : Prop := orderTellsRow.holds Try.pinned (OpenSpec.ofChange orderTellsSpec)

/-- ITS FALSE NEIGHBOUR: 'it returns false'. Refute it at one input. -/
def orderTellsWrong : ChangeSpec := { name := "orderTells", fn := fun _ => fun
  | [d1, d2] => { results := [.lit (.bool false)], args := [d1, d2] }
  | _ => none }
def OrderTellsWrongFalsely : Prop := orderTellsRow.holds Try.pinned (OpenSpec.ofChange orderTellsWrong)

/-- 'resolventlaw02.OrderSorts': WHATEVER THE INPUT: true; the input reads as it did. -/
def orderSortsSpec : ChangeSpec := { name := "orderSorts", fn := fun _ => fun
  | [d] => { results := [.lit (.bool true)], args := [d] }
  | _ => none }
def orderSortsRow : OpenClaim := { program := "ytgoeglahmlpmeaa", sum := "5ab3cac847997b9add3fc10e25a5ff461c89bb5b6dc5e94a834fae8e8dcc18fc", func := "resolvent/resolventlaw02.OrderSorts", spec := "orderSorts", unfollowed := true, recurses := true, loops := true, apart := false }
def OrderSortsSaid : Prop := orderSortsRow.holds Try.pinned (OpenSpec.ofChange orderSortsSpec)

/-- ITS FALSE NEIGHBOUR: 'it returns false'. Refute it at one input. -/
def orderSortsWrong : ChangeSpec := { name := "orderSorts", fn := fun _ => fun
  | [d] => { results := [.lit (.bool false)], args := [d] }
  | _ => none }
def OrderSortsWrongFalsely : Prop := orderSortsRow.holds Try.pinned (OpenSpec.ofChange orderSortsWrong)

/-- 'resolventlaw02.OrderArgs': WHATEVER THE INPUT: true; the input reads as it did. -/
def orderArgsSpec : ChangeSpec := { name := "orderArgs", fn := fun _ => fun
  | [d1, d2, d3] => { results := [.lit (.bool true)], args := [d1, d2, d3] }
  | _ => none }
def orderArgsRow : OpenClaim := { program := "ytgoeglahmlpmeaa", sum := "5ab3cac847997b9add3fc10e25a5ff461c89bb5b6dc5e94a834fae8e8dcc18fc", func := "resolvent/resolventlaw02.OrderArgs", spec := "orderArgs", unfollowed := true, recurses := true, loops := true, apart := false }
def OrderArgsSaid : Prop := orderArgsRow.holds Try.pinned (OpenSpec.ofChange orderArgsSpec)

/-- ITS FALSE NEIGHBOUR: 'it returns false'. Refute it at one input. -/
def orderArgsWrong : ChangeSpec := { name := "orderArgs", fn := fun _ => fun
  | [d1, d2, d3] => { results := [.lit (.bool false)], args := [d1, d2, d3] }
  | _ => none }
def OrderArgsWrongFalsely : Prop := orderArgsRow.holds Try.pinned (OpenSpec.ofChange orderArgsWrong)

/-- 'resolventlaw02.OrderOne': WHATEVER THE INPUT: true; the input reads as it did. -/
def orderOneSpec : ChangeSpec := { name := "orderOne", fn := fun _ => fun
  | [d1, d2, d3] => { results := [.lit (.bool true)], args := [d1, d2, d3] }
  | _ => none }
def orderOneRow : OpenClaim := { program := "ytgoeglahmlpmeaa", sum := "5ab3cac847997b9add3fc10e25a5ff461c89bb5b6dc5e94a834fae8e8dcc18fc", func := "resolvent/resolventlaw02.OrderOne", spec := "orderOne", unfollowed := true, recurses := true, loops := true, apart := false }
def OrderOneSaid : Prop := orderOneRow.holds Try.pinned (OpenSpec.ofChange orderOneSpec)

/-- ITS FALSE NEIGHBOUR: 'it returns false'. Refute it at one input. -/
def orderOneWrong : ChangeSpec := { name := "orderOne", fn := fun _ => fun
  | [d1, d2, d3] => { results := [.lit (.bool false)], args := [d1, d2, d3] }
  | _ => none }
def OrderOneWrongFalsely : Prop := orderOneRow.holds Try.pinned (OpenSpec.ofChange orderOneWrong)

/-- 'resolventlaw05.RenameTells': WHATEVER THE INPUT: true; the input reads as it did. -/
def renameTellsSpec : ChangeSpec := { name := "renameTells", fn := fun _ => fun
  | [d1, d2, d3] => { results := [.lit (.bool true)], args := [d1, d2, d3] }
  | _ => none }
def renameTellsRow : OpenClaim := { program := "ytgoeglahmlpmeaa", sum := "5ab3cac847997b9add3fc10e25a5ff461c89bb5b6dc5e94a834fae8e8dcc18fc", func := "resolvent/resolventlaw05.RenameTells", spec := "renameTells", unfollowed := true, recurses := true, loops := true, apart := false }
def RenameTellsSaid : Prop := renameTellsRow.holds Try.pinned (OpenSpec.ofChange renameTellsSpec)

/-- ITS FALSE NEIGHBOUR: 'it returns false'. Refute it at one input. -/
def renameTellsWrong : ChangeSpec := { name := "renameTells", fn := fun _ => fun
  | [d1, d2, d3] => { results := [.lit (.bool false)], args := [d1, d2, d3] }
  | _ => none }
def RenameTellsWrongFalsely : Prop := renameTellsRow.holds Try.pinned (OpenSpec.ofChange renameTellsWrong)

/-- 'resolventlaw05.RenameShifts': WHATEVER THE INPUT: true; the input reads as it did. -/
def renameShiftsSpec : ChangeSpec := { name := "renameShifts", fn := fun _ => fun
  | [d1, d2, d3] => { results := [.lit (.bool true)], args := [d1, d2, d3] }
  | _ => none }
def renameShiftsRow : OpenClaim := { program := "ytgoeglahmlpmeaa", sum := "5ab3cac847997b9add3fc10e25a5ff461c89bb5b6dc5e94a834fae8e8dcc18fc", func := "resolvent/resolventlaw05.RenameShifts", spec := "renameShifts", unfollowed := true, recurses := true, loops := true, apart := false }
def RenameShiftsSaid : Prop := renameShiftsRow.holds Try.pinned (OpenSpec.ofChange renameShiftsSpec)

/-- ITS FALSE NEIGHBOUR: 'it returns false'. Refute it at one input. -/
def renameShiftsWrong : ChangeSpec := { name := "renameShifts", fn := fun _ => fun
  | [d1, d2, d3] => { results := [.lit (.bool false)], args := [d1, d2, d3] }
  | _ => none }
def RenameShiftsWrongFalsely : Prop := renameShiftsRow.holds Try.pinned (OpenSpec.ofChange renameShiftsWrong)

/- THE SECOND FORM. 'bulk': how many values and letters a reading holds, each counted each time it is reached (what is shared counts as often as it is met; a slice's spare places count too). A statement '..UptoSaid' is the law's where the arguments, and the package variables that the reading takes, are together of bulk at most 1048576: NARROWER than '..Said'. Prove '..Said' where nothing that the law and all that it calls make is longer than what came in: it says more and counts as full. Else prove '..UptoSaid'. A law counts once. -/
mutual
def uptoBulk {H : Type} : DataW H → Nat
  | .lit (.string bytes) => bytes.length + 1
  | .lit _ => 1
  | .nil => 1
  | .ptr d => uptoBulk d + 1
  | .slice elems spare => uptoBulkAll elems + uptoBulkAll spare + 1
  | .agg parts => uptoBulkAll parts + 1
  | .iface _ d => uptoBulk d + 1
  | .map entries => uptoBulkEntries entries + 1
  | .held _ => 1
def uptoBulkAll {H : Type} : List (DataW H) → Nat
  | [] => 0
  | d :: r => uptoBulk d + uptoBulkAll r
def uptoBulkEntries {H : Type} : List (Lit × DataW H) → Nat
  | [] => 0
  | x :: r => uptoBulkEntry x + uptoBulkEntries r
def uptoBulkEntry {H : Type} : Lit × DataW H → Nat
  | (.string bytes, d) => bytes.length + uptoBulk d + 1
  | (_, d) => uptoBulk d + 1
 end
def uptoSmall : (H : Type) → List (DataW H) → Bool := fun _ ds => decide (uptoBulkAll ds ≤ 1048576)
def OpenSpec.upto (s : _root_.Go.ChangeSpec) : _root_.Go.OpenSpec := { _root_.Go.OpenSpec.ofChange s with cond := some uptoSmall }

/-- 'resolventlaw01.TermMakes', WHERE WHAT IT READS IS OF BULK AT MOST 1048576: true; the input reads as it did. -/
def termMakesUptoRow : OpenClaim := { program := "ytgoeglahmlpmeaa", sum := "5ab3cac847997b9add3fc10e25a5ff461c89bb5b6dc5e94a834fae8e8dcc18fc", func := "resolvent/resolventlaw01.TermMakes", spec := "termMakes", unfollowed := true, recurses := true, loops := true, apart := false, narrowed := true }
def TermMakesUptoSaid : Prop := termMakesUptoRow.holds Try.pinned (OpenSpec.upto termMakesSpec)

/-- 'resolventlaw01.TermVars', WHERE WHAT IT READS IS OF BULK AT MOST 1048576: true; the input reads as it did. -/
def termVarsUptoRow : OpenClaim := { program := "ytgoeglahmlpmeaa", sum := "5ab3cac847997b9add3fc10e25a5ff461c89bb5b6dc5e94a834fae8e8dcc18fc", func := "resolvent/resolventlaw01.TermVars", spec := "termVars", unfollowed := true, recurses := true, loops := true, apart := false, narrowed := true }
def TermVarsUptoSaid : Prop := termVarsUptoRow.holds Try.pinned (OpenSpec.upto termVarsSpec)

/-- 'resolventlaw01.TermTells', WHERE WHAT IT READS IS OF BULK AT MOST 1048576: true; the input reads as it did. -/
def termTellsUptoRow : OpenClaim := { program := "ytgoeglahmlpmeaa", sum := "5ab3cac847997b9add3fc10e25a5ff461c89bb5b6dc5e94a834fae8e8dcc18fc", func := "resolvent/resolventlaw01.TermTells", spec := "termTells", unfollowed := true, recurses := true, loops := true, apart := false, narrowed := true }
def TermTellsUptoSaid : Prop := termTellsUptoRow.holds Try.pinned (OpenSpec.upto termTellsSpec)

/-- 'resolventlaw01.TermParts', WHERE WHAT IT READS IS OF BULK AT MOST 1048576: true; the input reads as it did. -/
def termPartsUptoRow : OpenClaim := { program := "ytgoeglahmlpmeaa", sum := "5ab3cac847997b9add3fc10e25a5ff461c89bb5b6dc5e94a834fae8e8dcc18fc", func := "resolvent/resolventlaw01.TermParts", spec := "termParts", unfollowed := true, recurses := true, loops := true, apart := false, narrowed := true }
def TermPartsUptoSaid : Prop := termPartsUptoRow.holds Try.pinned (OpenSpec.upto termPartsSpec)

/-- 'resolventlaw02.OrderTells', WHERE WHAT IT READS IS OF BULK AT MOST 1048576: true; the input reads as it did. -/
def orderTellsUptoRow : OpenClaim := { program := "ytgoeglahmlpmeaa", sum := "5ab3cac847997b9add3fc10e25a5ff461c89bb5b6dc5e94a834fae8e8dcc18fc", func := "resolvent/resolventlaw02.OrderTells", spec := "orderTells", unfollowed := true, recurses := true, loops := true, apart := false, narrowed := true }
def OrderTellsUptoSaid : Prop := orderTellsUptoRow.holds Try.pinned (OpenSpec.upto orderTellsSpec)

/-- 'resolventlaw02.OrderSorts', WHERE WHAT IT READS IS OF BULK AT MOST 1048576: true; the input reads as it did. -/
def orderSortsUptoRow : OpenClaim := { program := "ytgoeglahmlpmeaa", sum := "5ab3cac847997b9add3fc10e25a5ff461c89bb5b6dc5e94a834fae8e8dcc18fc", func := "resolvent/resolventlaw02.OrderSorts", spec := "orderSorts", unfollowed := true, recurses := true, loops := true, apart := false, narrowed := true }
def OrderSortsUptoSaid : Prop := orderSortsUptoRow.holds Try.pinned (OpenSpec.upto orderSortsSpec)

/-- 'resolventlaw02.OrderArgs', WHERE WHAT IT READS IS OF BULK AT MOST 1048576: true; the input reads as it did. -/
def orderArgsUptoRow : OpenClaim := { program := "ytgoeglahmlpmeaa", sum := "5ab3cac847997b9add3fc10e25a5ff461c89bb5b6dc5e94a834fae8e8dcc18fc", func := "resolvent/resolventlaw02.OrderArgs", spec := "orderArgs", unfollowed := true, recurses := true, loops := true, apart := false, narrowed := true }
def OrderArgsUptoSaid : Prop := orderArgsUptoRow.holds Try.pinned (OpenSpec.upto orderArgsSpec)

/-- 'resolventlaw02.OrderOne', WHERE WHAT IT READS IS OF BULK AT MOST 1048576: true; the input reads as it did. -/
def orderOneUptoRow : OpenClaim := { program := "ytgoeglahmlpmeaa", sum := "5ab3cac847997b9add3fc10e25a5ff461c89bb5b6dc5e94a834fae8e8dcc18fc", func := "resolvent/resolventlaw02.OrderOne", spec := "orderOne", unfollowed := true, recurses := true, loops := true, apart := false, narrowed := true }
def OrderOneUptoSaid : Prop := orderOneUptoRow.holds Try.pinned (OpenSpec.upto orderOneSpec)

/-- 'resolventlaw05.RenameTells', WHERE WHAT IT READS IS OF BULK AT MOST 1048576: true; the input reads as it did. -/
def renameTellsUptoRow : OpenClaim := { program := "ytgoeglahmlpmeaa", sum := "5ab3cac847997b9add3fc10e25a5ff461c89bb5b6dc5e94a834fae8e8dcc18fc", func := "resolvent/resolventlaw05.RenameTells", spec := "renameTells", unfollowed := true, recurses := true, loops := true, apart := false, narrowed := true }
def RenameTellsUptoSaid : Prop := renameTellsUptoRow.holds Try.pinned (OpenSpec.upto renameTellsSpec)

/-- 'resolventlaw05.RenameShifts', WHERE WHAT IT READS IS OF BULK AT MOST 1048576: true; the input reads as it did. -/
def renameShiftsUptoRow : OpenClaim := { program := "ytgoeglahmlpmeaa", sum := "5ab3cac847997b9add3fc10e25a5ff461c89bb5b6dc5e94a834fae8e8dcc18fc", func := "resolvent/resolventlaw05.RenameShifts", spec := "renameShifts", unfollowed := true, recurses := true, loops := true, apart := false, narrowed := true }
def RenameShiftsUptoSaid : Prop := renameShiftsUptoRow.holds Try.pinned (OpenSpec.upto renameShiftsSpec)

end Rows
end Go.Proofs.Ytgoeglahmlpmeaa

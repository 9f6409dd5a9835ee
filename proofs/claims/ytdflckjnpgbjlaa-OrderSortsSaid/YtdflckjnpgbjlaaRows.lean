/-
  NARROWER THAN 'FOR EVERY INPUT', by the rows' own cells (each row's printed sentence says how): UnifyTurns: loops · UnifyStructs: loops · UnifyApart: loops · UnifyMost: loops · RenameVariants: loops · ArithTells: loops · ArithApplied: loops · OrderSorts: loops · OrderArgs: loops.
  DERIVED. THE GIVEN ROWS OF THIS SEAT. 12 by the template 'for every input the law returns true; each argument reads behind the call as it read before'; 0 by the template 'total and deterministic' (their statements: YtdflckjnpgbjlaaTotals.lean).
  GIVEN WITH THE SEED: the statements are not yours to turn. If you find one false, say at which input.
  Laid BY PROGRAM, IN A SANDBOX (cutbox-rows.mjs): the forced cells as the released guide's own fill.sh prints them over the translation 36bca42e71767225… (all of the seat's roots in one cut). By AI agents, Wed Nov 11 2026. No macro, syntax, notation, axiom, sorry.
-/
import Derived.Test.YtdflckjnpgbjlaaChecked
import GoSem.Claim
import GoSem.ClaimJoined
import GoSem.ClaimMapViews
import Derived.JoinedTies
import Derived.KernelRfl
namespace Go.Proofs.Ytdflckjnpgbjlaa
/- THE CELL 'sum', in the pinned program and in every row, IS THE sha256 OF THE DUMP (.gsa) THAT YtdflckjnpgbjlaaProg.lean LOADS. Nothing in Lean hashes anything: it is a label: what it is worth is what the hold of that sum in a sandbox is worth. -/
noncomputable def Try.pinned : Pinned := { name := "ytdflckjnpgbjlaa", sum := "36bca42e7176722579a57e447716b9ed3d2a87f4c8b85e514fba54116bdcbb13", checked := Try.checked }
namespace Rows
def none {H : Type} : Left H := { results := [], args := [] }

/-- 'resolventlaw04.UnifyTurns': WHATEVER THE INPUT: true; the input reads as it did. -/
def unifyTurnsSpec : ChangeSpec := { name := "unifyTurns", fn := fun _ => fun
  | [d1, d2] => { results := [.lit (.bool true)], args := [d1, d2] }
  | _ => none }
def unifyTurnsRow : OpenClaim := { program := "ytdflckjnpgbjlaa", sum := "36bca42e7176722579a57e447716b9ed3d2a87f4c8b85e514fba54116bdcbb13", func := "resolvent/resolventlaw04.UnifyTurns", spec := "unifyTurns", inPlace := ["maps.clone"], unfollowed := true, recurses := true, loops := true, plainKeys := false, apart := false }
def UnifyTurnsSaid : Prop := unifyTurnsRow.holds Try.pinned (OpenSpec.ofChange unifyTurnsSpec)

/-- ITS FALSE NEIGHBOUR: 'it returns false'. Refute it at one input. -/
def unifyTurnsWrong : ChangeSpec := { name := "unifyTurns", fn := fun _ => fun
  | [d1, d2] => { results := [.lit (.bool false)], args := [d1, d2] }
  | _ => none }
def UnifyTurnsWrongFalsely : Prop := unifyTurnsRow.holds Try.pinned (OpenSpec.ofChange unifyTurnsWrong)

/-- 'resolventlaw04.UnifyStructs': WHATEVER THE INPUT: true; the input reads as it did. -/
def unifyStructsSpec : ChangeSpec := { name := "unifyStructs", fn := fun _ => fun
  | [d1, d2] => { results := [.lit (.bool true)], args := [d1, d2] }
  | _ => none }
def unifyStructsRow : OpenClaim := { program := "ytdflckjnpgbjlaa", sum := "36bca42e7176722579a57e447716b9ed3d2a87f4c8b85e514fba54116bdcbb13", func := "resolvent/resolventlaw04.UnifyStructs", spec := "unifyStructs", inPlace := ["maps.clone"], unfollowed := true, recurses := true, loops := true, plainKeys := false, apart := false }
def UnifyStructsSaid : Prop := unifyStructsRow.holds Try.pinned (OpenSpec.ofChange unifyStructsSpec)

/-- ITS FALSE NEIGHBOUR: 'it returns false'. Refute it at one input. -/
def unifyStructsWrong : ChangeSpec := { name := "unifyStructs", fn := fun _ => fun
  | [d1, d2] => { results := [.lit (.bool false)], args := [d1, d2] }
  | _ => none }
def UnifyStructsWrongFalsely : Prop := unifyStructsRow.holds Try.pinned (OpenSpec.ofChange unifyStructsWrong)

/-- 'resolventlaw04.UnifyApart': WHATEVER THE INPUT: true; the input reads as it did. -/
def unifyApartSpec : ChangeSpec := { name := "unifyApart", fn := fun _ => fun
  | [d1, d2] => { results := [.lit (.bool true)], args := [d1, d2] }
  | _ => none }
def unifyApartRow : OpenClaim := { program := "ytdflckjnpgbjlaa", sum := "36bca42e7176722579a57e447716b9ed3d2a87f4c8b85e514fba54116bdcbb13", func := "resolvent/resolventlaw04.UnifyApart", spec := "unifyApart", inPlace := ["maps.clone"], unfollowed := true, recurses := true, loops := true, plainKeys := false, apart := false }
def UnifyApartSaid : Prop := unifyApartRow.holds Try.pinned (OpenSpec.ofChange unifyApartSpec)

/-- ITS FALSE NEIGHBOUR: 'it returns false'. Refute it at one input. -/
def unifyApartWrong : ChangeSpec := { name := "unifyApart", fn := fun _ => fun
  | [d1, d2] => { results := [.lit (.bool false)], args := [d1, d2] }
  | _ => none }
def UnifyApartWrongFalsely : Prop := unifyApartRow.holds Try.pinned (OpenSpec.ofChange unifyApartWrong)

/-- 'resolventlaw04.UnifyMost': WHATEVER THE INPUT: true; the input reads as it did. -/
def unifyMostSpec : ChangeSpec := { name := "unifyMost", fn := fun _ => fun
  | [d1, d2, d3] => { results := [.lit (.bool true)], args := [d1, d2, d3] }
  | _ => none }
def unifyMostRow : OpenClaim := { program := "ytdflckjnpgbjlaa", sum := "36bca42e7176722579a57e447716b9ed3d2a87f4c8b85e514fba54116bdcbb13", func := "resolvent/resolventlaw04.UnifyMost", spec := "unifyMost", inPlace := ["maps.clone"], unfollowed := true, recurses := true, loops := true, plainKeys := false, apart := false }
def UnifyMostSaid : Prop := unifyMostRow.holds Try.pinned (OpenSpec.ofChange unifyMostSpec)

/-- ITS FALSE NEIGHBOUR: 'it returns false'. Refute it at one input. -/
def unifyMostWrong : ChangeSpec := { name := "unifyMost", fn := fun _ => fun
  | [d1, d2, d3] => { results := [.lit (.bool false)], args := [d1, d2, d3] }
  | _ => none }
def UnifyMostWrongFalsely : Prop := unifyMostRow.holds Try.pinned (OpenSpec.ofChange unifyMostWrong)

/-- 'resolventlaw05.RenameVariants': WHATEVER THE INPUT: true; the input reads as it did. -/
def renameVariantsSpec : ChangeSpec := { name := "renameVariants", fn := fun _ => fun
  | [d1, d2, d3, d4] => { results := [.lit (.bool true)], args := [d1, d2, d3, d4] }
  | _ => none }
def renameVariantsRow : OpenClaim := { program := "ytdflckjnpgbjlaa", sum := "36bca42e7176722579a57e447716b9ed3d2a87f4c8b85e514fba54116bdcbb13", func := "resolvent/resolventlaw05.RenameVariants", spec := "renameVariants", inPlace := ["maps.clone"], unfollowed := true, recurses := true, loops := true, plainKeys := false, apart := false }
def RenameVariantsSaid : Prop := renameVariantsRow.holds Try.pinned (OpenSpec.ofChange renameVariantsSpec)

/-- ITS FALSE NEIGHBOUR: 'it returns false'. Refute it at one input. -/
def renameVariantsWrong : ChangeSpec := { name := "renameVariants", fn := fun _ => fun
  | [d1, d2, d3, d4] => { results := [.lit (.bool false)], args := [d1, d2, d3, d4] }
  | _ => none }
def RenameVariantsWrongFalsely : Prop := renameVariantsRow.holds Try.pinned (OpenSpec.ofChange renameVariantsWrong)

/-- 'resolventlaw22.CodeChecks': WHATEVER THE INPUT: true; the input reads as it did. -/
def codeChecksSpec : ChangeSpec := { name := "codeChecks", fn := fun _ => fun
  | [d1, d2] => { results := [.lit (.bool true)], args := [d1, d2] }
  | _ => none }
def codeChecksRow : OpenClaim := { program := "ytdflckjnpgbjlaa", sum := "36bca42e7176722579a57e447716b9ed3d2a87f4c8b85e514fba54116bdcbb13", func := "resolvent/resolventlaw22.CodeChecks", spec := "codeChecks", unfollowed := true, recurses := true, plainKeys := false, apart := false }
def CodeChecksSaid : Prop := codeChecksRow.holds Try.pinned (OpenSpec.ofChange codeChecksSpec)

/-- ITS FALSE NEIGHBOUR: 'it returns false'. Refute it at one input. -/
def codeChecksWrong : ChangeSpec := { name := "codeChecks", fn := fun _ => fun
  | [d1, d2] => { results := [.lit (.bool false)], args := [d1, d2] }
  | _ => none }
def CodeChecksWrongFalsely : Prop := codeChecksRow.holds Try.pinned (OpenSpec.ofChange codeChecksWrong)

/-- 'resolventlaw22.CodeBreaks': WHATEVER THE INPUT: true; the input reads as it did. -/
def codeBreaksSpec : ChangeSpec := { name := "codeBreaks", fn := fun _ => fun
  | [d1, d2] => { results := [.lit (.bool true)], args := [d1, d2] }
  | _ => none }
def codeBreaksRow : OpenClaim := { program := "ytdflckjnpgbjlaa", sum := "36bca42e7176722579a57e447716b9ed3d2a87f4c8b85e514fba54116bdcbb13", func := "resolvent/resolventlaw22.CodeBreaks", spec := "codeBreaks", unfollowed := true, recurses := true, plainKeys := false, apart := false }
def CodeBreaksSaid : Prop := codeBreaksRow.holds Try.pinned (OpenSpec.ofChange codeBreaksSpec)

/-- ITS FALSE NEIGHBOUR: 'it returns false'. Refute it at one input. -/
def codeBreaksWrong : ChangeSpec := { name := "codeBreaks", fn := fun _ => fun
  | [d1, d2] => { results := [.lit (.bool false)], args := [d1, d2] }
  | _ => none }
def CodeBreaksWrongFalsely : Prop := codeBreaksRow.holds Try.pinned (OpenSpec.ofChange codeBreaksWrong)

/-- 'resolventlaw13.ArithRing': WHATEVER THE INPUT: true; the input reads as it did. -/
def arithRingSpec : ChangeSpec := { name := "arithRing", fn := fun _ => fun
  | [d1, d2, d3] => { results := [.lit (.bool true)], args := [d1, d2, d3] }
  | _ => none }
def arithRingRow : OpenClaim := { program := "ytdflckjnpgbjlaa", sum := "36bca42e7176722579a57e447716b9ed3d2a87f4c8b85e514fba54116bdcbb13", func := "resolvent/resolventlaw13.ArithRing", spec := "arithRing", unfollowed := true, recurses := true, plainKeys := false, apart := false }
def ArithRingSaid : Prop := arithRingRow.holds Try.pinned (OpenSpec.ofChange arithRingSpec)

/-- ITS FALSE NEIGHBOUR: 'it returns false'. Refute it at one input. -/
def arithRingWrong : ChangeSpec := { name := "arithRing", fn := fun _ => fun
  | [d1, d2, d3] => { results := [.lit (.bool false)], args := [d1, d2, d3] }
  | _ => none }
def ArithRingWrongFalsely : Prop := arithRingRow.holds Try.pinned (OpenSpec.ofChange arithRingWrong)

/-- 'resolventlaw13.ArithTells': WHATEVER THE INPUT: true; the input reads as it did. -/
def arithTellsSpec : ChangeSpec := { name := "arithTells", fn := fun _ => fun
  | [d1, d2] => { results := [.lit (.bool true)], args := [d1, d2] }
  | _ => none }
def arithTellsRow : OpenClaim := { program := "ytdflckjnpgbjlaa", sum := "36bca42e7176722579a57e447716b9ed3d2a87f4c8b85e514fba54116bdcbb13", func := "resolvent/resolventlaw13.ArithTells", spec := "arithTells", unfollowed := true, recurses := true, loops := true, plainKeys := false, apart := false }
def ArithTellsSaid : Prop := arithTellsRow.holds Try.pinned (OpenSpec.ofChange arithTellsSpec)

/-- ITS FALSE NEIGHBOUR: 'it returns false'. Refute it at one input. -/
def arithTellsWrong : ChangeSpec := { name := "arithTells", fn := fun _ => fun
  | [d1, d2] => { results := [.lit (.bool false)], args := [d1, d2] }
  | _ => none }
def ArithTellsWrongFalsely : Prop := arithTellsRow.holds Try.pinned (OpenSpec.ofChange arithTellsWrong)

/-- 'resolventlaw13.ArithApplied': WHATEVER THE INPUT: true; the input reads as it did. -/
def arithAppliedSpec : ChangeSpec := { name := "arithApplied", fn := fun _ => fun
  | [d1, d2] => { results := [.lit (.bool true)], args := [d1, d2] }
  | _ => none }
def arithAppliedRow : OpenClaim := { program := "ytdflckjnpgbjlaa", sum := "36bca42e7176722579a57e447716b9ed3d2a87f4c8b85e514fba54116bdcbb13", func := "resolvent/resolventlaw13.ArithApplied", spec := "arithApplied", unfollowed := true, recurses := true, loops := true, plainKeys := false, apart := false }
def ArithAppliedSaid : Prop := arithAppliedRow.holds Try.pinned (OpenSpec.ofChange arithAppliedSpec)

/-- ITS FALSE NEIGHBOUR: 'it returns false'. Refute it at one input. -/
def arithAppliedWrong : ChangeSpec := { name := "arithApplied", fn := fun _ => fun
  | [d1, d2] => { results := [.lit (.bool false)], args := [d1, d2] }
  | _ => none }
def ArithAppliedWrongFalsely : Prop := arithAppliedRow.holds Try.pinned (OpenSpec.ofChange arithAppliedWrong)

/-- 'resolventlaw02.OrderSorts': WHATEVER THE INPUT: true; the input reads as it did. -/
def orderSortsSpec : ChangeSpec := { name := "orderSorts", fn := fun _ => fun
  | [d] => { results := [.lit (.bool true)], args := [d] }
  | _ => none }
def orderSortsRow : OpenClaim := { program := "ytdflckjnpgbjlaa", sum := "36bca42e7176722579a57e447716b9ed3d2a87f4c8b85e514fba54116bdcbb13", func := "resolvent/resolventlaw02.OrderSorts", spec := "orderSorts", unfollowed := true, recurses := true, loops := true, plainKeys := false, apart := false }
def OrderSortsSaid : Prop := orderSortsRow.holds Try.pinned (OpenSpec.ofChange orderSortsSpec)

/-- ITS FALSE NEIGHBOUR: 'it returns false'. Refute it at one input. -/
def orderSortsWrong : ChangeSpec := { name := "orderSorts", fn := fun _ => fun
  | [d] => { results := [.lit (.bool false)], args := [d] }
  | _ => none }
def OrderSortsWrongFalsely : Prop := orderSortsRow.holds Try.pinned (OpenSpec.ofChange orderSortsWrong)

/-- 'resolventlaw02.OrderArgs': WHATEVER THE INPUT: true; the input reads as it did. -/
def orderArgsSpec : ChangeSpec := { name := "orderArgs", fn := fun _ => fun
  | [d1, d2, d3] => { results := [.lit (.bool true)], args := [d1, d2, d3] }
  | _ => none }
def orderArgsRow : OpenClaim := { program := "ytdflckjnpgbjlaa", sum := "36bca42e7176722579a57e447716b9ed3d2a87f4c8b85e514fba54116bdcbb13", func := "resolvent/resolventlaw02.OrderArgs", spec := "orderArgs", unfollowed := true, recurses := true, loops := true, plainKeys := false, apart := false }
def OrderArgsSaid : Prop := orderArgsRow.holds Try.pinned (OpenSpec.ofChange orderArgsSpec)

/-- ITS FALSE NEIGHBOUR: 'it returns false'. Refute it at one input. -/
def orderArgsWrong : ChangeSpec := { name := "orderArgs", fn := fun _ => fun
  | [d1, d2, d3] => { results := [.lit (.bool false)], args := [d1, d2, d3] }
  | _ => none }
def OrderArgsWrongFalsely : Prop := orderArgsRow.holds Try.pinned (OpenSpec.ofChange orderArgsWrong)

/- THE SECOND FORM. 'bulk': how many values and letters a reading holds, each counted each time it is reached (what is shared counts as often as it is met; a slice's spare places count too). A statement '..UptoSaid' is the law's where the arguments, and the package variables that the reading takes, are together of bulk at most 1048576: NARROWER than '..Said'. Prove '..Said' where nothing that the law and all that it calls make is longer than what came in: it says more and counts as full. Else prove '..UptoSaid'. A law counts once. -/
mutual
def uptoBulk {H : Type} : DataW H → Nat
  | .lit (.string bytes) => bytes.length + 1
  | .lit _ => 1
  | .nil => 1
  | .ptr d => uptoBulk d + 1
  | .slice elems spare => uptoBulkAll elems + uptoBulkAll spare + 1
  | .agg parts => uptoBulkAll parts + 1
  | .iface _ d => uptoBulk d + 1
  | .map entries => uptoBulkEntries entries + 1
  | .held _ => 1
def uptoBulkAll {H : Type} : List (DataW H) → Nat
  | [] => 0
  | d :: r => uptoBulk d + uptoBulkAll r
def uptoBulkEntries {H : Type} : List (Lit × DataW H) → Nat
  | [] => 0
  | x :: r => uptoBulkEntry x + uptoBulkEntries r
def uptoBulkEntry {H : Type} : Lit × DataW H → Nat
  | (.string bytes, d) => bytes.length + uptoBulk d + 1
  | (_, d) => uptoBulk d + 1
 end
def uptoSmall : (H : Type) → List (DataW H) → Bool := fun _ ds => decide (uptoBulkAll ds ≤ 1048576)
def OpenSpec.upto (s : _root_.Go.ChangeSpec) : _root_.Go.OpenSpec := { _root_.Go.OpenSpec.ofChange s with cond := some uptoSmall }

/-- 'resolventlaw04.UnifyTurns', WHERE WHAT IT READS IS OF BULK AT MOST 1048576: true; the input reads as it did. -/
def unifyTurnsUptoRow : OpenClaim := { program := "ytdflckjnpgbjlaa", sum := "36bca42e7176722579a57e447716b9ed3d2a87f4c8b85e514fba54116bdcbb13", func := "resolvent/resolventlaw04.UnifyTurns", spec := "unifyTurns", inPlace := ["maps.clone"], unfollowed := true, recurses := true, loops := true, plainKeys := false, apart := false, narrowed := true }
def UnifyTurnsUptoSaid : Prop := unifyTurnsUptoRow.holds Try.pinned (OpenSpec.upto unifyTurnsSpec)

/-- 'resolventlaw04.UnifyStructs', WHERE WHAT IT READS IS OF BULK AT MOST 1048576: true; the input reads as it did. -/
def unifyStructsUptoRow : OpenClaim := { program := "ytdflckjnpgbjlaa", sum := "36bca42e7176722579a57e447716b9ed3d2a87f4c8b85e514fba54116bdcbb13", func := "resolvent/resolventlaw04.UnifyStructs", spec := "unifyStructs", inPlace := ["maps.clone"], unfollowed := true, recurses := true, loops := true, plainKeys := false, apart := false, narrowed := true }
def UnifyStructsUptoSaid : Prop := unifyStructsUptoRow.holds Try.pinned (OpenSpec.upto unifyStructsSpec)

/-- 'resolventlaw04.UnifyApart', WHERE WHAT IT READS IS OF BULK AT MOST 1048576: true; the input reads as it did. -/
def unifyApartUptoRow : OpenClaim := { program := "ytdflckjnpgbjlaa", sum := "36bca42e7176722579a57e447716b9ed3d2a87f4c8b85e514fba54116bdcbb13", func := "resolvent/resolventlaw04.UnifyApart", spec := "unifyApart", inPlace := ["maps.clone"], unfollowed := true, recurses := true, loops := true, plainKeys := false, apart := false, narrowed := true }
def UnifyApartUptoSaid : Prop := unifyApartUptoRow.holds Try.pinned (OpenSpec.upto unifyApartSpec)

/-- 'resolventlaw04.UnifyMost', WHERE WHAT IT READS IS OF BULK AT MOST 1048576: true; the input reads as it did. -/
def unifyMostUptoRow : OpenClaim := { program := "ytdflckjnpgbjlaa", sum := "36bca42e7176722579a57e447716b9ed3d2a87f4c8b85e514fba54116bdcbb13", func := "resolvent/resolventlaw04.UnifyMost", spec := "unifyMost", inPlace := ["maps.clone"], unfollowed := true, recurses := true, loops := true, plainKeys := false, apart := false, narrowed := true }
def UnifyMostUptoSaid : Prop := unifyMostUptoRow.holds Try.pinned (OpenSpec.upto unifyMostSpec)

/-- 'resolventlaw05.RenameVariants', WHERE WHAT IT READS IS OF BULK AT MOST 1048576: true; the input reads as it did. -/
def renameVariantsUptoRow : OpenClaim := { program := "ytdflckjnpgbjlaa", sum := "36bca42e7176722579a57e447716b9ed3d2a87f4c8b85e514fba54116bdcbb13", func := "resolvent/resolventlaw05.RenameVariants", spec := "renameVariants", inPlace := ["maps.clone"], unfollowed := true, recurses := true, loops := true, plainKeys := false, apart := false, narrowed := true }
def RenameVariantsUptoSaid : Prop := renameVariantsUptoRow.holds Try.pinned (OpenSpec.upto renameVariantsSpec)

/-- 'resolventlaw22.CodeChecks', WHERE WHAT IT READS IS OF BULK AT MOST 1048576: true; the input reads as it did. -/
def codeChecksUptoRow : OpenClaim := { program := "ytdflckjnpgbjlaa", sum := "36bca42e7176722579a57e447716b9ed3d2a87f4c8b85e514fba54116bdcbb13", func := "resolvent/resolventlaw22.CodeChecks", spec := "codeChecks", unfollowed := true, recurses := true, plainKeys := false, apart := false, narrowed := true }
def CodeChecksUptoSaid : Prop := codeChecksUptoRow.holds Try.pinned (OpenSpec.upto codeChecksSpec)

/-- 'resolventlaw22.CodeBreaks', WHERE WHAT IT READS IS OF BULK AT MOST 1048576: true; the input reads as it did. -/
def codeBreaksUptoRow : OpenClaim := { program := "ytdflckjnpgbjlaa", sum := "36bca42e7176722579a57e447716b9ed3d2a87f4c8b85e514fba54116bdcbb13", func := "resolvent/resolventlaw22.CodeBreaks", spec := "codeBreaks", unfollowed := true, recurses := true, plainKeys := false, apart := false, narrowed := true }
def CodeBreaksUptoSaid : Prop := codeBreaksUptoRow.holds Try.pinned (OpenSpec.upto codeBreaksSpec)

/-- 'resolventlaw13.ArithRing', WHERE WHAT IT READS IS OF BULK AT MOST 1048576: true; the input reads as it did. -/
def arithRingUptoRow : OpenClaim := { program := "ytdflckjnpgbjlaa", sum := "36bca42e7176722579a57e447716b9ed3d2a87f4c8b85e514fba54116bdcbb13", func := "resolvent/resolventlaw13.ArithRing", spec := "arithRing", unfollowed := true, recurses := true, plainKeys := false, apart := false, narrowed := true }
def ArithRingUptoSaid : Prop := arithRingUptoRow.holds Try.pinned (OpenSpec.upto arithRingSpec)

/-- 'resolventlaw13.ArithTells', WHERE WHAT IT READS IS OF BULK AT MOST 1048576: true; the input reads as it did. -/
def arithTellsUptoRow : OpenClaim := { program := "ytdflckjnpgbjlaa", sum := "36bca42e7176722579a57e447716b9ed3d2a87f4c8b85e514fba54116bdcbb13", func := "resolvent/resolventlaw13.ArithTells", spec := "arithTells", unfollowed := true, recurses := true, loops := true, plainKeys := false, apart := false, narrowed := true }
def ArithTellsUptoSaid : Prop := arithTellsUptoRow.holds Try.pinned (OpenSpec.upto arithTellsSpec)

/-- 'resolventlaw13.ArithApplied', WHERE WHAT IT READS IS OF BULK AT MOST 1048576: true; the input reads as it did. -/
def arithAppliedUptoRow : OpenClaim := { program := "ytdflckjnpgbjlaa", sum := "36bca42e7176722579a57e447716b9ed3d2a87f4c8b85e514fba54116bdcbb13", func := "resolvent/resolventlaw13.ArithApplied", spec := "arithApplied", unfollowed := true, recurses := true, loops := true, plainKeys := false, apart := false, narrowed := true }
def ArithAppliedUptoSaid : Prop := arithAppliedUptoRow.holds Try.pinned (OpenSpec.upto arithAppliedSpec)

/-- 'resolventlaw02.OrderSorts', WHERE WHAT IT READS IS OF BULK AT MOST 1048576: true; the input reads as it did. -/
def orderSortsUptoRow : OpenClaim := { program := "ytdflckjnpgbjlaa", sum := "36bca42e7176722579a57e447716b9ed3d2a87f4c8b85e514fba54116bdcbb13", func := "resolvent/resolventlaw02.OrderSorts", spec := "orderSorts", unfollowed := true, recurses := true, loops := true, plainKeys := false, apart := false, narrowed := true }
def OrderSortsUptoSaid : Prop := orderSortsUptoRow.holds Try.pinned (OpenSpec.upto orderSortsSpec)

/-- 'resolventlaw02.OrderArgs', WHERE WHAT IT READS IS OF BULK AT MOST 1048576: true; the input reads as it did. -/
def orderArgsUptoRow : OpenClaim := { program := "ytdflckjnpgbjlaa", sum := "36bca42e7176722579a57e447716b9ed3d2a87f4c8b85e514fba54116bdcbb13", func := "resolvent/resolventlaw02.OrderArgs", spec := "orderArgs", unfollowed := true, recurses := true, loops := true, plainKeys := false, apart := false, narrowed := true }
def OrderArgsUptoSaid : Prop := orderArgsUptoRow.holds Try.pinned (OpenSpec.upto orderArgsSpec)

end Rows
end Go.Proofs.Ytdflckjnpgbjlaa

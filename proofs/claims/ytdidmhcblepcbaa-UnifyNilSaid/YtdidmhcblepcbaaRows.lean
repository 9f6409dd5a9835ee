/-
  NARROWER THAN 'FOR EVERY INPUT', by the rows' own cells (each row's printed sentence says how): SubstTells: loops · SubstMore: loops · SubstNil: loops · SubstIdem: loops · UnifyNil: loops · ArithTells: loops · ArithApplied: loops.
  DERIVED. THE GIVEN ROWS OF THIS SEAT. 10 by the template 'for every input the law returns true; each argument reads behind the call as it read before'; 0 by the template 'total and deterministic' (their statements: YtdidmhcblepcbaaTotals.lean).
  GIVEN WITH THE SEED: the statements are not yours to turn. If you find one false, say at which input.
  Laid BY PROGRAM, IN A SANDBOX (cutbox-rows.mjs): the forced cells as the released guide's own fill.sh prints them over the translation 356a4528c817eb38… (all of the seat's roots in one cut). By AI agents, Wed Nov 11 2026. No macro, syntax, notation, axiom, sorry.
-/
import Derived.Test.YtdidmhcblepcbaaChecked
import GoSem.Claim
import GoSem.ClaimJoined
import GoSem.ClaimMapViews
import Derived.JoinedTies
import Derived.KernelRfl
namespace Go.Proofs.Ytdidmhcblepcbaa
/- THE CELL 'sum', in the pinned program and in every row, IS THE sha256 OF THE DUMP (.gsa) THAT YtdidmhcblepcbaaProg.lean LOADS. Nothing in Lean hashes anything: it is a label: what it is worth is what the hold of that sum in a sandbox is worth. -/
noncomputable def Try.pinned : Pinned := { name := "ytdidmhcblepcbaa", sum := "356a4528c817eb386319e4f0baaa7d6946ca77de4aedcb1a7ea8f74f61e99d6d", checked := Try.checked }
namespace Rows
def none {H : Type} : Left H := { results := [], args := [] }

/-- 'resolventlaw03.SubstTells': WHATEVER THE INPUT: true; the input reads as it did. -/
def substTellsSpec : ChangeSpec := { name := "substTells", fn := fun _ => fun
  | [d1, d2, d3] => { results := [.lit (.bool true)], args := [d1, d2, d3] }
  | _ => none }
def substTellsRow : OpenClaim := { program := "ytdidmhcblepcbaa", sum := "356a4528c817eb386319e4f0baaa7d6946ca77de4aedcb1a7ea8f74f61e99d6d", func := "resolvent/resolventlaw03.SubstTells", spec := "substTells", unfollowed := true, recurses := true, loops := true, plainKeys := false, apart := false }
def SubstTellsSaid : Prop := substTellsRow.holds Try.pinned (OpenSpec.ofChange substTellsSpec)

/-- ITS FALSE NEIGHBOUR: 'it returns false'. Refute it at one input. -/
def substTellsWrong : ChangeSpec := { name := "substTells", fn := fun _ => fun
  | [d1, d2, d3] => { results := [.lit (.bool false)], args := [d1, d2, d3] }
  | _ => none }
def SubstTellsWrongFalsely : Prop := substTellsRow.holds Try.pinned (OpenSpec.ofChange substTellsWrong)

/-- 'resolventlaw03.SubstMore': WHATEVER THE INPUT: true; the input reads as it did. -/
def substMoreSpec : ChangeSpec := { name := "substMore", fn := fun _ => fun
  | [d1, d2, d3, d4] => { results := [.lit (.bool true)], args := [d1, d2, d3, d4] }
  | _ => none }
def substMoreRow : OpenClaim := { program := "ytdidmhcblepcbaa", sum := "356a4528c817eb386319e4f0baaa7d6946ca77de4aedcb1a7ea8f74f61e99d6d", func := "resolvent/resolventlaw03.SubstMore", spec := "substMore", unfollowed := true, recurses := true, loops := true, plainKeys := false, apart := false }
def SubstMoreSaid : Prop := substMoreRow.holds Try.pinned (OpenSpec.ofChange substMoreSpec)

/-- ITS FALSE NEIGHBOUR: 'it returns false'. Refute it at one input. -/
def substMoreWrong : ChangeSpec := { name := "substMore", fn := fun _ => fun
  | [d1, d2, d3, d4] => { results := [.lit (.bool false)], args := [d1, d2, d3, d4] }
  | _ => none }
def SubstMoreWrongFalsely : Prop := substMoreRow.holds Try.pinned (OpenSpec.ofChange substMoreWrong)

/-- 'resolventlaw03.SubstNil': WHATEVER THE INPUT: true; the input reads as it did. -/
def substNilSpec : ChangeSpec := { name := "substNil", fn := fun _ => fun
  | [d1, d2] => { results := [.lit (.bool true)], args := [d1, d2] }
  | _ => none }
def substNilRow : OpenClaim := { program := "ytdidmhcblepcbaa", sum := "356a4528c817eb386319e4f0baaa7d6946ca77de4aedcb1a7ea8f74f61e99d6d", func := "resolvent/resolventlaw03.SubstNil", spec := "substNil", inPlace := ["maps.clone"], unfollowed := true, recurses := true, loops := true, plainKeys := false, apart := false }
def SubstNilSaid : Prop := substNilRow.holds Try.pinned (OpenSpec.ofChange substNilSpec)

/-- ITS FALSE NEIGHBOUR: 'it returns false'. Refute it at one input. -/
def substNilWrong : ChangeSpec := { name := "substNil", fn := fun _ => fun
  | [d1, d2] => { results := [.lit (.bool false)], args := [d1, d2] }
  | _ => none }
def SubstNilWrongFalsely : Prop := substNilRow.holds Try.pinned (OpenSpec.ofChange substNilWrong)

/-- 'resolventlaw03.SubstIdem': WHATEVER THE INPUT: true; the input reads as it did. -/
def substIdemSpec : ChangeSpec := { name := "substIdem", fn := fun _ => fun
  | [d1, d2, d3, d4] => { results := [.lit (.bool true)], args := [d1, d2, d3, d4] }
  | _ => none }
def substIdemRow : OpenClaim := { program := "ytdidmhcblepcbaa", sum := "356a4528c817eb386319e4f0baaa7d6946ca77de4aedcb1a7ea8f74f61e99d6d", func := "resolvent/resolventlaw03.SubstIdem", spec := "substIdem", inPlace := ["maps.clone"], unfollowed := true, recurses := true, loops := true, plainKeys := false, apart := false }
def SubstIdemSaid : Prop := substIdemRow.holds Try.pinned (OpenSpec.ofChange substIdemSpec)

/-- ITS FALSE NEIGHBOUR: 'it returns false'. Refute it at one input. -/
def substIdemWrong : ChangeSpec := { name := "substIdem", fn := fun _ => fun
  | [d1, d2, d3, d4] => { results := [.lit (.bool false)], args := [d1, d2, d3, d4] }
  | _ => none }
def SubstIdemWrongFalsely : Prop := substIdemRow.holds Try.pinned (OpenSpec.ofChange substIdemWrong)

/-- 'resolventlaw04.UnifyNil': WHATEVER THE INPUT: true; the input reads as it did. -/
def unifyNilSpec : ChangeSpec := { name := "unifyNil", fn := fun _ => fun
  | [d1, d2] => { results := [.lit (.bool true)], args := [d1, d2] }
  | _ => none }
def unifyNilRow : OpenClaim := { program := "ytdidmhcblepcbaa", sum := "356a4528c817eb386319e4f0baaa7d6946ca77de4aedcb1a7ea8f74f61e99d6d", func := "resolvent/resolventlaw04.UnifyNil", spec := "unifyNil", inPlace := ["maps.clone"], unfollowed := true, recurses := true, loops := true, plainKeys := false, apart := false }
def UnifyNilSaid : Prop := unifyNilRow.holds Try.pinned (OpenSpec.ofChange unifyNilSpec)

/-- ITS FALSE NEIGHBOUR: 'it returns false'. Refute it at one input. -/
def unifyNilWrong : ChangeSpec := { name := "unifyNil", fn := fun _ => fun
  | [d1, d2] => { results := [.lit (.bool false)], args := [d1, d2] }
  | _ => none }
def UnifyNilWrongFalsely : Prop := unifyNilRow.holds Try.pinned (OpenSpec.ofChange unifyNilWrong)

/-- 'resolventlaw13.ArithRing': WHATEVER THE INPUT: true; the input reads as it did. -/
def arithRingSpec : ChangeSpec := { name := "arithRing", fn := fun _ => fun
  | [d1, d2, d3] => { results := [.lit (.bool true)], args := [d1, d2, d3] }
  | _ => none }
def arithRingRow : OpenClaim := { program := "ytdidmhcblepcbaa", sum := "356a4528c817eb386319e4f0baaa7d6946ca77de4aedcb1a7ea8f74f61e99d6d", func := "resolvent/resolventlaw13.ArithRing", spec := "arithRing", unfollowed := true, recurses := true, plainKeys := false, apart := false }
def ArithRingSaid : Prop := arithRingRow.holds Try.pinned (OpenSpec.ofChange arithRingSpec)

/-- ITS FALSE NEIGHBOUR: 'it returns false'. Refute it at one input. -/
def arithRingWrong : ChangeSpec := { name := "arithRing", fn := fun _ => fun
  | [d1, d2, d3] => { results := [.lit (.bool false)], args := [d1, d2, d3] }
  | _ => none }
def ArithRingWrongFalsely : Prop := arithRingRow.holds Try.pinned (OpenSpec.ofChange arithRingWrong)

/-- 'resolventlaw13.ArithTells': WHATEVER THE INPUT: true; the input reads as it did. -/
def arithTellsSpec : ChangeSpec := { name := "arithTells", fn := fun _ => fun
  | [d1, d2] => { results := [.lit (.bool true)], args := [d1, d2] }
  | _ => none }
def arithTellsRow : OpenClaim := { program := "ytdidmhcblepcbaa", sum := "356a4528c817eb386319e4f0baaa7d6946ca77de4aedcb1a7ea8f74f61e99d6d", func := "resolvent/resolventlaw13.ArithTells", spec := "arithTells", unfollowed := true, recurses := true, loops := true, plainKeys := false, apart := false }
def ArithTellsSaid : Prop := arithTellsRow.holds Try.pinned (OpenSpec.ofChange arithTellsSpec)

/-- ITS FALSE NEIGHBOUR: 'it returns false'. Refute it at one input. -/
def arithTellsWrong : ChangeSpec := { name := "arithTells", fn := fun _ => fun
  | [d1, d2] => { results := [.lit (.bool false)], args := [d1, d2] }
  | _ => none }
def ArithTellsWrongFalsely : Prop := arithTellsRow.holds Try.pinned (OpenSpec.ofChange arithTellsWrong)

/-- 'resolventlaw13.ArithApplied': WHATEVER THE INPUT: true; the input reads as it did. -/
def arithAppliedSpec : ChangeSpec := { name := "arithApplied", fn := fun _ => fun
  | [d1, d2] => { results := [.lit (.bool true)], args := [d1, d2] }
  | _ => none }
def arithAppliedRow : OpenClaim := { program := "ytdidmhcblepcbaa", sum := "356a4528c817eb386319e4f0baaa7d6946ca77de4aedcb1a7ea8f74f61e99d6d", func := "resolvent/resolventlaw13.ArithApplied", spec := "arithApplied", unfollowed := true, recurses := true, loops := true, plainKeys := false, apart := false }
def ArithAppliedSaid : Prop := arithAppliedRow.holds Try.pinned (OpenSpec.ofChange arithAppliedSpec)

/-- ITS FALSE NEIGHBOUR: 'it returns false'. Refute it at one input. -/
def arithAppliedWrong : ChangeSpec := { name := "arithApplied", fn := fun _ => fun
  | [d1, d2] => { results := [.lit (.bool false)], args := [d1, d2] }
  | _ => none }
def ArithAppliedWrongFalsely : Prop := arithAppliedRow.holds Try.pinned (OpenSpec.ofChange arithAppliedWrong)

/-- 'resolventlaw22.CodeChecks': WHATEVER THE INPUT: true; the input reads as it did. -/
def codeChecksSpec : ChangeSpec := { name := "codeChecks", fn := fun _ => fun
  | [d1, d2] => { results := [.lit (.bool true)], args := [d1, d2] }
  | _ => none }
def codeChecksRow : OpenClaim := { program := "ytdidmhcblepcbaa", sum := "356a4528c817eb386319e4f0baaa7d6946ca77de4aedcb1a7ea8f74f61e99d6d", func := "resolvent/resolventlaw22.CodeChecks", spec := "codeChecks", unfollowed := true, recurses := true, plainKeys := false, apart := false }
def CodeChecksSaid : Prop := codeChecksRow.holds Try.pinned (OpenSpec.ofChange codeChecksSpec)

/-- ITS FALSE NEIGHBOUR: 'it returns false'. Refute it at one input. -/
def codeChecksWrong : ChangeSpec := { name := "codeChecks", fn := fun _ => fun
  | [d1, d2] => { results := [.lit (.bool false)], args := [d1, d2] }
  | _ => none }
def CodeChecksWrongFalsely : Prop := codeChecksRow.holds Try.pinned (OpenSpec.ofChange codeChecksWrong)

/-- 'resolventlaw22.CodeBreaks': WHATEVER THE INPUT: true; the input reads as it did. -/
def codeBreaksSpec : ChangeSpec := { name := "codeBreaks", fn := fun _ => fun
  | [d1, d2] => { results := [.lit (.bool true)], args := [d1, d2] }
  | _ => none }
def codeBreaksRow : OpenClaim := { program := "ytdidmhcblepcbaa", sum := "356a4528c817eb386319e4f0baaa7d6946ca77de4aedcb1a7ea8f74f61e99d6d", func := "resolvent/resolventlaw22.CodeBreaks", spec := "codeBreaks", unfollowed := true, recurses := true, plainKeys := false, apart := false }
def CodeBreaksSaid : Prop := codeBreaksRow.holds Try.pinned (OpenSpec.ofChange codeBreaksSpec)

/-- ITS FALSE NEIGHBOUR: 'it returns false'. Refute it at one input. -/
def codeBreaksWrong : ChangeSpec := { name := "codeBreaks", fn := fun _ => fun
  | [d1, d2] => { results := [.lit (.bool false)], args := [d1, d2] }
  | _ => none }
def CodeBreaksWrongFalsely : Prop := codeBreaksRow.holds Try.pinned (OpenSpec.ofChange codeBreaksWrong)

/- THE SECOND FORM. 'bulk': how many values and letters a reading holds, each counted each time it is reached (what is shared counts as often as it is met; a slice's spare places count too). A statement '..UptoSaid' is the law's where the arguments, and the package variables that the reading takes, are together of bulk at most 1048576: NARROWER than '..Said'. Prove '..Said' where nothing that the law and all that it calls make is longer than what came in: it says more and counts as full. Else prove '..UptoSaid'. A law counts once. -/
mutual
def uptoBulk {H : Type} : DataW H → Nat
  | .lit (.string bytes) => bytes.length + 1
  | .lit _ => 1
  | .nil => 1
  | .ptr d => uptoBulk d + 1
  | .slice elems spare => uptoBulkAll elems + uptoBulkAll spare + 1
  | .agg parts => uptoBulkAll parts + 1
  | .iface _ d => uptoBulk d + 1
  | .map entries => uptoBulkEntries entries + 1
  | .held _ => 1
def uptoBulkAll {H : Type} : List (DataW H) → Nat
  | [] => 0
  | d :: r => uptoBulk d + uptoBulkAll r
def uptoBulkEntries {H : Type} : List (Lit × DataW H) → Nat
  | [] => 0
  | x :: r => uptoBulkEntry x + uptoBulkEntries r
def uptoBulkEntry {H : Type} : Lit × DataW H → Nat
  | (.string bytes, d) => bytes.length + uptoBulk d + 1
  | (_, d) => uptoBulk d + 1
 end
def uptoSmall : (H : Type) → List (DataW H) → Bool := fun _ ds => decide (uptoBulkAll ds ≤ 1048576)
def OpenSpec.upto (s : _root_.Go.ChangeSpec) : _root_.Go.OpenSpec := { _root_.Go.OpenSpec.ofChange s with cond := some uptoSmall }

/-- 'resolventlaw03.SubstTells', WHERE WHAT IT READS IS OF BULK AT MOST 1048576: true; the input reads as it did. -/
def substTellsUptoRow : OpenClaim := { program := "ytdidmhcblepcbaa", sum := "356a4528c817eb386319e4f0baaa7d6946ca77de4aedcb1a7ea8f74f61e99d6d", func := "resolvent/resolventlaw03.SubstTells", spec := "substTells", unfollowed := true, recurses := true, loops := true, plainKeys := false, apart := false, narrowed := true }
def SubstTellsUptoSaid : Prop := substTellsUptoRow.holds Try.pinned (OpenSpec.upto substTellsSpec)

/-- 'resolventlaw03.SubstMore', WHERE WHAT IT READS IS OF BULK AT MOST 1048576: true; the input reads as it did. -/
def substMoreUptoRow : OpenClaim := { program := "ytdidmhcblepcbaa", sum := "356a4528c817eb386319e4f0baaa7d6946ca77de4aedcb1a7ea8f74f61e99d6d", func := "resolvent/resolventlaw03.SubstMore", spec := "substMore", unfollowed := true, recurses := true, loops := true, plainKeys := false, apart := false, narrowed := true }
def SubstMoreUptoSaid : Prop := substMoreUptoRow.holds Try.pinned (OpenSpec.upto substMoreSpec)

/-- 'resolventlaw03.SubstNil', WHERE WHAT IT READS IS OF BULK AT MOST 1048576: true; the input reads as it did. -/
def substNilUptoRow : OpenClaim := { program := "ytdidmhcblepcbaa", sum := "356a4528c817eb386319e4f0baaa7d6946ca77de4aedcb1a7ea8f74f61e99d6d", func := "resolvent/resolventlaw03.SubstNil", spec := "substNil", inPlace := ["maps.clone"], unfollowed := true, recurses := true, loops := true, plainKeys := false, apart := false, narrowed := true }
def SubstNilUptoSaid : Prop := substNilUptoRow.holds Try.pinned (OpenSpec.upto substNilSpec)

/-- 'resolventlaw03.SubstIdem', WHERE WHAT IT READS IS OF BULK AT MOST 1048576: true; the input reads as it did. -/
def substIdemUptoRow : OpenClaim := { program := "ytdidmhcblepcbaa", sum := "356a4528c817eb386319e4f0baaa7d6946ca77de4aedcb1a7ea8f74f61e99d6d", func := "resolvent/resolventlaw03.SubstIdem", spec := "substIdem", inPlace := ["maps.clone"], unfollowed := true, recurses := true, loops := true, plainKeys := false, apart := false, narrowed := true }
def SubstIdemUptoSaid : Prop := substIdemUptoRow.holds Try.pinned (OpenSpec.upto substIdemSpec)

/-- 'resolventlaw04.UnifyNil', WHERE WHAT IT READS IS OF BULK AT MOST 1048576: true; the input reads as it did. -/
def unifyNilUptoRow : OpenClaim := { program := "ytdidmhcblepcbaa", sum := "356a4528c817eb386319e4f0baaa7d6946ca77de4aedcb1a7ea8f74f61e99d6d", func := "resolvent/resolventlaw04.UnifyNil", spec := "unifyNil", inPlace := ["maps.clone"], unfollowed := true, recurses := true, loops := true, plainKeys := false, apart := false, narrowed := true }
def UnifyNilUptoSaid : Prop := unifyNilUptoRow.holds Try.pinned (OpenSpec.upto unifyNilSpec)

/-- 'resolventlaw13.ArithRing', WHERE WHAT IT READS IS OF BULK AT MOST 1048576: true; the input reads as it did. -/
def arithRingUptoRow : OpenClaim := { program := "ytdidmhcblepcbaa", sum := "356a4528c817eb386319e4f0baaa7d6946ca77de4aedcb1a7ea8f74f61e99d6d", func := "resolvent/resolventlaw13.ArithRing", spec := "arithRing", unfollowed := true, recurses := true, plainKeys := false, apart := false, narrowed := true }
def ArithRingUptoSaid : Prop := arithRingUptoRow.holds Try.pinned (OpenSpec.upto arithRingSpec)

/-- 'resolventlaw13.ArithTells', WHERE WHAT IT READS IS OF BULK AT MOST 1048576: true; the input reads as it did. -/
def arithTellsUptoRow : OpenClaim := { program := "ytdidmhcblepcbaa", sum := "356a4528c817eb386319e4f0baaa7d6946ca77de4aedcb1a7ea8f74f61e99d6d", func := "resolvent/resolventlaw13.ArithTells", spec := "arithTells", unfollowed := true, recurses := true, loops := true, plainKeys := false, apart := false, narrowed := true }
def ArithTellsUptoSaid : Prop := arithTellsUptoRow.holds Try.pinned (OpenSpec.upto arithTellsSpec)

/-- 'resolventlaw13.ArithApplied', WHERE WHAT IT READS IS OF BULK AT MOST 1048576: true; the input reads as it did. -/
def arithAppliedUptoRow : OpenClaim := { program := "ytdidmhcblepcbaa", sum := "356a4528c817eb386319e4f0baaa7d6946ca77de4aedcb1a7ea8f74f61e99d6d", func := "resolvent/resolventlaw13.ArithApplied", spec := "arithApplied", unfollowed := true, recurses := true, loops := true, plainKeys := false, apart := false, narrowed := true }
def ArithAppliedUptoSaid : Prop := arithAppliedUptoRow.holds Try.pinned (OpenSpec.upto arithAppliedSpec)

/-- 'resolventlaw22.CodeChecks', WHERE WHAT IT READS IS OF BULK AT MOST 1048576: true; the input reads as it did. -/
def codeChecksUptoRow : OpenClaim := { program := "ytdidmhcblepcbaa", sum := "356a4528c817eb386319e4f0baaa7d6946ca77de4aedcb1a7ea8f74f61e99d6d", func := "resolvent/resolventlaw22.CodeChecks", spec := "codeChecks", unfollowed := true, recurses := true, plainKeys := false, apart := false, narrowed := true }
def CodeChecksUptoSaid : Prop := codeChecksUptoRow.holds Try.pinned (OpenSpec.upto codeChecksSpec)

/-- 'resolventlaw22.CodeBreaks', WHERE WHAT IT READS IS OF BULK AT MOST 1048576: true; the input reads as it did. -/
def codeBreaksUptoRow : OpenClaim := { program := "ytdidmhcblepcbaa", sum := "356a4528c817eb386319e4f0baaa7d6946ca77de4aedcb1a7ea8f74f61e99d6d", func := "resolvent/resolventlaw22.CodeBreaks", spec := "codeBreaks", unfollowed := true, recurses := true, plainKeys := false, apart := false, narrowed := true }
def CodeBreaksUptoSaid : Prop := codeBreaksUptoRow.holds Try.pinned (OpenSpec.upto codeBreaksSpec)

end Rows
end Go.Proofs.Ytdidmhcblepcbaa

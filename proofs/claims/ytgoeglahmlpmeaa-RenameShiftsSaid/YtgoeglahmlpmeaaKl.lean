/- What a load of a whole term yields, out of its four cells. No condition. -/
import Derived.Test.YtgoeglahmlpmeaaL1
set_option linter.unusedVariables false
set_option linter.unusedSimpArgs false
namespace Go.Proofs.Ytgoeglahmlpmeaa
open Go.RowKit
theorem ex_load4 {w : World} {ev : Operand → Value} {p : Operand} {d : Option Tmp} {ty : TypeId} {pos : String} {af : Array Edge} {gd : Option (Nat × Bool)} {b o : Nat} {x0 x1 x2 x3 : Value} (hp : ev p = .pointer (some ⟨b, o, none⟩))
    (h0 : w.cell? ⟨b, o, none⟩ = some x0) (h1 : w.cell? ⟨b, o + 1, none⟩ = some x1) (h2 : w.cell? ⟨b, o + 2, none⟩ = some x2) (h3 : w.cell? ⟨b, o + 3, none⟩ = some x3) :
    (execOp ev ⟨d, .load 26 p, ty, pos, af, gd⟩).run Try.prog w = .ok (.value (.agg #[x0, x1, x2, x3])) w := by
  simp only [execOp, hp]
  go_simp
end Go.Proofs.Ytgoeglahmlpmeaa

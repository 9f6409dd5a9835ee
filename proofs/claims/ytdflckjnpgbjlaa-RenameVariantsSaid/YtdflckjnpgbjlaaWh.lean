/- Walks of the law of layer 5: its own canonical form. Conditions: the arguments read; terms of at most a million nodes. -/
import Derived.Test.YtdflckjnpgbjlaaF6
set_option linter.unusedVariables false
set_option maxRecDepth 20000
set_option linter.unusedSimpArgs false
namespace Go.Proofs.Ytdflckjnpgbjlaa
open Go.RowKit

theorem box_set {W : World} {B : Nat} {t : TypeId} {a b c d : Value} (h : W.heap[B]? = some (.cells #[a, b, c, d] t (0, 0))) (v : Value) :
    (W.setCell ⟨B, 2, none⟩ v).heap[B]? = some (.cells #[a, b, v, d] t (0, 0)) ∧ (W.setCell ⟨B, 3, none⟩ v).heap[B]? = some (.cells #[a, b, c, v] t (0, 0)) := by
  constructor <;> simp [World.setCell, Array.getElem?_modify, h]
end Go.Proofs.Ytdflckjnpgbjlaa

/- The law's 'put': a term in the place of a variable. Conditions: the arguments read; terms of at most a million nodes. -/
import Derived.Test.YtdflckjnpgbjlaaSa
set_option linter.unusedVariables false
set_option maxRecDepth 20000
set_option linter.unusedSimpArgs false
namespace Go.Proofs.Ytdflckjnpgbjlaa
open Go.RowKit

mutual
/-- A term in the place of a variable. -/
def putT (q : Int) (by' : Tm) : Tm → Tm
  | ⟨k, s, n, l⟩ => if k = 1 ∧ n = q then by' else ⟨k, s, n, putL q by' l⟩
def putL (q : Int) (by' : Tm) : List Tm → List Tm
  | [] => []
  | t :: ts => putT q by' t :: putL q by' ts
end
theorem putL_map (q : Int) (by' : Tm) : ∀ l : List Tm, putL q by' l = l.map (putT q by')
  | [] => rfl
  | t :: ts => by simp only [putL, List.map_cons, putL_map q by' ts]
theorem put_def (q : Int) (by' t : Tm) : putT q by' t = if t.k = 1 ∧ t.n = q then by' else ⟨t.k, t.s, t.n, t.l.map (putT q by')⟩ := by
  cases t; simp only [putT, putL_map]
end Go.Proofs.Ytdflckjnpgbjlaa

/- Walks of layer 1, fourth part: the reference's variables. Conditions: the arguments read; terms of at most a million nodes. -/
import Derived.Test.YtdflckjnpgbjlaaW3
set_option linter.unusedVariables false
set_option maxRecDepth 20000
set_option linter.unusedSimpArgs false
namespace Go.Proofs.Ytdflckjnpgbjlaa
open Go.RowKit

theorem Try.infoI : (Try.prog.info? 2).map (fun i => (i.zero, i.size, i.bytes)) = some (some (.int .i64 0), 1, 8) := by kernel_rfl
theorem dd_step (D M : List Int) {j : Nat} (hj : j < M.length) : (M.take (j + 1)).foldl addNew D = addNew ((M.take j).foldl addNew D) M[j] := by rw [take_succ_at M hj, List.foldl_append]; rfl

end Go.Proofs.Ytdflckjnpgbjlaa

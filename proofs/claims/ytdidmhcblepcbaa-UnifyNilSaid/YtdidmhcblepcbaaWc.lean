/- Walks of layer 1: are two alike, by the program's own recursion. Conditions: the arguments read. -/
import Derived.Test.YtdidmhcblepcbaaW3
import Derived.Shelf.Abstract
set_option linter.unusedVariables false
set_option maxRecDepth 20000
set_option linter.unusedSimpArgs false
namespace Go.Proofs.Ytdidmhcblepcbaa
open Go.RowKit

end Go.Proofs.Ytdidmhcblepcbaa

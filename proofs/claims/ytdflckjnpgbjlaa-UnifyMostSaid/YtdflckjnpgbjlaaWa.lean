/- Walks of layer 1: names and whether a term is good, by the program's own closures. Conditions: the arguments read. -/
import Derived.Test.YtdflckjnpgbjlaaW3
import Derived.Shelf.Abstract
import Derived.Lib.ConvBytes
set_option linter.unusedVariables false
set_option maxRecDepth 20000
set_option linter.unusedSimpArgs false
namespace Go.Proofs.Ytdflckjnpgbjlaa
open Go.RowKit

def charsOk (s : ByteArray) : Bool := s.data.toList.all fun c => chOk c.toNat
end Go.Proofs.Ytdflckjnpgbjlaa

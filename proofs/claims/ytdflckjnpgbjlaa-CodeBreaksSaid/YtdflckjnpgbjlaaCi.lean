/- Layer 22's reference: an instruction by itself, walked. Conditions: the arguments read; texts no longer than what is borne. -/
import Derived.Test.YtdflckjnpgbjlaaCh
set_option linter.unusedVariables false
set_option maxRecDepth 20000
set_option linter.unusedSimpArgs false
namespace Go.Proofs.Ytdflckjnpgbjlaa
open Go.RowKit

/-- What is known along the walk. -/
structure Ob (w : World) (i : In) (u : Value) (W : World) : Prop where
  b0 : Below w.heap.size w W
  x0 : W.heap[w.heap.size]? = some (.cells #[.int .i64 i.op, .int .i64 i.a, .int .i64 i.b, .int .u8 i.kd, .string i.s, .int .i64 i.n, u] 128 (0, 0))
  cs : Kd.cs.S W (fun _ => True) i.cs u
theorem Ob.then {w W W' : World} {i : In} {u : Value} (h : Ob w i u W) (hb : Below W.heap.size W W') : Ob w i u W' := ⟨below_then h.b0 h.b0.size hb, block_below hb (Array.getElem?_eq_some_iff.1 h.x0).1 h.x0, h.cs.below hb⟩
theorem Ob.alloc {w W : World} {i : In} {u : Value} (h : Ob w i u W) (O : Obj) : Ob w i u (W.alloc O) := h.then ((Below.refl _ W).alloc (Nat.le_refl _) O)
end Go.Proofs.Ytdflckjnpgbjlaa

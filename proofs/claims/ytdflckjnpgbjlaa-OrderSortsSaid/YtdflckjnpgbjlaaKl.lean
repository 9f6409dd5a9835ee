/- What a load of a whole term yields, out of its four cells. No condition. -/
import Derived.Test.YtdflckjnpgbjlaaL1
set_option linter.unusedVariables false
set_option maxRecDepth 20000
set_option linter.unusedSimpArgs false
namespace Go.Proofs.Ytdflckjnpgbjlaa
open Go.RowKit
theorem ex_load4 {w : World} {ev : Operand → Value} {p : Operand} {d : Option Tmp} {ty : TypeId} {pos : String} {af : Array Edge} {gd : Option (Nat × Bool)} {b o : Nat} {x0 x1 x2 x3 : Value} (hp : ev p = .pointer (some ⟨b, o, none⟩))
    (h0 : w.cell? ⟨b, o, none⟩ = some x0) (h1 : w.cell? ⟨b, o + 1, none⟩ = some x1) (h2 : w.cell? ⟨b, o + 2, none⟩ = some x2) (h3 : w.cell? ⟨b, o + 3, none⟩ = some x3) :
    (execOp ev ⟨d, .load 24 p, ty, pos, af, gd⟩).run Try.prog w = .ok (.value (.agg #[x0, x1, x2, x3])) w := by
  simp only [execOp, hp]
  go_simp
theorem held_cell {W W' : World} (hb : Below W.heap.size W W') {b o : Nat} {v : Value} (h : W.cell? ⟨b, o, none⟩ = some v) : W'.cell? ⟨b, o, none⟩ = some v := cell_below hb h (cell_lt h)
theorem Bx.of {w W : World} {ok : Nat → Prop} {t : Tm} {u : Value} (hb : Below w.heap.size w W) (hu : Kd.tm.S W ok t.l u) : Bx w (fun _ => True) W.heap.size t u (W.alloc (.cells #[.int .u8 t.k, .string t.s, .int .i64 t.n, u] 24)) :=
  ⟨hb.alloc hb.size _, heap_new W _, (hu.below ((Below.refl _ W).alloc (Nat.le_refl _) _)).mono (fun _ _ => trivial)⟩

theorem one_args {W : World} {ok : Nat → Prop} {y : Tm} {b o c : Nat} {u : Value} (h : Kd.tm.S W ok [y] (.slice (some ⟨b, o, none⟩) 1 c)) (hc : W.cell? ⟨b, o + 3, none⟩ = some u) : Kd.tm.S W ok y.l u := by
  obtain ⟨_, _, e, _, _, hA⟩ := h
  injection e with e1 e2 e3
  subst e1 e3
  obtain ⟨b', o', u', hbo, _, _, _, _, _, h3, hS⟩ := tm_elem hA (j := 0) (by simp)
  injection hbo with hbo
  injection hbo with f1 f2
  subst f1 f2
  simp only [Nat.zero_mul, Nat.add_zero, List.getElem_cons_zero] at h3 hS
  rw [hc] at h3
  injection h3 with h3
  rw [h3]; exact hS
end Go.Proofs.Ytdflckjnpgbjlaa

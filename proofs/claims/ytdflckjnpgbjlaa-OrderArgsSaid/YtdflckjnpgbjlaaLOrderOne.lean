/- The law OrderOne, walked. Conditions: the arguments read; what they are made of is in its bounds. -/
import Derived.Test.YtdflckjnpgbjlaaF8
set_option linter.unusedVariables false
set_option maxRecDepth 20000
set_option linter.unusedSimpArgs false
namespace Go.Proofs.Ytdflckjnpgbjlaa
open Go.RowKit
attribute [local go_sem ↓] Go.wp_at_zero Go.wp_at_succ

theorem three_at (W : World) (t1 t2 t3 : Tm) (u1 u2 u3 : Value) (h1 : Kd.tm.S W (fun _ => True) t1.l u1) (h2 : Kd.tm.S W (fun _ => True) t2.l u2) (h3 : Kd.tm.S W (fun _ => True) t3.l u3) :
    Kd.tm.S (W.alloc (.cells #[.int .u8 t1.k, .string t1.s, .int .i64 t1.n, u1, .int .u8 t2.k, .string t2.s, .int .i64 t2.n, u2, .int .u8 t3.k, .string t3.s, .int .i64 t3.n, u3] 24)) (fun _ => True) [t1, t2, t3] (.slice (some ⟨W.heap.size, 0, none⟩) 3 3) :=
  Kd.S.mono (fun _ _ => trivial) (Kd.Own.S (Kd.Own.lit (d := Kd.tm) (e := 24) (base := W.heap.size) (ok := fun _ => True) (xs := [t1, t2, t3]) [.int .u8 t1.k, .string t1.s, .int .i64 t1.n, u1, .int .u8 t2.k, .string t2.s, .int .i64 t2.n, u2, .int .u8 t3.k, .string t3.s, .int .i64 t3.n, u3] (Nat.le_refl _) rfl (by simp [maxLen]) (fun j z hz => by
    match j, hz with
    | 0, hz => simp at hz; subst hz; exact TmK_iff.2 ⟨u1, rfl, h1⟩
    | 1, hz => simp at hz; subst hz; exact TmK_iff.2 ⟨u2, rfl, h2⟩
    | 2, hz => simp at hz; subst hz; exact TmK_iff.2 ⟨u3, rfl, h3⟩
    | j + 3, hz => simp at hz)))
theorem Bx.mono {w W : World} {ok : Nat → Prop} {B : Nat} {t : Tm} {u : Value} (h : Bx w ok B t u W) : Bx w (fun _ => True) B t u W := ⟨h.below, h.box, h.args.mono (fun _ _ => trivial)⟩
end Go.Proofs.Ytdflckjnpgbjlaa

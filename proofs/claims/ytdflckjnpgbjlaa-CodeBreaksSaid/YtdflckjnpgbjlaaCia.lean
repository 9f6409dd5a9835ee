/- Layer 22's reference: an instruction by itself, walked, some operations. Conditions: the contracts named in the hypotheses. -/
import Derived.Test.YtdflckjnpgbjlaaCi
set_option linter.unusedVariables false
set_option maxRecDepth 20000
set_option linter.unusedSimpArgs false
namespace Go.Proofs.Ytdflckjnpgbjlaa
open Go.RowKit

set_option maxRecDepth 100000 in
set_option maxHeartbeats 8000000 in
theorem one_none {w : World} {i : In} {n : Int} {A : Option Addr} {c : Nat} {cb R : Bool} (HK : Hid (Ob w i (.slice A i.cs.length c) (w.alloc (.cells #[.int .i64 i.op, .int .i64 i.a, .int .i64 i.b, .int .u8 i.kd, .string i.s, .int .i64 i.n, .slice A i.cs.length c] 128))))
    (HI0 : Hid (∀ W v, (Kd.int .i64).S W (fun _ => True) [3, 4, 10, 11, 12, 13] v → Calls Try.prog 74 #[.int .i64 i.op, v] W fun e w' => e = .returned (.bool false) ∧ Below W.heap.size W w'))
    (HI1 : Hid (∀ W v, (Kd.int .i64).S W (fun _ => True) [3, 4, 9] v → Calls Try.prog 74 #[.int .i64 i.op, v] W fun e w' => e = .returned (.bool false) ∧ Below W.heap.size W w'))
    (HI2 : Hid (∀ W v, (Kd.int .i64).S W (fun _ => True) [10, 11, 12] v → Calls Try.prog 74 #[.int .i64 i.op, v] W fun e w' => e = .returned (.bool false) ∧ Below W.heap.size W w'))
    (HI3 : Hid (∀ W v, (Kd.int .i64).S W (fun _ => True) [13, 14] v → Calls Try.prog 74 #[.int .i64 i.op, v] W fun e w' => e = .returned (.bool false) ∧ Below W.heap.size W w'))
    (HI4 : Hid (∀ W v, (Kd.int .i64).S W (fun _ => True) [15, 16, 19, 20, 22, 23, 30, 31] v → Calls Try.prog 74 #[.int .i64 i.op, v] W fun e w' => e = .returned (.bool false) ∧ Below W.heap.size W w'))
    (HI5 : Hid (∀ W v, (Kd.int .i64).S W (fun _ => True) [15, 16, 17, 18, 22, 23, 24, 26, 27, 28, 29, 30] v → Calls Try.prog 74 #[.int .i64 i.op, v] W fun e w' => e = .returned (.bool false) ∧ Below W.heap.size W w'))
    (HI6 : Hid (∀ W v, (Kd.int .i64).S W (fun _ => True) [17, 21, 24, 26, 28] v → Calls Try.prog 74 #[.int .i64 i.op, v] W fun e w' => e = .returned (.bool false) ∧ Below W.heap.size W w'))
    (HI7 : Hid (∀ W v, (Kd.int .i64).S W (fun _ => True) [18, 25, 27, 29] v → Calls Try.prog 74 #[.int .i64 i.op, v] W fun e w' => e = .returned (.bool false) ∧ Below W.heap.size W w'))
    (HC : Hid (∀ W, Kd.cs.S W (fun _ => True) i.cs (.slice A i.cs.length c) → Calls Try.prog 126 #[.slice A i.cs.length c, .int .i64 n] W fun e w' => e = .returned (.bool cb) ∧ Below W.heap.size W w'))
    (h1 : decide (i.op < 1) = false) (h2 : decide (31 < i.op) = false) (h3 : (i.op == 1) = false) (h4 : (i.op == 14) = false) (h5 : (i.op == 25) = false) (HR : Hid (R = (true))) :
    Calls Try.prog 76 #[.agg #[.int .i64 i.op, .int .i64 i.a, .int .i64 i.b, .int .u8 i.kd, .string i.s, .int .i64 i.n, .slice A i.cs.length c], .int .i64 n] w fun e w' => e = .returned (.bool R) ∧ Below w.heap.size w w' := by
  have m0 : Hid (0 = 0) := Lib.hid rfl
  have m1 : Hid (0 = 0) := Lib.hid rfl
  have m2 : Hid (0 = 0) := Lib.hid rfl
  have m3 : Hid (0 = 0) := Lib.hid rfl
  have m4 : Hid (0 = 0) := Lib.hid rfl
  have m5 : Hid (0 = 0) := Lib.hid rfl
  have m6 : Hid (0 = 0) := Lib.hid rfl
  have m7 : Hid (0 = 0) := Lib.hid rfl
  all_goals
    have h := HK.out
    clear HK
    obtain ⟨c0, c1, c2, c3, c4, c5, c6⟩ := box7 h.x0
    go_enter Try.func76, Try.ntmps76
    go_wp2_with (first
      | (go_at_call 74; have hx := m0.out; clear hx m0; have hq := HI0.out _ _ (litI [3, 4, 10, 11, 12, 13] (heap_new (w.alloc (.cells #[.int .i64 i.op, .int .i64 i.a, .int .i64 i.b, .int .u8 i.kd, .string i.s, .int .i64 i.n, .slice A i.cs.length c] 128)) (.cells #[.int .i64 3, .int .i64 4, .int .i64 10, .int .i64 11, .int .i64 12, .int .i64 13] 3)) trivial (by simp)); rw [World.size_alloc (w := w) (o := .cells #[.int .i64 i.op, .int .i64 i.a, .int .i64 i.b, .int .u8 i.kd, .string i.s, .int .i64 i.n, .slice A i.cs.length c] 128)] at hq; refine hq.mono ?_; clear hq HI0; rintro e w1 ⟨rfl, hb1⟩; replace h := h.alloc (.cells #[.int .i64 3, .int .i64 4, .int .i64 10, .int .i64 11, .int .i64 12, .int .i64 13] 3); replace h := h.then hb1; clear hb1 c0 c1 c2 c3 c4 c5 c6; obtain ⟨c0, c1, c2, c3, c4, c5, c6⟩ := box7 h.x0)
      | (go_at_call 74; have hx := m1.out; clear hx m1; refine (HI1.out _ _ (litI [3, 4, 9] (heap_new _ (.cells #[.int .i64 3, .int .i64 4, .int .i64 9] 3)) trivial (by simp))).mono ?_; clear HI1; rintro e w2 ⟨rfl, hb1⟩; replace h := h.alloc (.cells #[.int .i64 3, .int .i64 4, .int .i64 9] 3); replace h := h.then hb1; clear hb1 c0 c1 c2 c3 c4 c5 c6; obtain ⟨c0, c1, c2, c3, c4, c5, c6⟩ := box7 h.x0)
      | (go_at_call 74; have hx := m2.out; clear hx m2; refine (HI2.out _ _ (litI [10, 11, 12] (heap_new _ (.cells #[.int .i64 10, .int .i64 11, .int .i64 12] 3)) trivial (by simp))).mono ?_; clear HI2; rintro e w3 ⟨rfl, hb1⟩; replace h := h.alloc (.cells #[.int .i64 10, .int .i64 11, .int .i64 12] 3); replace h := h.then hb1; clear hb1 c0 c1 c2 c3 c4 c5 c6; obtain ⟨c0, c1, c2, c3, c4, c5, c6⟩ := box7 h.x0)
      | (go_at_call 74; have hx := m3.out; clear hx m3; refine (HI3.out _ _ (litI [13, 14] (heap_new _ (.cells #[.int .i64 13, .int .i64 14] 3)) trivial (by simp))).mono ?_; clear HI3; rintro e w4 ⟨rfl, hb1⟩; replace h := h.alloc (.cells #[.int .i64 13, .int .i64 14] 3); replace h := h.then hb1; clear hb1 c0 c1 c2 c3 c4 c5 c6; obtain ⟨c0, c1, c2, c3, c4, c5, c6⟩ := box7 h.x0)
      | (go_at_call 74; have hx := m4.out; clear hx m4; refine (HI4.out _ _ (litI [15, 16, 19, 20, 22, 23, 30, 31] (heap_new _ (.cells #[.int .i64 15, .int .i64 16, .int .i64 19, .int .i64 20, .int .i64 22, .int .i64 23, .int .i64 30, .int .i64 31] 3)) trivial (by simp))).mono ?_; clear HI4; rintro e w5 ⟨rfl, hb1⟩; replace h := h.alloc (.cells #[.int .i64 15, .int .i64 16, .int .i64 19, .int .i64 20, .int .i64 22, .int .i64 23, .int .i64 30, .int .i64 31] 3); replace h := h.then hb1; clear hb1 c0 c1 c2 c3 c4 c5 c6; obtain ⟨c0, c1, c2, c3, c4, c5, c6⟩ := box7 h.x0)
      | (go_at_call 74; have hx := m5.out; clear hx m5; refine (HI5.out _ _ (litI [15, 16, 17, 18, 22, 23, 24, 26, 27, 28, 29, 30] (heap_new _ (.cells #[.int .i64 15, .int .i64 16, .int .i64 17, .int .i64 18, .int .i64 22, .int .i64 23, .int .i64 24, .int .i64 26, .int .i64 27, .int .i64 28, .int .i64 29, .int .i64 30] 3)) trivial (by simp))).mono ?_; clear HI5; rintro e w6 ⟨rfl, hb1⟩; replace h := h.alloc (.cells #[.int .i64 15, .int .i64 16, .int .i64 17, .int .i64 18, .int .i64 22, .int .i64 23, .int .i64 24, .int .i64 26, .int .i64 27, .int .i64 28, .int .i64 29, .int .i64 30] 3); replace h := h.then hb1; clear hb1 c0 c1 c2 c3 c4 c5 c6; obtain ⟨c0, c1, c2, c3, c4, c5, c6⟩ := box7 h.x0)
      | (go_at_call 74; have hx := m6.out; clear hx m6; refine (HI6.out _ _ (litI [17, 21, 24, 26, 28] (heap_new _ (.cells #[.int .i64 17, .int .i64 21, .int .i64 24, .int .i64 26, .int .i64 28] 3)) trivial (by simp))).mono ?_; clear HI6; rintro e w7 ⟨rfl, hb1⟩; replace h := h.alloc (.cells #[.int .i64 17, .int .i64 21, .int .i64 24, .int .i64 26, .int .i64 28] 3); replace h := h.then hb1; clear hb1 c0 c1 c2 c3 c4 c5 c6; obtain ⟨c0, c1, c2, c3, c4, c5, c6⟩ := box7 h.x0)
      | (go_at_call 74; have hx := m7.out; clear hx m7; refine (HI7.out _ _ (litI [18, 25, 27, 29] (heap_new _ (.cells #[.int .i64 18, .int .i64 25, .int .i64 27, .int .i64 29] 3)) trivial (by simp))).mono ?_; clear HI7; rintro e w8 ⟨rfl, hb1⟩; replace h := h.alloc (.cells #[.int .i64 18, .int .i64 25, .int .i64 27, .int .i64 29] 3); replace h := h.then hb1; clear hb1 c0 c1 c2 c3 c4 c5 c6; obtain ⟨c0, c1, c2, c3, c4, c5, c6⟩ := box7 h.x0)
      | (go_at_call 126; refine (HC.out _ h.cs).mono ?_; clear HC; rintro e w20 ⟨rfl, hb1⟩; replace h := h.then hb1; clear hb1 c0 c1 c2 c3 c4 c5 c6; obtain ⟨c0, c1, c2, c3, c4, c5, c6⟩ := box7 h.x0))
    all_goals go_ret
    all_goals exact ⟨ret_bool (by have hr := HR.out; first | exact hr.symm | (rw [hr]; first | (simp; done) | (simp; omega) | (simp [*]; done) | (simp [*]; omega))), h.b0⟩
set_option maxRecDepth 100000 in
set_option maxHeartbeats 8000000 in
theorem one_c34 {w : World} {i : In} {n : Int} {A : Option Addr} {c : Nat} {cb R : Bool} (HK : Hid (Ob w i (.slice A i.cs.length c) (w.alloc (.cells #[.int .i64 i.op, .int .i64 i.a, .int .i64 i.b, .int .u8 i.kd, .string i.s, .int .i64 i.n, .slice A i.cs.length c] 128))))
    (HI0 : Hid (∀ W v, (Kd.int .i64).S W (fun _ => True) [3, 4, 10, 11, 12, 13] v → Calls Try.prog 74 #[.int .i64 i.op, v] W fun e w' => e = .returned (.bool true) ∧ Below W.heap.size W w'))
    (HI1 : Hid (∀ W v, (Kd.int .i64).S W (fun _ => True) [3, 4, 9] v → Calls Try.prog 74 #[.int .i64 i.op, v] W fun e w' => e = .returned (.bool true) ∧ Below W.heap.size W w'))
    (HI2 : Hid (∀ W v, (Kd.int .i64).S W (fun _ => True) [10, 11, 12] v → Calls Try.prog 74 #[.int .i64 i.op, v] W fun e w' => e = .returned (.bool false) ∧ Below W.heap.size W w'))
    (HI3 : Hid (∀ W v, (Kd.int .i64).S W (fun _ => True) [13, 14] v → Calls Try.prog 74 #[.int .i64 i.op, v] W fun e w' => e = .returned (.bool false) ∧ Below W.heap.size W w'))
    (HI4 : Hid (∀ W v, (Kd.int .i64).S W (fun _ => True) [15, 16, 19, 20, 22, 23, 30, 31] v → Calls Try.prog 74 #[.int .i64 i.op, v] W fun e w' => e = .returned (.bool false) ∧ Below W.heap.size W w'))
    (HI5 : Hid (∀ W v, (Kd.int .i64).S W (fun _ => True) [15, 16, 17, 18, 22, 23, 24, 26, 27, 28, 29, 30] v → Calls Try.prog 74 #[.int .i64 i.op, v] W fun e w' => e = .returned (.bool false) ∧ Below W.heap.size W w'))
    (HI6 : Hid (∀ W v, (Kd.int .i64).S W (fun _ => True) [17, 21, 24, 26, 28] v → Calls Try.prog 74 #[.int .i64 i.op, v] W fun e w' => e = .returned (.bool false) ∧ Below W.heap.size W w'))
    (HI7 : Hid (∀ W v, (Kd.int .i64).S W (fun _ => True) [18, 25, 27, 29] v → Calls Try.prog 74 #[.int .i64 i.op, v] W fun e w' => e = .returned (.bool false) ∧ Below W.heap.size W w'))
    (HC : Hid (∀ W, Kd.cs.S W (fun _ => True) i.cs (.slice A i.cs.length c) → Calls Try.prog 126 #[.slice A i.cs.length c, .int .i64 n] W fun e w' => e = .returned (.bool cb) ∧ Below W.heap.size W w'))
    (h1 : decide (i.op < 1) = false) (h2 : decide (31 < i.op) = false) (h3 : (i.op == 1) = false) (h4 : (i.op == 14) = false) (h5 : (i.op == 25) = false) (HR : Hid (R = ((decide (0 ≤ i.a) && decide (i.a < n)) && (decide (0 ≤ i.n) && decide (i.n ≤ 16))))) :
    Calls Try.prog 76 #[.agg #[.int .i64 i.op, .int .i64 i.a, .int .i64 i.b, .int .u8 i.kd, .string i.s, .int .i64 i.n, .slice A i.cs.length c], .int .i64 n] w fun e w' => e = .returned (.bool R) ∧ Below w.heap.size w w' := by
  have m0 : Hid (0 = 0) := Lib.hid rfl
  have m1 : Hid (0 = 0) := Lib.hid rfl
  have m2 : Hid (0 = 0) := Lib.hid rfl
  have m3 : Hid (0 = 0) := Lib.hid rfl
  have m4 : Hid (0 = 0) := Lib.hid rfl
  have m5 : Hid (0 = 0) := Lib.hid rfl
  have m6 : Hid (0 = 0) := Lib.hid rfl
  have m7 : Hid (0 = 0) := Lib.hid rfl
  all_goals
    have h := HK.out
    clear HK
    obtain ⟨c0, c1, c2, c3, c4, c5, c6⟩ := box7 h.x0
    go_enter Try.func76, Try.ntmps76
    go_wp2_with (first
      | (go_at_call 74; have hx := m0.out; clear hx m0; have hq := HI0.out _ _ (litI [3, 4, 10, 11, 12, 13] (heap_new (w.alloc (.cells #[.int .i64 i.op, .int .i64 i.a, .int .i64 i.b, .int .u8 i.kd, .string i.s, .int .i64 i.n, .slice A i.cs.length c] 128)) (.cells #[.int .i64 3, .int .i64 4, .int .i64 10, .int .i64 11, .int .i64 12, .int .i64 13] 3)) trivial (by simp)); rw [World.size_alloc (w := w) (o := .cells #[.int .i64 i.op, .int .i64 i.a, .int .i64 i.b, .int .u8 i.kd, .string i.s, .int .i64 i.n, .slice A i.cs.length c] 128)] at hq; refine hq.mono ?_; clear hq HI0; rintro e w1 ⟨rfl, hb1⟩; replace h := h.alloc (.cells #[.int .i64 3, .int .i64 4, .int .i64 10, .int .i64 11, .int .i64 12, .int .i64 13] 3); replace h := h.then hb1; clear hb1 c0 c1 c2 c3 c4 c5 c6; obtain ⟨c0, c1, c2, c3, c4, c5, c6⟩ := box7 h.x0)
      | (go_at_call 74; have hx := m1.out; clear hx m1; refine (HI1.out _ _ (litI [3, 4, 9] (heap_new _ (.cells #[.int .i64 3, .int .i64 4, .int .i64 9] 3)) trivial (by simp))).mono ?_; clear HI1; rintro e w2 ⟨rfl, hb1⟩; replace h := h.alloc (.cells #[.int .i64 3, .int .i64 4, .int .i64 9] 3); replace h := h.then hb1; clear hb1 c0 c1 c2 c3 c4 c5 c6; obtain ⟨c0, c1, c2, c3, c4, c5, c6⟩ := box7 h.x0)
      | (go_at_call 74; have hx := m2.out; clear hx m2; refine (HI2.out _ _ (litI [10, 11, 12] (heap_new _ (.cells #[.int .i64 10, .int .i64 11, .int .i64 12] 3)) trivial (by simp))).mono ?_; clear HI2; rintro e w3 ⟨rfl, hb1⟩; replace h := h.alloc (.cells #[.int .i64 10, .int .i64 11, .int .i64 12] 3); replace h := h.then hb1; clear hb1 c0 c1 c2 c3 c4 c5 c6; obtain ⟨c0, c1, c2, c3, c4, c5, c6⟩ := box7 h.x0)
      | (go_at_call 74; have hx := m3.out; clear hx m3; refine (HI3.out _ _ (litI [13, 14] (heap_new _ (.cells #[.int .i64 13, .int .i64 14] 3)) trivial (by simp))).mono ?_; clear HI3; rintro e w4 ⟨rfl, hb1⟩; replace h := h.alloc (.cells #[.int .i64 13, .int .i64 14] 3); replace h := h.then hb1; clear hb1 c0 c1 c2 c3 c4 c5 c6; obtain ⟨c0, c1, c2, c3, c4, c5, c6⟩ := box7 h.x0)
      | (go_at_call 74; have hx := m4.out; clear hx m4; refine (HI4.out _ _ (litI [15, 16, 19, 20, 22, 23, 30, 31] (heap_new _ (.cells #[.int .i64 15, .int .i64 16, .int .i64 19, .int .i64 20, .int .i64 22, .int .i64 23, .int .i64 30, .int .i64 31] 3)) trivial (by simp))).mono ?_; clear HI4; rintro e w5 ⟨rfl, hb1⟩; replace h := h.alloc (.cells #[.int .i64 15, .int .i64 16, .int .i64 19, .int .i64 20, .int .i64 22, .int .i64 23, .int .i64 30, .int .i64 31] 3); replace h := h.then hb1; clear hb1 c0 c1 c2 c3 c4 c5 c6; obtain ⟨c0, c1, c2, c3, c4, c5, c6⟩ := box7 h.x0)
      | (go_at_call 74; have hx := m5.out; clear hx m5; refine (HI5.out _ _ (litI [15, 16, 17, 18, 22, 23, 24, 26, 27, 28, 29, 30] (heap_new _ (.cells #[.int .i64 15, .int .i64 16, .int .i64 17, .int .i64 18, .int .i64 22, .int .i64 23, .int .i64 24, .int .i64 26, .int .i64 27, .int .i64 28, .int .i64 29, .int .i64 30] 3)) trivial (by simp))).mono ?_; clear HI5; rintro e w6 ⟨rfl, hb1⟩; replace h := h.alloc (.cells #[.int .i64 15, .int .i64 16, .int .i64 17, .int .i64 18, .int .i64 22, .int .i64 23, .int .i64 24, .int .i64 26, .int .i64 27, .int .i64 28, .int .i64 29, .int .i64 30] 3); replace h := h.then hb1; clear hb1 c0 c1 c2 c3 c4 c5 c6; obtain ⟨c0, c1, c2, c3, c4, c5, c6⟩ := box7 h.x0)
      | (go_at_call 74; have hx := m6.out; clear hx m6; refine (HI6.out _ _ (litI [17, 21, 24, 26, 28] (heap_new _ (.cells #[.int .i64 17, .int .i64 21, .int .i64 24, .int .i64 26, .int .i64 28] 3)) trivial (by simp))).mono ?_; clear HI6; rintro e w7 ⟨rfl, hb1⟩; replace h := h.alloc (.cells #[.int .i64 17, .int .i64 21, .int .i64 24, .int .i64 26, .int .i64 28] 3); replace h := h.then hb1; clear hb1 c0 c1 c2 c3 c4 c5 c6; obtain ⟨c0, c1, c2, c3, c4, c5, c6⟩ := box7 h.x0)
      | (go_at_call 74; have hx := m7.out; clear hx m7; refine (HI7.out _ _ (litI [18, 25, 27, 29] (heap_new _ (.cells #[.int .i64 18, .int .i64 25, .int .i64 27, .int .i64 29] 3)) trivial (by simp))).mono ?_; clear HI7; rintro e w8 ⟨rfl, hb1⟩; replace h := h.alloc (.cells #[.int .i64 18, .int .i64 25, .int .i64 27, .int .i64 29] 3); replace h := h.then hb1; clear hb1 c0 c1 c2 c3 c4 c5 c6; obtain ⟨c0, c1, c2, c3, c4, c5, c6⟩ := box7 h.x0)
      | (go_at_call 126; refine (HC.out _ h.cs).mono ?_; clear HC; rintro e w20 ⟨rfl, hb1⟩; replace h := h.then hb1; clear hb1 c0 c1 c2 c3 c4 c5 c6; obtain ⟨c0, c1, c2, c3, c4, c5, c6⟩ := box7 h.x0))
    all_goals go_ret
    all_goals exact ⟨ret_bool (by have hr := HR.out; first | exact hr.symm | (rw [hr]; first | (simp; done) | (simp; omega) | (simp [*]; done) | (simp [*]; omega))), h.b0⟩
set_option maxRecDepth 100000 in
set_option maxHeartbeats 8000000 in
theorem one_c9 {w : World} {i : In} {n : Int} {A : Option Addr} {c : Nat} {cb R : Bool} (HK : Hid (Ob w i (.slice A i.cs.length c) (w.alloc (.cells #[.int .i64 i.op, .int .i64 i.a, .int .i64 i.b, .int .u8 i.kd, .string i.s, .int .i64 i.n, .slice A i.cs.length c] 128))))
    (HI0 : Hid (∀ W v, (Kd.int .i64).S W (fun _ => True) [3, 4, 10, 11, 12, 13] v → Calls Try.prog 74 #[.int .i64 i.op, v] W fun e w' => e = .returned (.bool false) ∧ Below W.heap.size W w'))
    (HI1 : Hid (∀ W v, (Kd.int .i64).S W (fun _ => True) [3, 4, 9] v → Calls Try.prog 74 #[.int .i64 i.op, v] W fun e w' => e = .returned (.bool true) ∧ Below W.heap.size W w'))
    (HI2 : Hid (∀ W v, (Kd.int .i64).S W (fun _ => True) [10, 11, 12] v → Calls Try.prog 74 #[.int .i64 i.op, v] W fun e w' => e = .returned (.bool false) ∧ Below W.heap.size W w'))
    (HI3 : Hid (∀ W v, (Kd.int .i64).S W (fun _ => True) [13, 14] v → Calls Try.prog 74 #[.int .i64 i.op, v] W fun e w' => e = .returned (.bool false) ∧ Below W.heap.size W w'))
    (HI4 : Hid (∀ W v, (Kd.int .i64).S W (fun _ => True) [15, 16, 19, 20, 22, 23, 30, 31] v → Calls Try.prog 74 #[.int .i64 i.op, v] W fun e w' => e = .returned (.bool false) ∧ Below W.heap.size W w'))
    (HI5 : Hid (∀ W v, (Kd.int .i64).S W (fun _ => True) [15, 16, 17, 18, 22, 23, 24, 26, 27, 28, 29, 30] v → Calls Try.prog 74 #[.int .i64 i.op, v] W fun e w' => e = .returned (.bool false) ∧ Below W.heap.size W w'))
    (HI6 : Hid (∀ W v, (Kd.int .i64).S W (fun _ => True) [17, 21, 24, 26, 28] v → Calls Try.prog 74 #[.int .i64 i.op, v] W fun e w' => e = .returned (.bool false) ∧ Below W.heap.size W w'))
    (HI7 : Hid (∀ W v, (Kd.int .i64).S W (fun _ => True) [18, 25, 27, 29] v → Calls Try.prog 74 #[.int .i64 i.op, v] W fun e w' => e = .returned (.bool false) ∧ Below W.heap.size W w'))
    (HC : Hid (∀ W, Kd.cs.S W (fun _ => True) i.cs (.slice A i.cs.length c) → Calls Try.prog 126 #[.slice A i.cs.length c, .int .i64 n] W fun e w' => e = .returned (.bool cb) ∧ Below W.heap.size W w'))
    (h1 : decide (i.op < 1) = false) (h2 : decide (31 < i.op) = false) (h3 : (i.op == 1) = false) (h4 : (i.op == 14) = false) (h5 : (i.op == 25) = false) (HR : Hid (R = ((decide (0 ≤ i.n) && decide (i.n ≤ 16))))) :
    Calls Try.prog 76 #[.agg #[.int .i64 i.op, .int .i64 i.a, .int .i64 i.b, .int .u8 i.kd, .string i.s, .int .i64 i.n, .slice A i.cs.length c], .int .i64 n] w fun e w' => e = .returned (.bool R) ∧ Below w.heap.size w w' := by
  have m0 : Hid (0 = 0) := Lib.hid rfl
  have m1 : Hid (0 = 0) := Lib.hid rfl
  have m2 : Hid (0 = 0) := Lib.hid rfl
  have m3 : Hid (0 = 0) := Lib.hid rfl
  have m4 : Hid (0 = 0) := Lib.hid rfl
  have m5 : Hid (0 = 0) := Lib.hid rfl
  have m6 : Hid (0 = 0) := Lib.hid rfl
  have m7 : Hid (0 = 0) := Lib.hid rfl
  all_goals
    have h := HK.out
    clear HK
    obtain ⟨c0, c1, c2, c3, c4, c5, c6⟩ := box7 h.x0
    go_enter Try.func76, Try.ntmps76
    go_wp2_with (first
      | (go_at_call 74; have hx := m0.out; clear hx m0; have hq := HI0.out _ _ (litI [3, 4, 10, 11, 12, 13] (heap_new (w.alloc (.cells #[.int .i64 i.op, .int .i64 i.a, .int .i64 i.b, .int .u8 i.kd, .string i.s, .int .i64 i.n, .slice A i.cs.length c] 128)) (.cells #[.int .i64 3, .int .i64 4, .int .i64 10, .int .i64 11, .int .i64 12, .int .i64 13] 3)) trivial (by simp)); rw [World.size_alloc (w := w) (o := .cells #[.int .i64 i.op, .int .i64 i.a, .int .i64 i.b, .int .u8 i.kd, .string i.s, .int .i64 i.n, .slice A i.cs.length c] 128)] at hq; refine hq.mono ?_; clear hq HI0; rintro e w1 ⟨rfl, hb1⟩; replace h := h.alloc (.cells #[.int .i64 3, .int .i64 4, .int .i64 10, .int .i64 11, .int .i64 12, .int .i64 13] 3); replace h := h.then hb1; clear hb1 c0 c1 c2 c3 c4 c5 c6; obtain ⟨c0, c1, c2, c3, c4, c5, c6⟩ := box7 h.x0)
      | (go_at_call 74; have hx := m1.out; clear hx m1; refine (HI1.out _ _ (litI [3, 4, 9] (heap_new _ (.cells #[.int .i64 3, .int .i64 4, .int .i64 9] 3)) trivial (by simp))).mono ?_; clear HI1; rintro e w2 ⟨rfl, hb1⟩; replace h := h.alloc (.cells #[.int .i64 3, .int .i64 4, .int .i64 9] 3); replace h := h.then hb1; clear hb1 c0 c1 c2 c3 c4 c5 c6; obtain ⟨c0, c1, c2, c3, c4, c5, c6⟩ := box7 h.x0)
      | (go_at_call 74; have hx := m2.out; clear hx m2; refine (HI2.out _ _ (litI [10, 11, 12] (heap_new _ (.cells #[.int .i64 10, .int .i64 11, .int .i64 12] 3)) trivial (by simp))).mono ?_; clear HI2; rintro e w3 ⟨rfl, hb1⟩; replace h := h.alloc (.cells #[.int .i64 10, .int .i64 11, .int .i64 12] 3); replace h := h.then hb1; clear hb1 c0 c1 c2 c3 c4 c5 c6; obtain ⟨c0, c1, c2, c3, c4, c5, c6⟩ := box7 h.x0)
      | (go_at_call 74; have hx := m3.out; clear hx m3; refine (HI3.out _ _ (litI [13, 14] (heap_new _ (.cells #[.int .i64 13, .int .i64 14] 3)) trivial (by simp))).mono ?_; clear HI3; rintro e w4 ⟨rfl, hb1⟩; replace h := h.alloc (.cells #[.int .i64 13, .int .i64 14] 3); replace h := h.then hb1; clear hb1 c0 c1 c2 c3 c4 c5 c6; obtain ⟨c0, c1, c2, c3, c4, c5, c6⟩ := box7 h.x0)
      | (go_at_call 74; have hx := m4.out; clear hx m4; refine (HI4.out _ _ (litI [15, 16, 19, 20, 22, 23, 30, 31] (heap_new _ (.cells #[.int .i64 15, .int .i64 16, .int .i64 19, .int .i64 20, .int .i64 22, .int .i64 23, .int .i64 30, .int .i64 31] 3)) trivial (by simp))).mono ?_; clear HI4; rintro e w5 ⟨rfl, hb1⟩; replace h := h.alloc (.cells #[.int .i64 15, .int .i64 16, .int .i64 19, .int .i64 20, .int .i64 22, .int .i64 23, .int .i64 30, .int .i64 31] 3); replace h := h.then hb1; clear hb1 c0 c1 c2 c3 c4 c5 c6; obtain ⟨c0, c1, c2, c3, c4, c5, c6⟩ := box7 h.x0)
      | (go_at_call 74; have hx := m5.out; clear hx m5; refine (HI5.out _ _ (litI [15, 16, 17, 18, 22, 23, 24, 26, 27, 28, 29, 30] (heap_new _ (.cells #[.int .i64 15, .int .i64 16, .int .i64 17, .int .i64 18, .int .i64 22, .int .i64 23, .int .i64 24, .int .i64 26, .int .i64 27, .int .i64 28, .int .i64 29, .int .i64 30] 3)) trivial (by simp))).mono ?_; clear HI5; rintro e w6 ⟨rfl, hb1⟩; replace h := h.alloc (.cells #[.int .i64 15, .int .i64 16, .int .i64 17, .int .i64 18, .int .i64 22, .int .i64 23, .int .i64 24, .int .i64 26, .int .i64 27, .int .i64 28, .int .i64 29, .int .i64 30] 3); replace h := h.then hb1; clear hb1 c0 c1 c2 c3 c4 c5 c6; obtain ⟨c0, c1, c2, c3, c4, c5, c6⟩ := box7 h.x0)
      | (go_at_call 74; have hx := m6.out; clear hx m6; refine (HI6.out _ _ (litI [17, 21, 24, 26, 28] (heap_new _ (.cells #[.int .i64 17, .int .i64 21, .int .i64 24, .int .i64 26, .int .i64 28] 3)) trivial (by simp))).mono ?_; clear HI6; rintro e w7 ⟨rfl, hb1⟩; replace h := h.alloc (.cells #[.int .i64 17, .int .i64 21, .int .i64 24, .int .i64 26, .int .i64 28] 3); replace h := h.then hb1; clear hb1 c0 c1 c2 c3 c4 c5 c6; obtain ⟨c0, c1, c2, c3, c4, c5, c6⟩ := box7 h.x0)
      | (go_at_call 74; have hx := m7.out; clear hx m7; refine (HI7.out _ _ (litI [18, 25, 27, 29] (heap_new _ (.cells #[.int .i64 18, .int .i64 25, .int .i64 27, .int .i64 29] 3)) trivial (by simp))).mono ?_; clear HI7; rintro e w8 ⟨rfl, hb1⟩; replace h := h.alloc (.cells #[.int .i64 18, .int .i64 25, .int .i64 27, .int .i64 29] 3); replace h := h.then hb1; clear hb1 c0 c1 c2 c3 c4 c5 c6; obtain ⟨c0, c1, c2, c3, c4, c5, c6⟩ := box7 h.x0)
      | (go_at_call 126; refine (HC.out _ h.cs).mono ?_; clear HC; rintro e w20 ⟨rfl, hb1⟩; replace h := h.then hb1; clear hb1 c0 c1 c2 c3 c4 c5 c6; obtain ⟨c0, c1, c2, c3, c4, c5, c6⟩ := box7 h.x0))
    all_goals go_ret
    all_goals exact ⟨ret_bool (by have hr := HR.out; first | exact hr.symm | (rw [hr]; first | (simp; done) | (simp; omega) | (simp [*]; done) | (simp [*]; omega))), h.b0⟩
set_option maxRecDepth 100000 in
set_option maxHeartbeats 8000000 in
theorem one_c10 {w : World} {i : In} {n : Int} {A : Option Addr} {c : Nat} {cb R : Bool} (HK : Hid (Ob w i (.slice A i.cs.length c) (w.alloc (.cells #[.int .i64 i.op, .int .i64 i.a, .int .i64 i.b, .int .u8 i.kd, .string i.s, .int .i64 i.n, .slice A i.cs.length c] 128))))
    (HI0 : Hid (∀ W v, (Kd.int .i64).S W (fun _ => True) [3, 4, 10, 11, 12, 13] v → Calls Try.prog 74 #[.int .i64 i.op, v] W fun e w' => e = .returned (.bool true) ∧ Below W.heap.size W w'))
    (HI1 : Hid (∀ W v, (Kd.int .i64).S W (fun _ => True) [3, 4, 9] v → Calls Try.prog 74 #[.int .i64 i.op, v] W fun e w' => e = .returned (.bool false) ∧ Below W.heap.size W w'))
    (HI2 : Hid (∀ W v, (Kd.int .i64).S W (fun _ => True) [10, 11, 12] v → Calls Try.prog 74 #[.int .i64 i.op, v] W fun e w' => e = .returned (.bool true) ∧ Below W.heap.size W w'))
    (HI3 : Hid (∀ W v, (Kd.int .i64).S W (fun _ => True) [13, 14] v → Calls Try.prog 74 #[.int .i64 i.op, v] W fun e w' => e = .returned (.bool false) ∧ Below W.heap.size W w'))
    (HI4 : Hid (∀ W v, (Kd.int .i64).S W (fun _ => True) [15, 16, 19, 20, 22, 23, 30, 31] v → Calls Try.prog 74 #[.int .i64 i.op, v] W fun e w' => e = .returned (.bool false) ∧ Below W.heap.size W w'))
    (HI5 : Hid (∀ W v, (Kd.int .i64).S W (fun _ => True) [15, 16, 17, 18, 22, 23, 24, 26, 27, 28, 29, 30] v → Calls Try.prog 74 #[.int .i64 i.op, v] W fun e w' => e = .returned (.bool false) ∧ Below W.heap.size W w'))
    (HI6 : Hid (∀ W v, (Kd.int .i64).S W (fun _ => True) [17, 21, 24, 26, 28] v → Calls Try.prog 74 #[.int .i64 i.op, v] W fun e w' => e = .returned (.bool false) ∧ Below W.heap.size W w'))
    (HI7 : Hid (∀ W v, (Kd.int .i64).S W (fun _ => True) [18, 25, 27, 29] v → Calls Try.prog 74 #[.int .i64 i.op, v] W fun e w' => e = .returned (.bool false) ∧ Below W.heap.size W w'))
    (HC : Hid (∀ W, Kd.cs.S W (fun _ => True) i.cs (.slice A i.cs.length c) → Calls Try.prog 126 #[.slice A i.cs.length c, .int .i64 n] W fun e w' => e = .returned (.bool cb) ∧ Below W.heap.size W w'))
    (h1 : decide (i.op < 1) = false) (h2 : decide (31 < i.op) = false) (h3 : (i.op == 1) = false) (h4 : (i.op == 14) = false) (h5 : (i.op == 25) = false) (HR : Hid (R = ((decide (0 ≤ i.a) && decide (i.a < n)) && (decide (0 ≤ i.b) && decide (i.b ≤ 16))))) :
    Calls Try.prog 76 #[.agg #[.int .i64 i.op, .int .i64 i.a, .int .i64 i.b, .int .u8 i.kd, .string i.s, .int .i64 i.n, .slice A i.cs.length c], .int .i64 n] w fun e w' => e = .returned (.bool R) ∧ Below w.heap.size w w' := by
  have m0 : Hid (0 = 0) := Lib.hid rfl
  have m1 : Hid (0 = 0) := Lib.hid rfl
  have m2 : Hid (0 = 0) := Lib.hid rfl
  have m3 : Hid (0 = 0) := Lib.hid rfl
  have m4 : Hid (0 = 0) := Lib.hid rfl
  have m5 : Hid (0 = 0) := Lib.hid rfl
  have m6 : Hid (0 = 0) := Lib.hid rfl
  have m7 : Hid (0 = 0) := Lib.hid rfl
  all_goals
    have h := HK.out
    clear HK
    obtain ⟨c0, c1, c2, c3, c4, c5, c6⟩ := box7 h.x0
    go_enter Try.func76, Try.ntmps76
    go_wp2_with (first
      | (go_at_call 74; have hx := m0.out; clear hx m0; have hq := HI0.out _ _ (litI [3, 4, 10, 11, 12, 13] (heap_new (w.alloc (.cells #[.int .i64 i.op, .int .i64 i.a, .int .i64 i.b, .int .u8 i.kd, .string i.s, .int .i64 i.n, .slice A i.cs.length c] 128)) (.cells #[.int .i64 3, .int .i64 4, .int .i64 10, .int .i64 11, .int .i64 12, .int .i64 13] 3)) trivial (by simp)); rw [World.size_alloc (w := w) (o := .cells #[.int .i64 i.op, .int .i64 i.a, .int .i64 i.b, .int .u8 i.kd, .string i.s, .int .i64 i.n, .slice A i.cs.length c] 128)] at hq; refine hq.mono ?_; clear hq HI0; rintro e w1 ⟨rfl, hb1⟩; replace h := h.alloc (.cells #[.int .i64 3, .int .i64 4, .int .i64 10, .int .i64 11, .int .i64 12, .int .i64 13] 3); replace h := h.then hb1; clear hb1 c0 c1 c2 c3 c4 c5 c6; obtain ⟨c0, c1, c2, c3, c4, c5, c6⟩ := box7 h.x0)
      | (go_at_call 74; have hx := m1.out; clear hx m1; refine (HI1.out _ _ (litI [3, 4, 9] (heap_new _ (.cells #[.int .i64 3, .int .i64 4, .int .i64 9] 3)) trivial (by simp))).mono ?_; clear HI1; rintro e w2 ⟨rfl, hb1⟩; replace h := h.alloc (.cells #[.int .i64 3, .int .i64 4, .int .i64 9] 3); replace h := h.then hb1; clear hb1 c0 c1 c2 c3 c4 c5 c6; obtain ⟨c0, c1, c2, c3, c4, c5, c6⟩ := box7 h.x0)
      | (go_at_call 74; have hx := m2.out; clear hx m2; refine (HI2.out _ _ (litI [10, 11, 12] (heap_new _ (.cells #[.int .i64 10, .int .i64 11, .int .i64 12] 3)) trivial (by simp))).mono ?_; clear HI2; rintro e w3 ⟨rfl, hb1⟩; replace h := h.alloc (.cells #[.int .i64 10, .int .i64 11, .int .i64 12] 3); replace h := h.then hb1; clear hb1 c0 c1 c2 c3 c4 c5 c6; obtain ⟨c0, c1, c2, c3, c4, c5, c6⟩ := box7 h.x0)
      | (go_at_call 74; have hx := m3.out; clear hx m3; refine (HI3.out _ _ (litI [13, 14] (heap_new _ (.cells #[.int .i64 13, .int .i64 14] 3)) trivial (by simp))).mono ?_; clear HI3; rintro e w4 ⟨rfl, hb1⟩; replace h := h.alloc (.cells #[.int .i64 13, .int .i64 14] 3); replace h := h.then hb1; clear hb1 c0 c1 c2 c3 c4 c5 c6; obtain ⟨c0, c1, c2, c3, c4, c5, c6⟩ := box7 h.x0)
      | (go_at_call 74; have hx := m4.out; clear hx m4; refine (HI4.out _ _ (litI [15, 16, 19, 20, 22, 23, 30, 31] (heap_new _ (.cells #[.int .i64 15, .int .i64 16, .int .i64 19, .int .i64 20, .int .i64 22, .int .i64 23, .int .i64 30, .int .i64 31] 3)) trivial (by simp))).mono ?_; clear HI4; rintro e w5 ⟨rfl, hb1⟩; replace h := h.alloc (.cells #[.int .i64 15, .int .i64 16, .int .i64 19, .int .i64 20, .int .i64 22, .int .i64 23, .int .i64 30, .int .i64 31] 3); replace h := h.then hb1; clear hb1 c0 c1 c2 c3 c4 c5 c6; obtain ⟨c0, c1, c2, c3, c4, c5, c6⟩ := box7 h.x0)
      | (go_at_call 74; have hx := m5.out; clear hx m5; refine (HI5.out _ _ (litI [15, 16, 17, 18, 22, 23, 24, 26, 27, 28, 29, 30] (heap_new _ (.cells #[.int .i64 15, .int .i64 16, .int .i64 17, .int .i64 18, .int .i64 22, .int .i64 23, .int .i64 24, .int .i64 26, .int .i64 27, .int .i64 28, .int .i64 29, .int .i64 30] 3)) trivial (by simp))).mono ?_; clear HI5; rintro e w6 ⟨rfl, hb1⟩; replace h := h.alloc (.cells #[.int .i64 15, .int .i64 16, .int .i64 17, .int .i64 18, .int .i64 22, .int .i64 23, .int .i64 24, .int .i64 26, .int .i64 27, .int .i64 28, .int .i64 29, .int .i64 30] 3); replace h := h.then hb1; clear hb1 c0 c1 c2 c3 c4 c5 c6; obtain ⟨c0, c1, c2, c3, c4, c5, c6⟩ := box7 h.x0)
      | (go_at_call 74; have hx := m6.out; clear hx m6; refine (HI6.out _ _ (litI [17, 21, 24, 26, 28] (heap_new _ (.cells #[.int .i64 17, .int .i64 21, .int .i64 24, .int .i64 26, .int .i64 28] 3)) trivial (by simp))).mono ?_; clear HI6; rintro e w7 ⟨rfl, hb1⟩; replace h := h.alloc (.cells #[.int .i64 17, .int .i64 21, .int .i64 24, .int .i64 26, .int .i64 28] 3); replace h := h.then hb1; clear hb1 c0 c1 c2 c3 c4 c5 c6; obtain ⟨c0, c1, c2, c3, c4, c5, c6⟩ := box7 h.x0)
      | (go_at_call 74; have hx := m7.out; clear hx m7; refine (HI7.out _ _ (litI [18, 25, 27, 29] (heap_new _ (.cells #[.int .i64 18, .int .i64 25, .int .i64 27, .int .i64 29] 3)) trivial (by simp))).mono ?_; clear HI7; rintro e w8 ⟨rfl, hb1⟩; replace h := h.alloc (.cells #[.int .i64 18, .int .i64 25, .int .i64 27, .int .i64 29] 3); replace h := h.then hb1; clear hb1 c0 c1 c2 c3 c4 c5 c6; obtain ⟨c0, c1, c2, c3, c4, c5, c6⟩ := box7 h.x0)
      | (go_at_call 126; refine (HC.out _ h.cs).mono ?_; clear HC; rintro e w20 ⟨rfl, hb1⟩; replace h := h.then hb1; clear hb1 c0 c1 c2 c3 c4 c5 c6; obtain ⟨c0, c1, c2, c3, c4, c5, c6⟩ := box7 h.x0))
    all_goals go_ret
    all_goals exact ⟨ret_bool (by have hr := HR.out; first | exact hr.symm | (rw [hr]; first | (simp; done) | (simp; omega) | (simp [*]; done) | (simp [*]; omega))), h.b0⟩
end Go.Proofs.Ytdflckjnpgbjlaa

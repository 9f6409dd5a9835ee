/- Layer 22 (code): what one operation asks, walked. Conditions: the arguments read. -/
import Derived.Test.YtdflckjnpgbjlaaCa
set_option linter.unusedVariables false
set_option maxRecDepth 20000
set_option linter.unusedSimpArgs false
namespace Go.Proofs.Ytdflckjnpgbjlaa
open Go.RowKit

theorem box7 {w : World} {B : Nat} {t : TypeId} {a b c d e f g : Value} (h : w.heap[B]? = some (.cells #[a, b, c, d, e, f, g] t (0, 0))) :
    w.cell? ⟨B, 0, none⟩ = some a ∧ w.cell? ⟨B, 1, none⟩ = some b ∧ w.cell? ⟨B, 2, none⟩ = some c ∧ w.cell? ⟨B, 3, none⟩ = some d ∧ w.cell? ⟨B, 4, none⟩ = some e ∧ w.cell? ⟨B, 5, none⟩ = some f ∧ w.cell? ⟨B, 6, none⟩ = some g := by
  simp [World.cell?, h]
theorem place_c (a n : Int) (w : World) : Calls Try.prog 75 #[.int .i64 a, .int .i64 n] w fun e w' => e = .returned (.bool (placeB a n)) ∧ Below w.heap.size w w' := by
  have HX := Lib.hid (show placeB a n = (decide (0 ≤ a) && decide (a < n)) from rfl)
  go_enter Try.func75, Try.ntmps75
  go_wp2
  all_goals go_ret
  all_goals exact ⟨ret_bool (by rw [HX.out]; (try simp [*]); (try omega)), Below.refl _ _⟩
theorem args_c (n : Int) (w : World) : Calls Try.prog 111 #[.int .i64 n] w fun e w' => e = .returned (.bool (argsB n)) ∧ Below w.heap.size w w' := by
  have HX := Lib.hid (show argsB n = (decide (0 ≤ n) && decide (n ≤ 16)) from rfl)
  go_enter Try.func111, Try.ntmps111
  go_wp2
  all_goals go_ret
  all_goals exact ⟨ret_bool (by rw [HX.out]; (try simp [*]); (try omega)), Below.refl _ _⟩
theorem reg_c (r : Int) (w : World) : Calls Try.prog 143 #[.int .i64 r] w fun e w' => e = .returned (.bool (regB r)) ∧ Below w.heap.size w w' := by
  have HX := Lib.hid (show regB r = (decide (-64 ≤ r) && decide (r < 256)) from rfl)
  go_enter Try.func143, Try.ntmps143
  go_wp2
  all_goals go_ret
  all_goals exact ⟨ret_bool (by rw [HX.out]; (try simp [*]); (try omega)), Below.refl _ _⟩
theorem x_c (r : Int) (w : World) : Calls Try.prog 121 #[.int .i64 r] w fun e w' => e = .returned (.bool (xB r)) ∧ Below w.heap.size w w' := by
  have HX := Lib.hid (show xB r = (decide (0 ≤ r) && decide (r < 256)) from rfl)
  go_enter Try.func121, Try.ntmps121
  go_wp2
  all_goals go_ret
  all_goals exact ⟨ret_bool (by rw [HX.out]; (try simp [*]); (try omega)), Below.refl _ _⟩
theorem constant_c (i : In) (v : Value) (w : World) (ok : Nat → Prop) (hv : InV .u8 w ok i v) : Calls Try.prog 124 #[v] w fun e w' => e = .returned (.bool (constB i)) ∧ Below w.heap.size w w' := by
  obtain ⟨u, rfl, hS⟩ := hv
  obtain ⟨A, c, rfl⟩ := hS.form
  have HX := Lib.hid (show (constB i) = (decide (i.kd = 2) || decide (i.kd = 3)) from rfl)
  have HS := Lib.hid hS
  have hb : Below w.heap.size w (w.alloc (.cells #[.int .u8 i.op, .int .i64 i.a, .int .i64 i.b, .int .u8 i.kd, .string i.s, .int .i64 i.n, .slice A i.cs.length c] 65)) := (Below.refl _ w).alloc (Nat.le_refl _) _
  have hx := heap_new w (.cells #[.int .u8 i.op, .int .i64 i.a, .int .i64 i.b, .int .u8 i.kd, .string i.s, .int .i64 i.n, .slice A i.cs.length c] 65)
  have hxl : w.heap.size < (w.alloc (.cells #[.int .u8 i.op, .int .i64 i.a, .int .i64 i.b, .int .u8 i.kd, .string i.s, .int .i64 i.n, .slice A i.cs.length c] 65)).heap.size := by simp
  clear hS
  obtain ⟨c0, c1, c2, c3, c4, c5, c6⟩ := box7 hx
  have hq : ∃ q : Unit, ((i.kd == 2) = true ∧ constB i = true) ∨ ((i.kd == 2) = false ∧ constB i = (i.kd == 3)) := by
    refine ⟨(), ?_⟩
    rw [HX.out]
    by_cases h : i.kd = 2
    · left; simp [h]
    · right; refine ⟨by simpa using h, ?_⟩; simp only [h, decide_false, Bool.false_or]; rfl
  clear HX
  obtain ⟨-, ⟨hq, hr⟩ | ⟨hq, hr⟩⟩ := hq
  all_goals rw [hr]; clear hr
  all_goals go_enter Try.func124, Try.ntmps124
  all_goals go_wp2
  all_goals go_ret
  all_goals exact ⟨ret_bool (by rfl), hb⟩
theorem functor_c (i : In) (v : Value) (w : World) (ok : Nat → Prop) (hv : InV .u8 w ok i v) : Calls Try.prog 120 #[v] w fun e w' => e = .returned (.bool (funB i)) ∧ Below w.heap.size w w' := by
  obtain ⟨u, rfl, hS⟩ := hv
  obtain ⟨A, c, rfl⟩ := hS.form
  have HX := Lib.hid (show (funB i) = (decide (1 ≤ i.n) && argsB i.n) from rfl)
  have HS := Lib.hid hS
  have hb : Below w.heap.size w (w.alloc (.cells #[.int .u8 i.op, .int .i64 i.a, .int .i64 i.b, .int .u8 i.kd, .string i.s, .int .i64 i.n, .slice A i.cs.length c] 65)) := (Below.refl _ w).alloc (Nat.le_refl _) _
  have hx := heap_new w (.cells #[.int .u8 i.op, .int .i64 i.a, .int .i64 i.b, .int .u8 i.kd, .string i.s, .int .i64 i.n, .slice A i.cs.length c] 65)
  have hxl : w.heap.size < (w.alloc (.cells #[.int .u8 i.op, .int .i64 i.a, .int .i64 i.b, .int .u8 i.kd, .string i.s, .int .i64 i.n, .slice A i.cs.length c] 65)).heap.size := by simp
  clear hS
  obtain ⟨c0, c1, c2, c3, c4, c5, c6⟩ := box7 hx
  go_enter Try.func120, Try.ntmps120
  go_wp2_with (first | (go_at_call 111; refine (args_c _ _).mono ?_; rintro e w2 ⟨rfl, hb1⟩; have hz := hb.size; replace hb := below_then hb hb.size hb1; replace hx := block_below hb1 hxl hx; replace hxl := Nat.lt_of_lt_of_le hxl hb1.size; clear hz; obtain ⟨c0, c1, c2, c3, c4, c5, c6⟩ := box7 hx; clear hb1))
  all_goals go_ret
  all_goals exact ⟨ret_bool (by (try rw [HX.out]); (try simp [*]); (try omega)), hb⟩
theorem plain_c (i : In) (n : Int) (v : Value) (w : World) (ok : Nat → Prop) (hv : InV .u8 w ok i v) : Calls Try.prog 106 #[v, .int .i64 n] w fun e w' => e = .returned (.bool (true)) ∧ Below w.heap.size w w' := by
  obtain ⟨u, rfl, hS⟩ := hv
  obtain ⟨A, c, rfl⟩ := hS.form
  have HX := Lib.hid (show (true) = (true) from rfl)
  have HS := Lib.hid hS
  have hb : Below w.heap.size w (w.alloc (.cells #[.int .u8 i.op, .int .i64 i.a, .int .i64 i.b, .int .u8 i.kd, .string i.s, .int .i64 i.n, .slice A i.cs.length c] 65)) := (Below.refl _ w).alloc (Nat.le_refl _) _
  have hx := heap_new w (.cells #[.int .u8 i.op, .int .i64 i.a, .int .i64 i.b, .int .u8 i.kd, .string i.s, .int .i64 i.n, .slice A i.cs.length c] 65)
  have hxl : w.heap.size < (w.alloc (.cells #[.int .u8 i.op, .int .i64 i.a, .int .i64 i.b, .int .u8 i.kd, .string i.s, .int .i64 i.n, .slice A i.cs.length c] 65)).heap.size := by simp
  clear hS
  obtain ⟨c0, c1, c2, c3, c4, c5, c6⟩ := box7 hx
  go_enter Try.func106, Try.ntmps106
  go_wp2
  all_goals go_ret
  all_goals exact ⟨ret_bool (by (try rw [HX.out]); (try simp [*]); (try omega)), hb⟩
theorem all2_c (i : In) (n : Int) (v : Value) (w : World) (ok : Nat → Prop) (hv : InV .u8 w ok i v) : Calls Try.prog 108 #[v, .int .i64 n] w fun e w' => e = .returned (.bool (decide (0 ≤ i.a) && decide (i.a ≤ 64))) ∧ Below w.heap.size w w' := by
  obtain ⟨u, rfl, hS⟩ := hv
  obtain ⟨A, c, rfl⟩ := hS.form
  have HX := Lib.hid (show (decide (0 ≤ i.a) && decide (i.a ≤ 64)) = (decide (0 ≤ i.a) && decide (i.a ≤ 64)) from rfl)
  have HS := Lib.hid hS
  have hb : Below w.heap.size w (w.alloc (.cells #[.int .u8 i.op, .int .i64 i.a, .int .i64 i.b, .int .u8 i.kd, .string i.s, .int .i64 i.n, .slice A i.cs.length c] 65)) := (Below.refl _ w).alloc (Nat.le_refl _) _
  have hx := heap_new w (.cells #[.int .u8 i.op, .int .i64 i.a, .int .i64 i.b, .int .u8 i.kd, .string i.s, .int .i64 i.n, .slice A i.cs.length c] 65)
  have hxl : w.heap.size < (w.alloc (.cells #[.int .u8 i.op, .int .i64 i.a, .int .i64 i.b, .int .u8 i.kd, .string i.s, .int .i64 i.n, .slice A i.cs.length c] 65)).heap.size := by simp
  clear hS
  obtain ⟨c0, c1, c2, c3, c4, c5, c6⟩ := box7 hx
  go_enter Try.func108, Try.ntmps108
  go_wp2
  all_goals go_ret
  all_goals exact ⟨ret_bool (by (try rw [HX.out]); (try simp [*]); (try omega)), hb⟩
theorem jump_c (i : In) (n : Int) (v : Value) (w : World) (ok : Nat → Prop) (hv : InV .u8 w ok i v) : Calls Try.prog 109 #[v, .int .i64 n] w fun e w' => e = .returned (.bool (placeB i.a n && argsB i.n)) ∧ Below w.heap.size w w' := by
  obtain ⟨u, rfl, hS⟩ := hv
  obtain ⟨A, c, rfl⟩ := hS.form
  have HX := Lib.hid (show (placeB i.a n && argsB i.n) = (placeB i.a n && argsB i.n) from rfl)
  have HS := Lib.hid hS
  have hb : Below w.heap.size w (w.alloc (.cells #[.int .u8 i.op, .int .i64 i.a, .int .i64 i.b, .int .u8 i.kd, .string i.s, .int .i64 i.n, .slice A i.cs.length c] 65)) := (Below.refl _ w).alloc (Nat.le_refl _) _
  have hx := heap_new w (.cells #[.int .u8 i.op, .int .i64 i.a, .int .i64 i.b, .int .u8 i.kd, .string i.s, .int .i64 i.n, .slice A i.cs.length c] 65)
  have hxl : w.heap.size < (w.alloc (.cells #[.int .u8 i.op, .int .i64 i.a, .int .i64 i.b, .int .u8 i.kd, .string i.s, .int .i64 i.n, .slice A i.cs.length c] 65)).heap.size := by simp
  clear hS
  obtain ⟨c0, c1, c2, c3, c4, c5, c6⟩ := box7 hx
  go_enter Try.func109, Try.ntmps109
  go_wp2_with (first | (go_at_call 75; refine (place_c _ _ _).mono ?_; rintro e w1 ⟨rfl, hb1⟩; have hz := hb.size; replace hb := below_then hb hb.size hb1; replace hx := block_below hb1 hxl hx; replace hxl := Nat.lt_of_lt_of_le hxl hb1.size; clear hz; obtain ⟨c0, c1, c2, c3, c4, c5, c6⟩ := box7 hx; clear hb1) | (go_at_call 111; refine (args_c _ _).mono ?_; rintro e w2 ⟨rfl, hb1⟩; have hz := hb.size; replace hb := below_then hb hb.size hb1; replace hx := block_below hb1 hxl hx; replace hxl := Nat.lt_of_lt_of_le hxl hb1.size; clear hz; obtain ⟨c0, c1, c2, c3, c4, c5, c6⟩ := box7 hx; clear hb1))
  all_goals go_ret
  all_goals exact ⟨ret_bool (by (try rw [HX.out]); (try simp [*]); (try omega)), hb⟩
theorem all3_c (i : In) (n : Int) (v : Value) (w : World) (ok : Nat → Prop) (hv : InV .u8 w ok i v) : Calls Try.prog 110 #[v, .int .i64 n] w fun e w' => e = .returned (.bool (argsB i.n)) ∧ Below w.heap.size w w' := by
  obtain ⟨u, rfl, hS⟩ := hv
  obtain ⟨A, c, rfl⟩ := hS.form
  have HX := Lib.hid (show (argsB i.n) = (argsB i.n) from rfl)
  have HS := Lib.hid hS
  have hb : Below w.heap.size w (w.alloc (.cells #[.int .u8 i.op, .int .i64 i.a, .int .i64 i.b, .int .u8 i.kd, .string i.s, .int .i64 i.n, .slice A i.cs.length c] 65)) := (Below.refl _ w).alloc (Nat.le_refl _) _
  have hx := heap_new w (.cells #[.int .u8 i.op, .int .i64 i.a, .int .i64 i.b, .int .u8 i.kd, .string i.s, .int .i64 i.n, .slice A i.cs.length c] 65)
  have hxl : w.heap.size < (w.alloc (.cells #[.int .u8 i.op, .int .i64 i.a, .int .i64 i.b, .int .u8 i.kd, .string i.s, .int .i64 i.n, .slice A i.cs.length c] 65)).heap.size := by simp
  clear hS
  obtain ⟨c0, c1, c2, c3, c4, c5, c6⟩ := box7 hx
  go_enter Try.func110, Try.ntmps110
  go_wp2_with (first | (go_at_call 111; refine (args_c _ _).mono ?_; rintro e w2 ⟨rfl, hb1⟩; have hz := hb.size; replace hb := below_then hb hb.size hb1; replace hx := block_below hb1 hxl hx; replace hxl := Nat.lt_of_lt_of_le hxl hb1.size; clear hz; obtain ⟨c0, c1, c2, c3, c4, c5, c6⟩ := box7 hx; clear hb1))
  all_goals go_ret
  all_goals exact ⟨ret_bool (by (try rw [HX.out]); (try simp [*]); (try omega)), hb⟩
theorem choice_c (i : In) (n : Int) (v : Value) (w : World) (ok : Nat → Prop) (hv : InV .u8 w ok i v) : Calls Try.prog 112 #[v, .int .i64 n] w fun e w' => e = .returned (.bool (placeB i.a n && argsB i.b)) ∧ Below w.heap.size w w' := by
  obtain ⟨u, rfl, hS⟩ := hv
  obtain ⟨A, c, rfl⟩ := hS.form
  have HX := Lib.hid (show (placeB i.a n && argsB i.b) = (placeB i.a n && argsB i.b) from rfl)
  have HS := Lib.hid hS
  have hb : Below w.heap.size w (w.alloc (.cells #[.int .u8 i.op, .int .i64 i.a, .int .i64 i.b, .int .u8 i.kd, .string i.s, .int .i64 i.n, .slice A i.cs.length c] 65)) := (Below.refl _ w).alloc (Nat.le_refl _) _
  have hx := heap_new w (.cells #[.int .u8 i.op, .int .i64 i.a, .int .i64 i.b, .int .u8 i.kd, .string i.s, .int .i64 i.n, .slice A i.cs.length c] 65)
  have hxl : w.heap.size < (w.alloc (.cells #[.int .u8 i.op, .int .i64 i.a, .int .i64 i.b, .int .u8 i.kd, .string i.s, .int .i64 i.n, .slice A i.cs.length c] 65)).heap.size := by simp
  clear hS
  obtain ⟨c0, c1, c2, c3, c4, c5, c6⟩ := box7 hx
  go_enter Try.func112, Try.ntmps112
  go_wp2_with (first | (go_at_call 75; refine (place_c _ _ _).mono ?_; rintro e w1 ⟨rfl, hb1⟩; have hz := hb.size; replace hb := below_then hb hb.size hb1; replace hx := block_below hb1 hxl hx; replace hxl := Nat.lt_of_lt_of_le hxl hb1.size; clear hz; obtain ⟨c0, c1, c2, c3, c4, c5, c6⟩ := box7 hx; clear hb1) | (go_at_call 111; refine (args_c _ _).mono ?_; rintro e w2 ⟨rfl, hb1⟩; have hz := hb.size; replace hb := below_then hb hb.size hb1; replace hx := block_below hb1 hxl hx; replace hxl := Nat.lt_of_lt_of_le hxl hb1.size; clear hz; obtain ⟨c0, c1, c2, c3, c4, c5, c6⟩ := box7 hx; clear hb1))
  all_goals go_ret
  all_goals exact ⟨ret_bool (by (try rw [HX.out]); (try simp [*]); (try omega)), hb⟩
theorem two_c (i : In) (n : Int) (v : Value) (w : World) (ok : Nat → Prop) (hv : InV .u8 w ok i v) : Calls Try.prog 116 #[v, .int .i64 n] w fun e w' => e = .returned (.bool (regB i.a && xB i.b)) ∧ Below w.heap.size w w' := by
  obtain ⟨u, rfl, hS⟩ := hv
  obtain ⟨A, c, rfl⟩ := hS.form
  have HX := Lib.hid (show (regB i.a && xB i.b) = (regB i.a && xB i.b) from rfl)
  have HS := Lib.hid hS
  have hb : Below w.heap.size w (w.alloc (.cells #[.int .u8 i.op, .int .i64 i.a, .int .i64 i.b, .int .u8 i.kd, .string i.s, .int .i64 i.n, .slice A i.cs.length c] 65)) := (Below.refl _ w).alloc (Nat.le_refl _) _
  have hx := heap_new w (.cells #[.int .u8 i.op, .int .i64 i.a, .int .i64 i.b, .int .u8 i.kd, .string i.s, .int .i64 i.n, .slice A i.cs.length c] 65)
  have hxl : w.heap.size < (w.alloc (.cells #[.int .u8 i.op, .int .i64 i.a, .int .i64 i.b, .int .u8 i.kd, .string i.s, .int .i64 i.n, .slice A i.cs.length c] 65)).heap.size := by simp
  clear hS
  obtain ⟨c0, c1, c2, c3, c4, c5, c6⟩ := box7 hx
  go_enter Try.func116, Try.ntmps116
  go_wp2_with (first | (go_at_call 143; refine (reg_c _ _).mono ?_; rintro e w1 ⟨rfl, hb1⟩; have hz := hb.size; replace hb := below_then hb hb.size hb1; replace hx := block_below hb1 hxl hx; replace hxl := Nat.lt_of_lt_of_le hxl hb1.size; clear hz; obtain ⟨c0, c1, c2, c3, c4, c5, c6⟩ := box7 hx; clear hb1) | (go_at_call 121; refine (x_c _ _).mono ?_; rintro e w2 ⟨rfl, hb1⟩; have hz := hb.size; replace hb := below_then hb hb.size hb1; replace hx := block_below hb1 hxl hx; replace hxl := Nat.lt_of_lt_of_le hxl hb1.size; clear hz; obtain ⟨c0, c1, c2, c3, c4, c5, c6⟩ := box7 hx; clear hb1))
  all_goals go_ret
  all_goals exact ⟨ret_bool (by (try rw [HX.out]); (try simp [*]); (try omega)), hb⟩
theorem getConst_c (i : In) (n : Int) (v : Value) (w : World) (ok : Nat → Prop) (hv : InV .u8 w ok i v) : Calls Try.prog 117 #[v, .int .i64 n] w fun e w' => e = .returned (.bool (constB i && xB i.b)) ∧ Below w.heap.size w w' := by
  obtain ⟨u, rfl, hS⟩ := hv
  obtain ⟨A, c, rfl⟩ := hS.form
  have HX := Lib.hid (show (constB i && xB i.b) = (constB i && xB i.b) from rfl)
  have HS := Lib.hid hS
  have hb : Below w.heap.size w (w.alloc (.cells #[.int .u8 i.op, .int .i64 i.a, .int .i64 i.b, .int .u8 i.kd, .string i.s, .int .i64 i.n, .slice A i.cs.length c] 65)) := (Below.refl _ w).alloc (Nat.le_refl _) _
  have hx := heap_new w (.cells #[.int .u8 i.op, .int .i64 i.a, .int .i64 i.b, .int .u8 i.kd, .string i.s, .int .i64 i.n, .slice A i.cs.length c] 65)
  have hxl : w.heap.size < (w.alloc (.cells #[.int .u8 i.op, .int .i64 i.a, .int .i64 i.b, .int .u8 i.kd, .string i.s, .int .i64 i.n, .slice A i.cs.length c] 65)).heap.size := by simp
  clear hS
  obtain ⟨c0, c1, c2, c3, c4, c5, c6⟩ := box7 hx
  go_enter Try.func117, Try.ntmps117
  go_wp2_with (first | (go_at_call 124; refine (constant_c i _ _ _ ⟨_, rfl, HS.out.below ((Below.refl _ w).alloc (Nat.le_refl _) _)⟩).mono ?_; rintro e w1 ⟨rfl, hb1⟩; have hz := hb.size; replace hb := below_then hb hb.size hb1; replace hx := block_below hb1 hxl hx; replace hxl := Nat.lt_of_lt_of_le hxl hb1.size; clear hz; obtain ⟨c0, c1, c2, c3, c4, c5, c6⟩ := box7 hx; clear hb1) | (go_at_call 121; refine (x_c _ _).mono ?_; rintro e w2 ⟨rfl, hb1⟩; have hz := hb.size; replace hb := below_then hb hb.size hb1; replace hx := block_below hb1 hxl hx; replace hxl := Nat.lt_of_lt_of_le hxl hb1.size; clear hz; obtain ⟨c0, c1, c2, c3, c4, c5, c6⟩ := box7 hx; clear hb1))
  all_goals go_ret
  all_goals exact ⟨ret_bool (by (try rw [HX.out]); (try simp [*]); (try omega)), hb⟩
theorem getStruct_c (i : In) (n : Int) (v : Value) (w : World) (ok : Nat → Prop) (hv : InV .u8 w ok i v) : Calls Try.prog 118 #[v, .int .i64 n] w fun e w' => e = .returned (.bool (funB i && xB i.b)) ∧ Below w.heap.size w w' := by
  obtain ⟨u, rfl, hS⟩ := hv
  obtain ⟨A, c, rfl⟩ := hS.form
  have HX := Lib.hid (show (funB i && xB i.b) = (funB i && xB i.b) from rfl)
  have HS := Lib.hid hS
  have hb : Below w.heap.size w (w.alloc (.cells #[.int .u8 i.op, .int .i64 i.a, .int .i64 i.b, .int .u8 i.kd, .string i.s, .int .i64 i.n, .slice A i.cs.length c] 65)) := (Below.refl _ w).alloc (Nat.le_refl _) _
  have hx := heap_new w (.cells #[.int .u8 i.op, .int .i64 i.a, .int .i64 i.b, .int .u8 i.kd, .string i.s, .int .i64 i.n, .slice A i.cs.length c] 65)
  have hxl : w.heap.size < (w.alloc (.cells #[.int .u8 i.op, .int .i64 i.a, .int .i64 i.b, .int .u8 i.kd, .string i.s, .int .i64 i.n, .slice A i.cs.length c] 65)).heap.size := by simp
  clear hS
  obtain ⟨c0, c1, c2, c3, c4, c5, c6⟩ := box7 hx
  go_enter Try.func118, Try.ntmps118
  go_wp2_with (first | (go_at_call 120; refine (functor_c i _ _ _ ⟨_, rfl, HS.out.below ((Below.refl _ w).alloc (Nat.le_refl _) _)⟩).mono ?_; rintro e w1 ⟨rfl, hb1⟩; have hz := hb.size; replace hb := below_then hb hb.size hb1; replace hx := block_below hb1 hxl hx; replace hxl := Nat.lt_of_lt_of_le hxl hb1.size; clear hz; obtain ⟨c0, c1, c2, c3, c4, c5, c6⟩ := box7 hx; clear hb1) | (go_at_call 121; refine (x_c _ _).mono ?_; rintro e w2 ⟨rfl, hb1⟩; have hz := hb.size; replace hb := below_then hb hb.size hb1; replace hx := block_below hb1 hxl hx; replace hxl := Nat.lt_of_lt_of_le hxl hb1.size; clear hz; obtain ⟨c0, c1, c2, c3, c4, c5, c6⟩ := box7 hx; clear hb1))
  all_goals go_ret
  all_goals exact ⟨ret_bool (by (try rw [HX.out]); (try simp [*]); (try omega)), hb⟩
theorem all6_c (i : In) (n : Int) (v : Value) (w : World) (ok : Nat → Prop) (hv : InV .u8 w ok i v) : Calls Try.prog 119 #[v, .int .i64 n] w fun e w' => e = .returned (.bool (funB i && xB i.a)) ∧ Below w.heap.size w w' := by
  obtain ⟨u, rfl, hS⟩ := hv
  obtain ⟨A, c, rfl⟩ := hS.form
  have HX := Lib.hid (show (funB i && xB i.a) = (funB i && xB i.a) from rfl)
  have HS := Lib.hid hS
  have hb : Below w.heap.size w (w.alloc (.cells #[.int .u8 i.op, .int .i64 i.a, .int .i64 i.b, .int .u8 i.kd, .string i.s, .int .i64 i.n, .slice A i.cs.length c] 65)) := (Below.refl _ w).alloc (Nat.le_refl _) _
  have hx := heap_new w (.cells #[.int .u8 i.op, .int .i64 i.a, .int .i64 i.b, .int .u8 i.kd, .string i.s, .int .i64 i.n, .slice A i.cs.length c] 65)
  have hxl : w.heap.size < (w.alloc (.cells #[.int .u8 i.op, .int .i64 i.a, .int .i64 i.b, .int .u8 i.kd, .string i.s, .int .i64 i.n, .slice A i.cs.length c] 65)).heap.size := by simp
  clear hS
  obtain ⟨c0, c1, c2, c3, c4, c5, c6⟩ := box7 hx
  go_enter Try.func119, Try.ntmps119
  go_wp2_with (first | (go_at_call 120; refine (functor_c i _ _ _ ⟨_, rfl, HS.out.below ((Below.refl _ w).alloc (Nat.le_refl _) _)⟩).mono ?_; rintro e w1 ⟨rfl, hb1⟩; have hz := hb.size; replace hb := below_then hb hb.size hb1; replace hx := block_below hb1 hxl hx; replace hxl := Nat.lt_of_lt_of_le hxl hb1.size; clear hz; obtain ⟨c0, c1, c2, c3, c4, c5, c6⟩ := box7 hx; clear hb1) | (go_at_call 121; refine (x_c _ _).mono ?_; rintro e w2 ⟨rfl, hb1⟩; have hz := hb.size; replace hb := below_then hb hb.size hb1; replace hx := block_below hb1 hxl hx; replace hxl := Nat.lt_of_lt_of_le hxl hb1.size; clear hz; obtain ⟨c0, c1, c2, c3, c4, c5, c6⟩ := box7 hx; clear hb1))
  all_goals go_ret
  all_goals exact ⟨ret_bool (by (try rw [HX.out]); (try simp [*]); (try omega)), hb⟩
theorem one_c (i : In) (n : Int) (v : Value) (w : World) (ok : Nat → Prop) (hv : InV .u8 w ok i v) : Calls Try.prog 122 #[v, .int .i64 n] w fun e w' => e = .returned (.bool (regB i.a)) ∧ Below w.heap.size w w' := by
  obtain ⟨u, rfl, hS⟩ := hv
  obtain ⟨A, c, rfl⟩ := hS.form
  have HX := Lib.hid (show (regB i.a) = (regB i.a) from rfl)
  have HS := Lib.hid hS
  have hb : Below w.heap.size w (w.alloc (.cells #[.int .u8 i.op, .int .i64 i.a, .int .i64 i.b, .int .u8 i.kd, .string i.s, .int .i64 i.n, .slice A i.cs.length c] 65)) := (Below.refl _ w).alloc (Nat.le_refl _) _
  have hx := heap_new w (.cells #[.int .u8 i.op, .int .i64 i.a, .int .i64 i.b, .int .u8 i.kd, .string i.s, .int .i64 i.n, .slice A i.cs.length c] 65)
  have hxl : w.heap.size < (w.alloc (.cells #[.int .u8 i.op, .int .i64 i.a, .int .i64 i.b, .int .u8 i.kd, .string i.s, .int .i64 i.n, .slice A i.cs.length c] 65)).heap.size := by simp
  clear hS
  obtain ⟨c0, c1, c2, c3, c4, c5, c6⟩ := box7 hx
  go_enter Try.func122, Try.ntmps122
  go_wp2_with (first | (go_at_call 143; refine (reg_c _ _).mono ?_; rintro e w1 ⟨rfl, hb1⟩; have hz := hb.size; replace hb := below_then hb hb.size hb1; replace hx := block_below hb1 hxl hx; replace hxl := Nat.lt_of_lt_of_le hxl hb1.size; clear hz; obtain ⟨c0, c1, c2, c3, c4, c5, c6⟩ := box7 hx; clear hb1))
  all_goals go_ret
  all_goals exact ⟨ret_bool (by (try rw [HX.out]); (try simp [*]); (try omega)), hb⟩
theorem all7_c (i : In) (n : Int) (v : Value) (w : World) (ok : Nat → Prop) (hv : InV .u8 w ok i v) : Calls Try.prog 123 #[v, .int .i64 n] w fun e w' => e = .returned (.bool (constB i)) ∧ Below w.heap.size w w' := by
  obtain ⟨u, rfl, hS⟩ := hv
  obtain ⟨A, c, rfl⟩ := hS.form
  have HX := Lib.hid (show (constB i) = (constB i) from rfl)
  have HS := Lib.hid hS
  have hb : Below w.heap.size w (w.alloc (.cells #[.int .u8 i.op, .int .i64 i.a, .int .i64 i.b, .int .u8 i.kd, .string i.s, .int .i64 i.n, .slice A i.cs.length c] 65)) := (Below.refl _ w).alloc (Nat.le_refl _) _
  have hx := heap_new w (.cells #[.int .u8 i.op, .int .i64 i.a, .int .i64 i.b, .int .u8 i.kd, .string i.s, .int .i64 i.n, .slice A i.cs.length c] 65)
  have hxl : w.heap.size < (w.alloc (.cells #[.int .u8 i.op, .int .i64 i.a, .int .i64 i.b, .int .u8 i.kd, .string i.s, .int .i64 i.n, .slice A i.cs.length c] 65)).heap.size := by simp
  clear hS
  obtain ⟨c0, c1, c2, c3, c4, c5, c6⟩ := box7 hx
  go_enter Try.func123, Try.ntmps123
  go_wp2_with (first | (go_at_call 124; refine (constant_c i _ _ _ ⟨_, rfl, HS.out.below ((Below.refl _ w).alloc (Nat.le_refl _) _)⟩).mono ?_; rintro e w1 ⟨rfl, hb1⟩; have hz := hb.size; replace hb := below_then hb hb.size hb1; replace hx := block_below hb1 hxl hx; replace hxl := Nat.lt_of_lt_of_le hxl hb1.size; clear hz; obtain ⟨c0, c1, c2, c3, c4, c5, c6⟩ := box7 hx; clear hb1))
  all_goals go_ret
  all_goals exact ⟨ret_bool (by (try rw [HX.out]); (try simp [*]); (try omega)), hb⟩
theorem all8_c (i : In) (n : Int) (v : Value) (w : World) (ok : Nat → Prop) (hv : InV .u8 w ok i v) : Calls Try.prog 125 #[v, .int .i64 n] w fun e w' => e = .returned (.bool (false)) ∧ Below w.heap.size w w' := by
  obtain ⟨u, rfl, hS⟩ := hv
  obtain ⟨A, c, rfl⟩ := hS.form
  have HX := Lib.hid (show (false) = (false) from rfl)
  have HS := Lib.hid hS
  have hb : Below w.heap.size w (w.alloc (.cells #[.int .u8 i.op, .int .i64 i.a, .int .i64 i.b, .int .u8 i.kd, .string i.s, .int .i64 i.n, .slice A i.cs.length c] 65)) := (Below.refl _ w).alloc (Nat.le_refl _) _
  have hx := heap_new w (.cells #[.int .u8 i.op, .int .i64 i.a, .int .i64 i.b, .int .u8 i.kd, .string i.s, .int .i64 i.n, .slice A i.cs.length c] 65)
  have hxl : w.heap.size < (w.alloc (.cells #[.int .u8 i.op, .int .i64 i.a, .int .i64 i.b, .int .u8 i.kd, .string i.s, .int .i64 i.n, .slice A i.cs.length c] 65)).heap.size := by simp
  clear hS
  obtain ⟨c0, c1, c2, c3, c4, c5, c6⟩ := box7 hx
  go_enter Try.func125, Try.ntmps125
  go_wp2
  all_goals go_ret
  all_goals exact ⟨ret_bool (by (try rw [HX.out]); (try simp [*]); (try omega)), hb⟩
theorem orL_step (x : Int) (l : List Int) : orL (x :: l) = if x ≠ 0 then x else orL l := rfl
set_option maxHeartbeats 1600000 in
theorem Or_c (l : List Int) (v : Value) (w : World) (ok : Nat → Prop) (hv : (Kd.int .i64).S w ok l v) :
    Calls Try.prog 155 #[v] w fun e w' => e = .returned (.int .i64 (orL l)) ∧ Below w.heap.size w w' := by
  obtain ⟨A, c, rfl, hl, hc, hA⟩ := hv
  unfold maxLen at hc
  go_enter Try.func155, Try.ntmps155
  go_wp2
  go_loopw [8] (fun i wr => ∃ j : Nat, j ≤ l.length ∧ i = .int .i64 j ∧ Hid (orL l = orL (l.drop j)) ∧ wr = w) (fun i _ => l.length - (intOf i).toNat)
  case atStart => exact ⟨0, Nat.zero_le _, rfl, Lib.hid rfl, rfl⟩
  case round =>
    obtain ⟨j, hj, rfl, hr, rfl⟩ := hrel
    by_cases hlt : j < l.length
    · obtain ⟨bv, ov, rfl, -, hlo, hcv⟩ := int_elem hA hlt
      have HR := Lib.hid (show orL l = if l[j] ≠ 0 then l[j] else orL (l.drop (j + 1)) by rw [hr.out, List.drop_eq_getElem_cons hlt]; rfl)
      clear hA hr
      generalize l[j] = x at hcv HR
      by_cases h0 : x = 0
      · subst h0
        go_wp2
        go_roundw
        case rel => exact ⟨j + 1, by omega, by go_num, Lib.hid (by rw [HR.out]; rfl), (by trivial)⟩
        case measure => simp [intOf]; omega
      · have h0' : (x == 0) = false := by simpa using h0
        go_wp2
        all_goals go_ret
        all_goals exact ⟨ret_int (by rw [HR.out, if_pos h0]), Below.refl _ _⟩
    · have HR := Lib.hid (show orL l = 0 by rw [hr.out, List.drop_eq_nil_of_le (by omega)]; rfl)
      clear hA hr
      go_wp2
      go_ret
      exact ⟨ret_int HR.out.symm, Below.refl _ _⟩
theorem lit3i {W : World} {B : Nat} {ok : Nat → Prop} {a b c : Int} {t : TypeId} (h : W.heap[B]? = some (.cells #[.int .i64 a, .int .i64 b, .int .i64 c] t (0, 0))) (hok : ok B := by trivial) : (Kd.int .i64).S W ok [a, b, c] (.slice (some ⟨B, 0, none⟩) 3 3) := by
  refine ⟨some ⟨B, 0, none⟩, 3, rfl, by simp, by simp [maxLen], .inr ⟨B, 0, rfl, hok, fun j x hx => ?_⟩⟩
  refine ⟨[.int .i64 x], rfl, fun i u hi => ?_⟩
  cases i with
  | succ i => simp at hi
  | zero =>
    simp at hi
    subst hi
    match j, hx with
    | 0, hx => simp at hx; subst hx; simp [World.cell?, h, Kd.int, Kd.scalar]
    | 1, hx => simp at hx; subst hx; simp [World.cell?, h, Kd.int, Kd.scalar]
    | 2, hx => simp at hx; subst hx; simp [World.cell?, h, Kd.int, Kd.scalar]
    | j + 3, hx => simp at hx
set_option maxRecDepth 100000 in
set_option maxHeartbeats 4000000 in
theorem order_c (x y : Cs) (w : World) : Calls Try.prog 142 #[.agg #[.int .u8 x.k, .string x.s, .int .i64 x.n, .int .i64 x.to], .agg #[.int .u8 y.k, .string y.s, .int .i64 y.n, .int .i64 y.to]] w fun e w' => e = .returned (.int .i64 (ordC x y)) ∧ Below w.heap.size w w' := by
  obtain ⟨W1, hW1⟩ : ∃ W1, W1 = ((w.alloc (.cells #[.int .u8 x.k, .string x.s, .int .i64 x.n, .int .i64 x.to] 73)).alloc (.cells #[.int .u8 y.k, .string y.s, .int .i64 y.n, .int .i64 y.to] 73)) := ⟨_, rfl⟩
  have hb : Below w.heap.size w W1 := by rw [hW1]; exact ((Below.refl _ w).alloc (Nat.le_refl _) _).alloc (by simp) _
  have hx : W1.heap[w.heap.size]? = some (.cells #[.int .u8 x.k, .string x.s, .int .i64 x.n, .int .i64 x.to] 73 (0, 0)) := by rw [hW1]; exact (Below.heap_alloc _ _ _ (by simp)).trans (heap_new w _)
  have hy : W1.heap[w.heap.size + 1]? = some (.cells #[.int .u8 y.k, .string y.s, .int .i64 y.n, .int .i64 y.to] 73 (0, 0)) := by rw [hW1]; exact heap_at _ _ _ (by simp)
  have HW := Lib.hid hW1
  clear hW1
  obtain ⟨c0, c1, c2, c3, -, -, -, -⟩ := box4 hx
  obtain ⟨d0, d1, d2, d3, -, -, -, -⟩ := box4 hy
  have hS : (fun W => W.cell? ⟨w.heap.size, 0, none⟩ = some (.int .u8 x.k) ∧ W.cell? ⟨w.heap.size, 1, none⟩ = some (.string x.s) ∧ W.cell? ⟨w.heap.size, 2, none⟩ = some (.int .i64 x.n) ∧ W.cell? ⟨w.heap.size, 3, none⟩ = some (.int .i64 x.to) ∧ W.cell? ⟨w.heap.size + 1, 0, none⟩ = some (.int .u8 y.k) ∧ W.cell? ⟨w.heap.size + 1, 1, none⟩ = some (.string y.s) ∧ W.cell? ⟨w.heap.size + 1, 2, none⟩ = some (.int .i64 y.n) ∧ W.cell? ⟨w.heap.size + 1, 3, none⟩ = some (.int .i64 y.to)) W1.drew := ⟨c0, c1, c2, c3, d0, d1, d2, d3⟩
  go_enter Try.func142, Try.ntmps142
  go_wp2
  rw [← HW.out]
  have hS' := hS
  clear c0 c1 c2 c3 d0 d1 d2 d3 hx hy
  refine wp_region_held_drew (S := (fun W => W.cell? ⟨w.heap.size, 0, none⟩ = some (.int .u8 x.k) ∧ W.cell? ⟨w.heap.size, 1, none⟩ = some (.string x.s) ∧ W.cell? ⟨w.heap.size, 2, none⟩ = some (.int .i64 x.n) ∧ W.cell? ⟨w.heap.size, 3, none⟩ = some (.int .i64 x.to) ∧ W.cell? ⟨w.heap.size + 1, 0, none⟩ = some (.int .u8 y.k) ∧ W.cell? ⟨w.heap.size + 1, 1, none⟩ = some (.string y.s) ∧ W.cell? ⟨w.heap.size + 1, 2, none⟩ = some (.int .i64 y.n) ∧ W.cell? ⟨w.heap.size + 1, 3, none⟩ = some (.int .i64 y.to))) (by kernel_rfl) ?_ (fun hHeld => ?_)
  · exact hS
  change wpAnyH _ .any _ _ _ 18 (Array.replicate 18 false) _ _
  refine wpAnyH_take (i := 0) (oi := ⟨some 5, _, _, _, _, _⟩) (v := ?_) rfl (by kernel_rfl) (by kernel_rfl) (by kernel_rfl) (fun _ _ _ h => h) (Or.inl ⟨by rfl, ?_⟩) (by assumption) ?_
  rotate_left
  · (intro w hSw; (try dsimp only at hSw); go_simp; try (with_reducible rfl))
  (try simp only [Act.put, List.setIfInBounds_toArray, List.set_cons_zero, List.set_cons_succ])
  refine wpAnyH_take (i := 1) (oi := ⟨some 6, _, _, _, _, _⟩) (v := ?_) rfl (by kernel_rfl) (by kernel_rfl) (by kernel_rfl) (fun _ _ _ h => h) (Or.inl ⟨by rfl, ?_⟩) (by assumption) ?_
  rotate_left
  · (intro w hSw; (try dsimp only at hSw); go_simp; try (with_reducible rfl))
  (try simp only [Act.put, List.setIfInBounds_toArray, List.set_cons_zero, List.set_cons_succ])
  refine wpAnyH_take (i := 2) (oi := ⟨some 7, _, _, _, _, _⟩) (v := ?_) rfl (by kernel_rfl) (by kernel_rfl) (by kernel_rfl) (fun _ _ _ h => h) (Or.inl ⟨by rfl, ?_⟩) (by assumption) ?_
  rotate_left
  · (intro w hSw; (try dsimp only at hSw); go_simp; try (with_reducible rfl))
  (try simp only [Act.put, List.setIfInBounds_toArray, List.set_cons_zero, List.set_cons_succ])
  refine wpAnyH_take (i := 3) (oi := ⟨some 8, _, _, _, _, _⟩) (v := ?_) rfl (by kernel_rfl) (by kernel_rfl) (by kernel_rfl) (fun _ _ _ h => h) (Or.inl ⟨by rfl, ?_⟩) (by assumption) ?_
  rotate_left
  · (intro w hSw; (try dsimp only at hSw); go_simp; try (with_reducible rfl))
  (try simp only [Act.put, List.setIfInBounds_toArray, List.set_cons_zero, List.set_cons_succ])
  refine wpAnyH_take (i := 5) (oi := ⟨some 10, _, _, _, _, _⟩) (v := ?_) rfl (by kernel_rfl) (by kernel_rfl) (by kernel_rfl) (fun _ _ _ h => h) (Or.inl ⟨by rfl, ?_⟩) (by assumption) ?_
  rotate_left
  · (intro w hSw; (try dsimp only at hSw); go_simp; try (with_reducible rfl))
  (try simp only [Act.put, List.setIfInBounds_toArray, List.set_cons_zero, List.set_cons_succ])
  refine wpAnyH_take (i := 6) (oi := ⟨some 11, _, _, _, _, _⟩) (v := ?_) rfl (by kernel_rfl) (by kernel_rfl) (by kernel_rfl) (fun _ _ _ h => h) (Or.inl ⟨by rfl, ?_⟩) (by assumption) ?_
  rotate_left
  · (intro w hSw; (try dsimp only at hSw); go_simp; try (with_reducible rfl))
  (try simp only [Act.put, List.setIfInBounds_toArray, List.set_cons_zero, List.set_cons_succ])
  refine wpAnyH_take (i := 7) (oi := ⟨some 12, _, _, _, _, _⟩) (v := ?_) rfl (by kernel_rfl) (by kernel_rfl) (by kernel_rfl) (fun _ _ _ h => h) (Or.inl ⟨by rfl, ?_⟩) (by assumption) ?_
  rotate_left
  · (intro w hSw; (try dsimp only at hSw); go_simp; try (with_reducible rfl))
  (try simp only [Act.put, List.setIfInBounds_toArray, List.set_cons_zero, List.set_cons_succ])
  refine wpAnyH_take (i := 8) (oi := ⟨some 13, _, _, _, _, _⟩) (v := ?_) rfl (by kernel_rfl) (by kernel_rfl) (by kernel_rfl) (fun _ _ _ h => h) (Or.inl ⟨by rfl, ?_⟩) (by assumption) ?_
  rotate_left
  · (intro w hSw; (try dsimp only at hSw); go_simp; try (with_reducible rfl))
  (try simp only [Act.put, List.setIfInBounds_toArray, List.set_cons_zero, List.set_cons_succ])
  refine wpAnyH_take (i := 10) (oi := ⟨some 15, _, _, _, _, _⟩) (v := ?_) rfl (by kernel_rfl) (by kernel_rfl) (by kernel_rfl) (fun _ _ _ h => h) (Or.inl ⟨by rfl, ?_⟩) (by assumption) ?_
  rotate_left
  · (intro w hSw; (try dsimp only at hSw); go_simp; try (with_reducible rfl))
  (try simp only [Act.put, List.setIfInBounds_toArray, List.set_cons_zero, List.set_cons_succ])
  refine wpAnyH_take (i := 11) (oi := ⟨some 16, _, _, _, _, _⟩) (v := ?_) rfl (by kernel_rfl) (by kernel_rfl) (by kernel_rfl) (fun _ _ _ h => h) (Or.inl ⟨by rfl, ?_⟩) (by assumption) ?_
  rotate_left
  · (intro w hSw; (try dsimp only at hSw); go_simp; try (with_reducible rfl))
  (try simp only [Act.put, List.setIfInBounds_toArray, List.set_cons_zero, List.set_cons_succ])
  refine wpAnyH_take (i := 12) (oi := ⟨some 17, _, _, _, _, _⟩) (v := ?_) rfl (by kernel_rfl) (by kernel_rfl) (by kernel_rfl) (fun _ _ _ h => h) (Or.inl ⟨by rfl, ?_⟩) (by assumption) ?_
  rotate_left
  · (intro w hSw; (try dsimp only at hSw); go_simp; try (with_reducible rfl))
  (try simp only [Act.put, List.setIfInBounds_toArray, List.set_cons_zero, List.set_cons_succ])
  refine wpAnyH_take (i := 13) (oi := ⟨some 18, _, _, _, _, _⟩) (v := ?_) rfl (by kernel_rfl) (by kernel_rfl) (by kernel_rfl) (fun _ _ _ h => h) (Or.inl ⟨by rfl, ?_⟩) (by assumption) ?_
  rotate_left
  · (intro w hSw; (try dsimp only at hSw); go_simp; try (with_reducible rfl))
  (try simp only [Act.put, List.setIfInBounds_toArray, List.set_cons_zero, List.set_cons_succ])
  refine wpAnyH_ready (rs := [4]) (by kernel_rfl) (by simp) ?_
  refine AllReadyH.cons (o := ⟨some 9, _, _, _, _, _⟩) rfl (fun K hK => ?_) AllReadyH.nil
  go_simp
  go_at_call 86
  refine (cmp8_c _ _ _).mono ?_
  rintro e w9 ⟨rfl, rfl⟩
  go_wp2_with fail
  refine hK.out _ _ hS (fun hHeld => ?_)
  clear hK K
  (try simp only [Act.put, List.setIfInBounds_toArray, List.set_cons_zero, List.set_cons_succ])
  refine wpAnyH_ready (rs := [9]) (by kernel_rfl) (by simp) ?_
  refine AllReadyH.cons (o := ⟨some 14, _, _, _, _, _⟩) rfl (fun K hK => ?_) AllReadyH.nil
  go_simp
  go_at_call 92
  refine (cmps_c _ _ _).mono ?_
  rintro e w9 ⟨rfl, rfl⟩
  go_wp2_with fail
  refine hK.out _ _ hS (fun hHeld => ?_)
  clear hK K
  (try simp only [Act.put, List.setIfInBounds_toArray, List.set_cons_zero, List.set_cons_succ])
  refine wpAnyH_ready (rs := [14]) (by kernel_rfl) (by simp) ?_
  refine AllReadyH.cons (o := ⟨some 19, _, _, _, _, _⟩) rfl (fun K hK => ?_) AllReadyH.nil
  go_simp
  go_at_call 88
  refine (cmp64_c _ _ _).mono ?_
  rintro e w9 ⟨rfl, rfl⟩
  go_wp2_with fail
  refine hK.out _ _ hS (fun hHeld => ?_)
  clear hK K
  (try simp only [Act.put, List.setIfInBounds_toArray, List.set_cons_zero, List.set_cons_succ])
  have hS3 : (fun W => W.cell? ⟨w.heap.size, 0, none⟩ = some (.int .u8 x.k) ∧ W.cell? ⟨w.heap.size, 1, none⟩ = some (.string x.s) ∧ W.cell? ⟨w.heap.size, 2, none⟩ = some (.int .i64 x.n) ∧ W.cell? ⟨w.heap.size, 3, none⟩ = some (.int .i64 x.to) ∧ W.cell? ⟨w.heap.size + 1, 0, none⟩ = some (.int .u8 y.k) ∧ W.cell? ⟨w.heap.size + 1, 1, none⟩ = some (.string y.s) ∧ W.cell? ⟨w.heap.size + 1, 2, none⟩ = some (.int .i64 y.n) ∧ W.cell? ⟨w.heap.size + 1, 3, none⟩ = some (.int .i64 y.to)) (W1.drew.alloc (.cells #[.int .i64 (cmpI x.k y.k), .int .i64 (cmpS x.s y.s), .int .i64 (cmpI x.n y.n)] 3)) := by exact ⟨(cell_below ((Below.refl _ W1.drew).alloc (Nat.le_refl _) _) hS.1 (cell_lt hS.1)), (cell_below ((Below.refl _ W1.drew).alloc (Nat.le_refl _) _) hS.2.1 (cell_lt hS.2.1)), (cell_below ((Below.refl _ W1.drew).alloc (Nat.le_refl _) _) hS.2.2.1 (cell_lt hS.2.2.1)), (cell_below ((Below.refl _ W1.drew).alloc (Nat.le_refl _) _) hS.2.2.2.1 (cell_lt hS.2.2.2.1)), (cell_below ((Below.refl _ W1.drew).alloc (Nat.le_refl _) _) hS.2.2.2.2.1 (cell_lt hS.2.2.2.2.1)), (cell_below ((Below.refl _ W1.drew).alloc (Nat.le_refl _) _) hS.2.2.2.2.2.1 (cell_lt hS.2.2.2.2.2.1)), (cell_below ((Below.refl _ W1.drew).alloc (Nat.le_refl _) _) hS.2.2.2.2.2.2.1 (cell_lt hS.2.2.2.2.2.2.1)), (cell_below ((Below.refl _ W1.drew).alloc (Nat.le_refl _) _) hS.2.2.2.2.2.2.2 (cell_lt hS.2.2.2.2.2.2.2))⟩
  refine wpAnyH_ready (rs := [15]) (by kernel_rfl) (by simp) ?_
  refine AllReadyH.cons (o := ⟨some 20, _, _, _, _, _⟩) rfl (fun K hK => ?_) AllReadyH.nil
  go_simp
  refine hK.out _ _ hS3 (fun hHeld => ?_)
  clear hK K
  (try simp only [Act.put, List.setIfInBounds_toArray, List.set_cons_zero, List.set_cons_succ])
  refine wpAnyH_ready (rs := [16]) (by kernel_rfl) (by simp) ?_
  refine AllReadyH.cons (o := ⟨some 21, _, _, _, _, _⟩) rfl (fun K hK => ?_) AllReadyH.nil
  go_simp
  go_at_call 155
  refine (Or_c [cmpI x.k y.k, cmpS x.s y.s, cmpI x.n y.n] _ _ (fun _ => True) (lit3i (heap_new W1.drew (.cells #[.int .i64 (cmpI x.k y.k), .int .i64 (cmpS x.s y.s), .int .i64 (cmpI x.n y.n)] 3)))).mono ?_
  rintro e w2 ⟨rfl, hb1⟩
  go_wp2_with fail
  refine hK.out _ _ ⟨cell_below hb1 hS3.1 (cell_lt hS3.1), cell_below hb1 hS3.2.1 (cell_lt hS3.2.1), cell_below hb1 hS3.2.2.1 (cell_lt hS3.2.2.1), cell_below hb1 hS3.2.2.2.1 (cell_lt hS3.2.2.2.1), cell_below hb1 hS3.2.2.2.2.1 (cell_lt hS3.2.2.2.2.1), cell_below hb1 hS3.2.2.2.2.2.1 (cell_lt hS3.2.2.2.2.2.1), cell_below hb1 hS3.2.2.2.2.2.2.1 (cell_lt hS3.2.2.2.2.2.2.1), cell_below hb1 hS3.2.2.2.2.2.2.2 (cell_lt hS3.2.2.2.2.2.2.2)⟩ (fun hHeld => ?_)
  clear hK K
  (try simp only [Act.put, List.setIfInBounds_toArray, List.set_cons_zero, List.set_cons_succ])
  refine wpAnyH_take (i := 17) (oi := ⟨some 4, _, _, _, _, _⟩) (v := ?_) rfl (by kernel_rfl) (by kernel_rfl) (by kernel_rfl) (fun _ _ _ h => h) (Or.inl ⟨by rfl, ?_⟩) (by assumption) ?_
  rotate_left
  · (intro w hSw; (try dsimp only at hSw); go_simp; try (with_reducible rfl))
  (try simp only [Act.put, List.setIfInBounds_toArray, List.set_cons_zero, List.set_cons_succ])
  refine wpAnyH_done (by kernel_rfl) ?_ _
  go_wp2
  go_ret
  exact ⟨rfl, below_then hb hb.size (below_then ((Below.refl _ W1).drew.alloc (Nat.le_refl _) _) (by simp) hb1)⟩
end Go.Proofs.Ytdflckjnpgbjlaa

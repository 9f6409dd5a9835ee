/- Layer 13 (arith): products, walked. Conditions: numbers of 64 bits. -/
import Derived.Test.YtdflckjnpgbjlaaY2
import Derived.Lib.Mul64
import Derived.Laws.Bits64b
import Derived.Shelf.Bits.Mul64
set_option linter.unusedVariables false
set_option maxRecDepth 20000
set_option linter.unusedSimpArgs false
namespace Go.Proofs.Ytdflckjnpgbjlaa
open Go.RowKit

theorem size_c (a : Int) (ha : in64 a) (w : World) : Calls Try.prog 158 #[.int .i64 a] w fun e w' => e = .returned (.int .u64 (a.natAbs : Int)) ∧ w' = w := by
  have HA := Lib.hid ha
  unfold in64 at ha
  rcases hda : decide (a < 0) with _ | _
  · have hw : IntKind.u64.wrap a = (a.natAbs : Int) := by
      have : ¬ a < 0 := of_decide_eq_false hda
      rw [IntKind.wrap_u64]; omega
    clear ha
    generalize (a.natAbs : Int) = n at hw ⊢
    go_enter Try.func158, Try.ntmps158
    go_wp2
    go_ret
    exact ⟨rfl, rfl⟩
  · have h0 : a < 0 := of_decide_eq_true hda
    have hw : IntKind.u64.wrap a = a + 18446744073709551616 := by rw [IntKind.wrap_u64]; omega
    have hw2 : IntKind.u64.wrap (-18446744073709551616 + -a) = (a.natAbs : Int) := by rw [IntKind.wrap_u64]; omega
    have hw3 : IntKind.u64.wrap (-(a + 18446744073709551616)) = (a.natAbs : Int) := by rw [IntKind.wrap_u64]; omega
    clear ha h0
    generalize (a.natAbs : Int) = n at hw2 hw3 ⊢
    go_enter Try.func158, Try.ntmps158
    go_wp2
    go_ret
    exact ⟨rfl, rfl⟩
set_option maxHeartbeats 4000000 in
theorem Mul64_c (x y : Nat) (hx : x < 18446744073709551616) (hy : y < 18446744073709551616) (w : World) :
    Calls Try.prog 157 #[.int .u64 x, .int .u64 y] w fun e w' => e = .returned (.tuple #[.int .u64 ((x * y / 18446744073709551616 : Nat) : Int), .int .u64 ((x * y % 18446744073709551616 : Nat) : Int)]) ∧ w' = w := by
  obtain ⟨bd, bt, bw, hhi⟩ := Lib.mul64_hi x y hx hy
  have ba := Lib.half_mul_le (a := x / 4294967296) (b := y / 4294967296) (by omega) (by omega)
  have bb := Lib.half_mul_le (a := x / 4294967296) (b := y % 4294967296) (by omega) (by omega)
  have bc := Lib.half_mul_le (a := x % 4294967296) (b := y / 4294967296) (by omega) (by omega)
  have ba' : x / 4294967296 * (y / 4294967296) < 18446744073709551616 := by omega
  have bb' : x / 4294967296 * (y % 4294967296) < 18446744073709551616 := by omega
  have bc' : x % 4294967296 * (y / 4294967296) < 18446744073709551616 := by omega
  have bh : x / 4294967296 * (y / 4294967296) + (x / 4294967296 * (y % 4294967296) + x % 4294967296 * (y % 4294967296) / 4294967296) / 4294967296 + ((x / 4294967296 * (y % 4294967296) + x % 4294967296 * (y % 4294967296) / 4294967296) % 4294967296 + x % 4294967296 * (y / 4294967296)) / 4294967296 < 18446744073709551616 := by omega
  have bh1 : x / 4294967296 * (y / 4294967296) + (x / 4294967296 * (y % 4294967296) + x % 4294967296 * (y % 4294967296) / 4294967296) / 4294967296 < 18446744073709551616 := by omega
  go_enter Try.func157, Try.ntmps157
  go_wp2
  simp only [Mul64.maskN x hx, Mul64.maskN y hy, Mul64.divN, Mul64.mulN, Mul64.addN, Mul64.wrapN _ bd, Mul64.wrapN _ bb', Mul64.wrapN _ bt, Mul64.maskN _ bt, Mul64.wrapN _ bc', Mul64.wrapN _ bw, Mul64.wrapN _ ba', Mul64.wrapN _ bh1, Mul64.wrapN _ bh, Mul64.wrapM (x * y)]
  rw [hhi]
  go_ret2
  exact ⟨rfl, rfl⟩
theorem mul_abs (a b : Int) : a * b = if decide (a < 0) = decide (b < 0) then ((a.natAbs * b.natAbs : Nat) : Int) else -((a.natAbs * b.natAbs : Nat) : Int) := by
  rw [Int.natCast_mul]
  by_cases h1 : a < 0 <;> by_cases h2 : b < 0
  · rw [if_pos (by simp [h1, h2]), show ((a.natAbs : Nat) : Int) = -a by omega, show ((b.natAbs : Nat) : Int) = -b by omega, Int.neg_mul_neg]
  · rw [if_neg (by simp [h1, h2]), show ((a.natAbs : Nat) : Int) = -a by omega, show ((b.natAbs : Nat) : Int) = b by omega, Int.neg_mul, Int.neg_neg]
  · rw [if_neg (by simp [h1, h2]), show ((a.natAbs : Nat) : Int) = a by omega, show ((b.natAbs : Nat) : Int) = -b by omega, Int.mul_neg, Int.neg_neg]
  · rw [if_pos (by simp [h1, h2]), show ((a.natAbs : Nat) : Int) = a by omega, show ((b.natAbs : Nat) : Int) = b by omega]
/-- A number out of its sign and its size. -/
def signR (m : Bool) (P : Nat) : Rk := fitR (if m then -(P : Int) else (P : Int))
theorem mulR_sign (a b : Int) : mulR a b = signR (decide (a < 0) != decide (b < 0)) (a.natAbs * b.natAbs) := by
  unfold mulR signR
  rw [mul_abs]
  congr 1
  cases decide (a < 0) <;> cases decide (b < 0) <;> simp
theorem signR_ok {m : Bool} {P : Nat} (h : P / 18446744073709551616 = 0) (h2 : P % 18446744073709551616 < 9223372036854775808 ∨ P % 18446744073709551616 = 9223372036854775808 ∧ m = true) : signR m P = .ok (if m then -((P % 18446744073709551616 : Nat) : Int) else ((P % 18446744073709551616 : Nat) : Int)) := by
  unfold signR
  rw [show P % 18446744073709551616 = P by omega] at h2 ⊢
  rw [fitR_in]
  unfold in64
  cases m with
  | true => simp; omega
  | false => simp at h2 ⊢; omega
theorem signR_er {m : Bool} {P : Nat} (h : P / 18446744073709551616 ≠ 0 ∨ 9223372036854775808 < P % 18446744073709551616 ∨ P % 18446744073709551616 = 9223372036854775808 ∧ m = false) : signR m P = .er 22 := by
  unfold signR
  rw [fitR_out]
  unfold in64
  cases m with
  | true => simp at h ⊢; omega
  | false => simp at h ⊢; omega
set_option maxHeartbeats 8000000 in
theorem mul_c (a b : Int) (ha : in64 a) (hb : in64 b) (w : World) : Calls Try.prog 147 #[.int .i64 a, .int .i64 b] w (RPost w.heap.size (mulR a b) w) := by
  have h1 : a.natAbs < 18446744073709551616 := by unfold in64 at ha; omega
  have h2 : b.natAbs < 18446744073709551616 := by unfold in64 at hb; omega
  have HS1 := Lib.hid (size_c a ha)
  have HS2 := Lib.hid (size_c b hb)
  have HM := Lib.hid (Mul64_c a.natAbs b.natAbs h1 h2)
  rw [mulR_sign]
  have HO : Hid (∀ n, signR (decide (a < 0) != decide (b < 0)) (a.natAbs * b.natAbs) = n ↔ signR (decide (a < 0) != decide (b < 0)) (a.natAbs * b.natAbs) = n) := Lib.hid (fun _ => Iff.rfl)
  clear HO ha hb h1 h2
  generalize a.natAbs = x at HS1 HM ⊢
  generalize b.natAbs = y at HS2 HM ⊢
  have HOK : Hid (∀ m, x * y / 18446744073709551616 = 0 → (x * y % 18446744073709551616 < 9223372036854775808 ∨ x * y % 18446744073709551616 = 9223372036854775808 ∧ m = true) → signR m (x * y) = .ok (if m then -((x * y % 18446744073709551616 : Nat) : Int) else ((x * y % 18446744073709551616 : Nat) : Int))) := Lib.hid (fun m => signR_ok)
  have HER : Hid (∀ m, (x * y / 18446744073709551616 ≠ 0 ∨ 9223372036854775808 < x * y % 18446744073709551616 ∨ x * y % 18446744073709551616 = 9223372036854775808 ∧ m = false) → signR m (x * y) = .er 22) := Lib.hid (fun m => signR_er)
  have hlo : x * y % 18446744073709551616 < 18446744073709551616 := Nat.mod_lt _ (by omega)
  generalize x * y / 18446744073709551616 = hi at HM HOK HER
  generalize x * y % 18446744073709551616 = lo at HM HOK HER hlo
  rcases hda : decide (a < 0) with _ | _ <;> rcases hdb : decide (b < 0) with _ | _
  all_goals
    (try rw [show (false != false) = false from rfl])
    (try rw [show (false != true) = true from rfl])
    (try rw [show (true != false) = true from rfl])
    (try rw [show (true != true) = false from rfl])
    by_cases c1 : hi = 0
    · have k1 : ((hi : Int) != 0) = false := by simp [c1]
      by_cases c2 : 9223372036854775808 < lo
      · have k2 : decide ((9223372036854775808 : Int) < lo) = true := by simp; omega
        rw [HER.out _ (.inr (.inl c2))]
        clear c1 c2 hlo HOK HER
        go_enter Try.func147, Try.ntmps147
        go_wp2_with (first | (go_at_call_has 158 (Value.int .i64 a); refine (HS1.out _).mono ?_; rintro e w1 ⟨rfl, rfl⟩) | (go_at_call_has 158 (Value.int .i64 b); refine (HS2.out _).mono ?_; rintro e w1 ⟨rfl, rfl⟩) | (go_at_call 157; refine (HM.out _).mono ?_; rintro e w1 ⟨rfl, rfl⟩) | (go_at_call_has 127 (Value.bool false); refine (check_no _ _).mono ?_; rintro e w1 ⟨rfl, rfl⟩) | (go_at_call_has 127 (Value.bool true); refine (check_yes _ _).mono ?_; rintro e w1 ⟨rfl, rfl⟩))
        exact ⟨rfl, RPost.er rfl (Below.refl _ _)⟩
      · have k2 : decide ((9223372036854775808 : Int) < lo) = false := by simp; omega
        by_cases c3 : lo = 9223372036854775808
        · have k3 : ((lo : Int) == 9223372036854775808) = true := by simp [c3]
          first
            | (rw [HER.out false (.inr (.inr ⟨c3, rfl⟩))]
               clear c1 c2 c3 hlo HOK HER
               go_enter Try.func147, Try.ntmps147
               go_wp2_with (first | (go_at_call_has 158 (Value.int .i64 a); refine (HS1.out _).mono ?_; rintro e w1 ⟨rfl, rfl⟩) | (go_at_call_has 158 (Value.int .i64 b); refine (HS2.out _).mono ?_; rintro e w1 ⟨rfl, rfl⟩) | (go_at_call 157; refine (HM.out _).mono ?_; rintro e w1 ⟨rfl, rfl⟩) | (go_at_call_has 127 (Value.bool false); refine (check_no _ _).mono ?_; rintro e w1 ⟨rfl, rfl⟩) | (go_at_call_has 127 (Value.bool true); refine (check_yes _ _).mono ?_; rintro e w1 ⟨rfl, rfl⟩))
               exact ⟨rfl, RPost.er rfl (Below.refl _ _)⟩)
            | (rw [HOK.out true c1 (.inr ⟨c3, rfl⟩), if_pos rfl]
               have w1 : wrap64 (lo : Int) = -9223372036854775808 := (by unfold wrap64; omega)
               have HL : Hid (-(lo : Int) = -9223372036854775808) := Lib.hid (by omega)
               have HW : Hid (wrap64 9223372036854775808 = -9223372036854775808) := Lib.hid (by unfold wrap64; omega)
               clear c1 c2 c3 hlo HOK HER
               go_enter Try.func147, Try.ntmps147
               go_wp2_with (first | (go_at_call_has 158 (Value.int .i64 a); refine (HS1.out _).mono ?_; rintro e w1 ⟨rfl, rfl⟩) | (go_at_call_has 158 (Value.int .i64 b); refine (HS2.out _).mono ?_; rintro e w1 ⟨rfl, rfl⟩) | (go_at_call 157; refine (HM.out _).mono ?_; rintro e w1 ⟨rfl, rfl⟩) | (go_at_call_has 127 (Value.bool false); refine (check_no _ _).mono ?_; rintro e w1 ⟨rfl, rfl⟩) | (go_at_call_has 127 (Value.bool true); refine (check_yes _ _).mono ?_; rintro e w1 ⟨rfl, rfl⟩))
               go_ret
               exact RPost.ok (by rw [HL.out, HW.out]) (Below.refl _ _))
        · have k3 : ((lo : Int) == 9223372036854775808) = false := by simp; omega
          have HW1 : Hid (wrap64 (lo : Int) = (lo : Int)) := Lib.hid (by unfold wrap64; omega)
          have HW2 : Hid (wrap64 (-(lo : Int)) = -(lo : Int)) := Lib.hid (by unfold wrap64; omega)
          have HW3 : Hid (wrap64 (-wrap64 (lo : Int)) = -(lo : Int)) := Lib.hid (by rw [HW1.out, HW2.out])
          rw [HOK.out _ c1 (.inl (by omega))]
          simp only [if_true, if_false, Bool.false_eq_true]
          clear c1 c2 c3 hlo HOK HER
          go_enter Try.func147, Try.ntmps147
          go_wp2_with (first | (go_at_call_has 158 (Value.int .i64 a); refine (HS1.out _).mono ?_; rintro e w1 ⟨rfl, rfl⟩) | (go_at_call_has 158 (Value.int .i64 b); refine (HS2.out _).mono ?_; rintro e w1 ⟨rfl, rfl⟩) | (go_at_call 157; refine (HM.out _).mono ?_; rintro e w1 ⟨rfl, rfl⟩) | (go_at_call_has 127 (Value.bool false); refine (check_no _ _).mono ?_; rintro e w1 ⟨rfl, rfl⟩) | (go_at_call_has 127 (Value.bool true); refine (check_yes _ _).mono ?_; rintro e w1 ⟨rfl, rfl⟩))
          go_ret
          exact RPost.ok (by first | (rw [HW3.out]; done) | (rw [HW2.out]; done) | (rw [HW1.out]; done)) (Below.refl _ _)
    · have k1 : ((hi : Int) != 0) = true := by simp; omega
      rw [HER.out _ (.inl c1)]
      clear c1 hlo HOK HER
      go_enter Try.func147, Try.ntmps147
      go_wp2_with (first | (go_at_call_has 158 (Value.int .i64 a); refine (HS1.out _).mono ?_; rintro e w1 ⟨rfl, rfl⟩) | (go_at_call_has 158 (Value.int .i64 b); refine (HS2.out _).mono ?_; rintro e w1 ⟨rfl, rfl⟩) | (go_at_call 157; refine (HM.out _).mono ?_; rintro e w1 ⟨rfl, rfl⟩) | (go_at_call_has 127 (Value.bool false); refine (check_no _ _).mono ?_; rintro e w1 ⟨rfl, rfl⟩) | (go_at_call_has 127 (Value.bool true); refine (check_yes _ _).mono ?_; rintro e w1 ⟨rfl, rfl⟩))
      exact ⟨rfl, RPost.er rfl (Below.refl _ _)⟩
end Go.Proofs.Ytdflckjnpgbjlaa

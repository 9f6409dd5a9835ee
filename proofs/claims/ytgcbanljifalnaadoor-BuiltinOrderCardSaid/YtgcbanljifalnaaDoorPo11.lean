import Derived.Test.YtgcbanljifalnaaDoorPo10
import Derived.Lib.Mul64
import Derived.Laws.Bits64b
import Derived.Shelf.Bits.Mul64
import Derived.Test.YtgcbanljifalnaaDoorProg
import Derived.WalkKit
import Derived.DeepKeys5
import Derived.StringKeys
import Derived.MapKept
import Derived.Maps.Keyed
import Derived.Laws.NewBlocks
set_option linter.unusedVariables false
set_option maxRecDepth 20000
set_option linter.unusedSimpArgs false
/- Layer 13 (arith): the operators, walked. Conditions: numbers of 64 bits. -/
namespace Go.Proofs.YtgcbanljifalnaaDoor
open Go.RowKit

/-- An error, thrown. -/
abbrev wrongEnd (e : Int) : Ending := .panicked [{ v := .iface 135 (.agg #[.int .i64 e]), recovered := false }]
theorem check_no (e : Int) (w : World) : Calls Tryd.prog 132 #[.bool false, .int .i64 e] w fun r w' => r = .returned (.tuple #[]) ∧ w' = w := by
  go_enter Tryd.func132, Tryd.ntmps132
  go_wp2
  go_end0
  exact ⟨rfl, rfl⟩
theorem check_yes (e : Int) (w : World) : Calls Tryd.prog 132 #[.bool true, .int .i64 e] w fun r w' => r = wrongEnd e ∧ w' = w := by
  go_enter Tryd.func132, Tryd.ntmps132
  go_wp2
  exact ⟨rfl, rfl, rfl⟩
/-- What an operator leaves behind. -/
def RPost (N : Nat) (r : Rk) (w : World) (e : Ending) (w' : World) : Prop :=
  (match r with
   | .ok n => e = .returned (.int .i64 n)
   | .er c => e = wrongEnd c) ∧ Below N w w'
theorem RPost.ok {N : Nat} {r : Rk} {n : Int} {w w' : World} (h : r = .ok n) (hb : Below N w w') : RPost N r w (.returned (.int .i64 n)) w' := by subst h; exact ⟨rfl, hb⟩
theorem RPost.er {N : Nat} {r : Rk} {c : Int} {w w' : World} (h : r = .er c) (hb : Below N w w') : RPost N r w (wrongEnd c) w' := by subst h; exact ⟨rfl, hb⟩
set_option maxHeartbeats 4000000 in
theorem add_c (a b : Int) (ha : in64 a) (hb : in64 b) (w : World) : Calls Tryd.prog 143 #[.int .i64 a, .int .i64 b] w (RPost w.heap.size (addR a b) w) := by
  obtain ⟨s, hs⟩ : ∃ s, wrap64 (a + b) = s := ⟨_, rfl⟩
  have HS : Hid (wrap64 (a + b) = s) := Lib.hid hs
  have HA := Lib.hid (And.intro ha hb)
  clear ha hb
  obtain ⟨R, HR⟩ : ∃ R, Hid (R = addR a b) := ⟨_, Lib.hid rfl⟩
  rw [← HR.out]
  rcases hda : decide (a < 0) with _ | _ <;> rcases hdb : decide (b < 0) with _ | _ <;> rcases hds : decide (s < 0) with _ | _
  all_goals
    go_enter Tryd.func143, Tryd.ntmps143
    go_wp2_with (first | (go_at_call_has 132 (Value.bool false); refine (check_no _ _).mono ?_; rintro e w1 ⟨rfl, rfl⟩) | (go_at_call_has 132 (Value.bool true); refine (check_yes _ _).mono ?_; rintro e w1 ⟨rfl, rfl⟩))
    (have h1 := HA.out; have h2 := HS.out; unfold in64 at h1; unfold wrap64 at h2; simp only [decide_eq_false_iff_not, decide_eq_true_eq] at hda hdb hds)
    first
      | (go_ret; exact RPost.ok (HR.out.trans (by unfold addR; rw [fitR_in (by unfold in64; omega)]; congr 1; omega)) (Below.refl _ _))
      | (exact ⟨rfl, RPost.er (HR.out.trans (by unfold addR; rw [fitR_out (by unfold in64; omega)])) (Below.refl _ _)⟩)
set_option maxHeartbeats 4000000 in
theorem sub_c (a b : Int) (ha : in64 a) (hb : in64 b) (w : World) : Calls Tryd.prog 144 #[.int .i64 a, .int .i64 b] w (RPost w.heap.size (subR a b) w) := by
  obtain ⟨s, hs⟩ : ∃ s, wrap64 (a - b) = s := ⟨_, rfl⟩
  have HS : Hid (wrap64 (a - b) = s) := Lib.hid hs
  have HA := Lib.hid (And.intro ha hb)
  clear ha hb
  obtain ⟨R, HR⟩ : ∃ R, Hid (R = subR a b) := ⟨_, Lib.hid rfl⟩
  rw [← HR.out]
  rcases hda : decide (a < 0) with _ | _ <;> rcases hdb : decide (b < 0) with _ | _ <;> rcases hds : decide (s < 0) with _ | _
  all_goals
    go_enter Tryd.func144, Tryd.ntmps144
    go_wp2_with (first | (go_at_call_has 132 (Value.bool false); refine (check_no _ _).mono ?_; rintro e w1 ⟨rfl, rfl⟩) | (go_at_call_has 132 (Value.bool true); refine (check_yes _ _).mono ?_; rintro e w1 ⟨rfl, rfl⟩))
    (have h1 := HA.out; have h2 := HS.out; unfold in64 at h1; unfold wrap64 at h2; simp only [decide_eq_false_iff_not, decide_eq_true_eq] at hda hdb hds)
    first
      | (go_ret; exact RPost.ok (HR.out.trans (by unfold subR; rw [fitR_in (by unfold in64; omega)]; congr 1; omega)) (Below.refl _ _))
      | (exact ⟨rfl, RPost.er (HR.out.trans (by unfold subR; rw [fitR_out (by unfold in64; omega)])) (Below.refl _ _)⟩)
set_option maxHeartbeats 4000000 in
theorem neg_c (a : Int) (ha : in64 a) (w : World) : Calls Tryd.prog 133 #[.int .i64 a] w (RPost w.heap.size (subR 0 a) w) := by
  have HA := Lib.hid ha
  clear ha
  obtain ⟨R, HR⟩ : ∃ R, Hid (R = subR 0 a) := ⟨_, Lib.hid rfl⟩
  rw [← HR.out]
  by_cases h0 : a = -9223372036854775808
  · subst h0
    go_enter Tryd.func133, Tryd.ntmps133
    go_wp2_with (first | (go_at_call_has 132 (Value.bool false); refine (check_no _ _).mono ?_; rintro e w1 ⟨rfl, rfl⟩) | (go_at_call_has 132 (Value.bool true); refine (check_yes _ _).mono ?_; rintro e w1 ⟨rfl, rfl⟩))
    exact ⟨rfl, RPost.er (HR.out.trans (by unfold subR; rw [fitR_out (by unfold in64; omega)])) (Below.refl _ _)⟩
  · have hq : (a == -9223372036854775808) = false := by simpa using h0
    have hn : wrap64 (-a) = -a := by have := HA.out; unfold in64 at this; unfold wrap64; omega
    go_enter Tryd.func133, Tryd.ntmps133
    go_wp2_with (first | (go_at_call_has 132 (Value.bool false); refine (check_no _ _).mono ?_; rintro e w1 ⟨rfl, rfl⟩) | (go_at_call_has 132 (Value.bool true); refine (check_yes _ _).mono ?_; rintro e w1 ⟨rfl, rfl⟩))
    go_ret
    exact RPost.ok (HR.out.trans (by have := HA.out; unfold in64 at this; unfold subR; rw [fitR_in (by unfold in64; omega)]; congr 1; omega)) (Below.refl _ _)
set_option maxHeartbeats 4000000 in
theorem div_c (a b : Int) (ha : in64 a) (hb : in64 b) (w : World) : Calls Tryd.prog 146 #[.int .i64 a, .int .i64 b] w (RPost w.heap.size (divR a b) w) := by
  obtain ⟨R, HR⟩ : ∃ R, Hid (R = divR a b) := ⟨_, Lib.hid rfl⟩
  rw [← HR.out]
  by_cases h0 : b = 0
  · subst h0
    go_enter Tryd.func146, Tryd.ntmps146
    go_wp2_with (first | (go_at_call_has 132 (Value.bool false); refine (check_no _ _).mono ?_; rintro e w1 ⟨rfl, rfl⟩) | (go_at_call_has 132 (Value.bool true); refine (check_yes _ _).mono ?_; rintro e w1 ⟨rfl, rfl⟩))
    exact ⟨rfl, RPost.er (HR.out.trans (by unfold divR; rw [if_pos rfl])) (Below.refl _ _)⟩
  · have hq : (b == 0) = false := by simpa using h0
    by_cases h1 : a = -9223372036854775808 ∧ b = -1
    · obtain ⟨rfl, rfl⟩ := h1
      go_enter Tryd.func146, Tryd.ntmps146
      go_wp2_with (first | (go_at_call_has 132 (Value.bool false); refine (check_no _ _).mono ?_; rintro e w1 ⟨rfl, rfl⟩) | (go_at_call_has 132 (Value.bool true); refine (check_yes _ _).mono ?_; rintro e w1 ⟨rfl, rfl⟩))
      exact ⟨rfl, RPost.er (HR.out.trans (by unfold divR; rw [if_neg (by decide), tdiv_min, fitR_out (by unfold in64; omega)])) (Below.refl _ _)⟩
    · have hi := tdiv_in ha h1
      have hw : wrap64 (a.tdiv b) = a.tdiv b := by unfold in64 at hi; unfold wrap64; omega
      have HR2 : Hid (R = .ok (a.tdiv b)) := Lib.hid (HR.out.trans (by unfold divR; rw [if_neg h0, fitR_in hi]))
      rcases h2 : (a == -9223372036854775808) with _ | _
      · clear h1 ha hb hi HR
        go_enter Tryd.func146, Tryd.ntmps146
        go_wp2_with (first | (go_at_call_has 132 (Value.bool false); refine (check_no _ _).mono ?_; rintro e w1 ⟨rfl, rfl⟩) | (go_at_call_has 132 (Value.bool true); refine (check_yes _ _).mono ?_; rintro e w1 ⟨rfl, rfl⟩))
        go_ret
        exact RPost.ok (by rw [hw]; exact HR2.out) (Below.refl _ _)
      · have h3 : (b == -1) = false := by simp; exact fun e => h1 ⟨by simpa using h2, e⟩
        clear h1 ha hb hi HR
        go_enter Tryd.func146, Tryd.ntmps146
        go_wp2_with (first | (go_at_call_has 132 (Value.bool false); refine (check_no _ _).mono ?_; rintro e w1 ⟨rfl, rfl⟩) | (go_at_call_has 132 (Value.bool true); refine (check_yes _ _).mono ?_; rintro e w1 ⟨rfl, rfl⟩))
        go_ret
        exact RPost.ok (by rw [hw]; exact HR2.out) (Below.refl _ _)
set_option maxHeartbeats 4000000 in
theorem rem_c (a b : Int) (ha : in64 a) (hb : in64 b) (w : World) : Calls Tryd.prog 147 #[.int .i64 a, .int .i64 b] w (RPost w.heap.size (remR a b) w) := by
  obtain ⟨R, HR⟩ : ∃ R, Hid (R = remR a b) := ⟨_, Lib.hid rfl⟩
  rw [← HR.out]
  by_cases h0 : b = 0
  · subst h0
    go_enter Tryd.func147, Tryd.ntmps147
    go_wp2_with (first | (go_at_call_has 132 (Value.bool false); refine (check_no _ _).mono ?_; rintro e w1 ⟨rfl, rfl⟩) | (go_at_call_has 132 (Value.bool true); refine (check_yes _ _).mono ?_; rintro e w1 ⟨rfl, rfl⟩))
    exact ⟨rfl, RPost.er (HR.out.trans (by unfold remR; rw [if_pos rfl])) (Below.refl _ _)⟩
  · have hq : (b == 0) = false := by simpa using h0
    have HR2 : Hid (R = .ok (a.tmod b)) := Lib.hid (HR.out.trans (by unfold remR; rw [if_neg h0]))
    rcases h2 : (b == -1) with _ | _
    · have hi := tmod_in (a := a) hb h0
      have hw : wrap64 (a.tmod b) = a.tmod b := by unfold in64 at hi; unfold wrap64; omega
      clear ha hb hi HR
      go_enter Tryd.func147, Tryd.ntmps147
      go_wp2_with (first | (go_at_call_has 132 (Value.bool false); refine (check_no _ _).mono ?_; rintro e w1 ⟨rfl, rfl⟩) | (go_at_call_has 132 (Value.bool true); refine (check_yes _ _).mono ?_; rintro e w1 ⟨rfl, rfl⟩))
      go_ret
      exact RPost.ok (by first | exact HR2.out | (rw [hw]; exact HR2.out)) (Below.refl _ _)
    · have HB : Hid (b = -1) := Lib.hid (by simpa using h2)
      clear ha hb HR
      go_enter Tryd.func147, Tryd.ntmps147
      go_wp2_with (first | (go_at_call_has 132 (Value.bool false); refine (check_no _ _).mono ?_; rintro e w1 ⟨rfl, rfl⟩) | (go_at_call_has 132 (Value.bool true); refine (check_yes _ _).mono ?_; rintro e w1 ⟨rfl, rfl⟩))
      go_ret
      exact RPost.ok (HR2.out.trans (by rw [HB.out, tmod_neg1])) (Below.refl _ _)
set_option maxHeartbeats 4000000 in
theorem mod_c (a b : Int) (ha : in64 a) (hb : in64 b) (w : World) : Calls Tryd.prog 148 #[.int .i64 a, .int .i64 b] w (RPost w.heap.size (modR a b) w) := by
  have HREM := Lib.hid (rem_c a b ha hb w)
  obtain ⟨R, HR⟩ : ∃ R, Hid (R = modR a b) := ⟨_, Lib.hid rfl⟩
  rw [← HR.out]
  by_cases h0 : b = 0
  · subst h0
    rw [show remR a 0 = .er 23 from rfl] at HREM
    clear ha hb
    go_enter Tryd.func148, Tryd.ntmps148
    go_wp2_with (go_at_call 147; refine HREM.out.mono ?_; clear HREM; rintro e w1 ⟨he, hb1⟩; replace he : e = wrongEnd 23 := he; subst he)
    exact ⟨rfl, RPost.er (HR.out.trans (by unfold modR; rw [if_pos rfl])) hb1⟩
  · have hi := modI_in ha hb h0
    have HR2 : Hid (R = .ok (modI a b)) := Lib.hid (HR.out.trans (by unfold modR; rw [if_neg h0]))
    rw [show remR a b = .ok (a.tmod b) from if_neg h0] at HREM
    have HM : Hid (modI a b = if a.tmod b ≠ 0 ∧ decide (a.tmod b < 0) ≠ decide (b < 0) then a.tmod b + b else a.tmod b) := Lib.hid rfl
    have HI := Lib.hid hi
    clear ha hb HR hi
    generalize a.tmod b = m at HREM HM
    by_cases hz : m = 0
    · subst hz
      go_enter Tryd.func148, Tryd.ntmps148
      go_wp2_with (go_at_call 147; refine HREM.out.mono ?_; clear HREM; rintro e w1 ⟨he, hb2⟩; replace he : e = .returned (.int .i64 0) := he; subst he)
      go_ret
      exact RPost.ok (HR2.out.trans (by rw [HM.out]; simp)) hb2
    · have hm0 : (m == 0) = false := by simpa using hz
      have HZ := Lib.hid hz
      clear hz
      rcases hm1 : decide (m < 0) with _ | _ <;> rcases hb1 : decide (b < 0) with _ | _
      all_goals
        have hw : (m ≠ 0 ∧ decide (m < 0) ≠ decide (b < 0)) → wrap64 (m + b) = m + b := fun hc => by
          have h1 := HI.out
          rw [HM.out, if_pos hc] at h1
          unfold in64 at h1
          unfold wrap64; omega
        have HW := Lib.hid hw
        have HC := Lib.hid (And.intro hm1 hb1)
        clear hw
        go_enter Tryd.func148, Tryd.ntmps148
        go_wp2_with (go_at_call 147; refine HREM.out.mono ?_; clear HREM; rintro e w1 ⟨he, hb2⟩; replace he : e = .returned (.int .i64 m) := he; subst he)
        go_ret
        refine RPost.ok (HR2.out.trans ?_) hb2
        obtain ⟨hm1', hb1'⟩ := HC.out
        first
          | (have hc : ¬ (m ≠ 0 ∧ decide (m < 0) ≠ decide (b < 0)) := (by rw [hm1', hb1']; rintro ⟨_, h⟩; exact h rfl)
             rw [HM.out, if_neg hc])
          | (have hc : (m ≠ 0 ∧ decide (m < 0) ≠ decide (b < 0)) := ⟨HZ.out, (by rw [hm1', hb1']; intro h; cases h)⟩
             rw [HM.out, if_pos hc, HW.out hc])
end Go.Proofs.YtgcbanljifalnaaDoor
/- Layer 13 (arith): products, walked. Conditions: numbers of 64 bits. -/
namespace Go.Proofs.YtgcbanljifalnaaDoor
open Go.RowKit

theorem size_c (a : Int) (ha : in64 a) (w : World) : Calls Tryd.prog 155 #[.int .i64 a] w fun e w' => e = .returned (.int .u64 (a.natAbs : Int)) ∧ w' = w := by
  have HA := Lib.hid ha
  unfold in64 at ha
  rcases hda : decide (a < 0) with _ | _
  · have hw : IntKind.u64.wrap a = (a.natAbs : Int) := by
      have : ¬ a < 0 := of_decide_eq_false hda
      rw [IntKind.wrap_u64]; omega
    clear ha
    generalize (a.natAbs : Int) = n at hw ⊢
    go_enter Tryd.func155, Tryd.ntmps155
    go_wp2
    go_ret
    exact ⟨rfl, rfl⟩
  · have h0 : a < 0 := of_decide_eq_true hda
    have hw : IntKind.u64.wrap a = a + 18446744073709551616 := by rw [IntKind.wrap_u64]; omega
    have hw2 : IntKind.u64.wrap (-18446744073709551616 + -a) = (a.natAbs : Int) := by rw [IntKind.wrap_u64]; omega
    have hw3 : IntKind.u64.wrap (-(a + 18446744073709551616)) = (a.natAbs : Int) := by rw [IntKind.wrap_u64]; omega
    clear ha h0
    generalize (a.natAbs : Int) = n at hw2 hw3 ⊢
    go_enter Tryd.func155, Tryd.ntmps155
    go_wp2
    go_ret
    exact ⟨rfl, rfl⟩
set_option maxHeartbeats 4000000 in
theorem Mul64_c (x y : Nat) (hx : x < 18446744073709551616) (hy : y < 18446744073709551616) (w : World) :
    Calls Tryd.prog 154 #[.int .u64 x, .int .u64 y] w fun e w' => e = .returned (.tuple #[.int .u64 ((x * y / 18446744073709551616 : Nat) : Int), .int .u64 ((x * y % 18446744073709551616 : Nat) : Int)]) ∧ w' = w := by
  obtain ⟨bd, bt, bw, hhi⟩ := Lib.mul64_hi x y hx hy
  have ba := Lib.half_mul_le (a := x / 4294967296) (b := y / 4294967296) (by omega) (by omega)
  have bb := Lib.half_mul_le (a := x / 4294967296) (b := y % 4294967296) (by omega) (by omega)
  have bc := Lib.half_mul_le (a := x % 4294967296) (b := y / 4294967296) (by omega) (by omega)
  have ba' : x / 4294967296 * (y / 4294967296) < 18446744073709551616 := by omega
  have bb' : x / 4294967296 * (y % 4294967296) < 18446744073709551616 := by omega
  have bc' : x % 4294967296 * (y / 4294967296) < 18446744073709551616 := by omega
  have bh : x / 4294967296 * (y / 4294967296) + (x / 4294967296 * (y % 4294967296) + x % 4294967296 * (y % 4294967296) / 4294967296) / 4294967296 + ((x / 4294967296 * (y % 4294967296) + x % 4294967296 * (y % 4294967296) / 4294967296) % 4294967296 + x % 4294967296 * (y / 4294967296)) / 4294967296 < 18446744073709551616 := by omega
  have bh1 : x / 4294967296 * (y / 4294967296) + (x / 4294967296 * (y % 4294967296) + x % 4294967296 * (y % 4294967296) / 4294967296) / 4294967296 < 18446744073709551616 := by omega
  go_enter Tryd.func154, Tryd.ntmps154
  go_wp2
  simp only [Mul64.maskN x hx, Mul64.maskN y hy, Mul64.divN, Mul64.mulN, Mul64.addN, Mul64.wrapN _ bd, Mul64.wrapN _ bb', Mul64.wrapN _ bt, Mul64.maskN _ bt, Mul64.wrapN _ bc', Mul64.wrapN _ bw, Mul64.wrapN _ ba', Mul64.wrapN _ bh1, Mul64.wrapN _ bh, Mul64.wrapM (x * y)]
  rw [hhi]
  go_ret2
  exact ⟨rfl, rfl⟩
theorem mul_abs (a b : Int) : a * b = if decide (a < 0) = decide (b < 0) then ((a.natAbs * b.natAbs : Nat) : Int) else -((a.natAbs * b.natAbs : Nat) : Int) := by
  rw [Int.natCast_mul]
  by_cases h1 : a < 0 <;> by_cases h2 : b < 0
  · rw [if_pos (by simp [h1, h2]), show ((a.natAbs : Nat) : Int) = -a by omega, show ((b.natAbs : Nat) : Int) = -b by omega, Int.neg_mul_neg]
  · rw [if_neg (by simp [h1, h2]), show ((a.natAbs : Nat) : Int) = -a by omega, show ((b.natAbs : Nat) : Int) = b by omega, Int.neg_mul, Int.neg_neg]
  · rw [if_neg (by simp [h1, h2]), show ((a.natAbs : Nat) : Int) = a by omega, show ((b.natAbs : Nat) : Int) = -b by omega, Int.mul_neg, Int.neg_neg]
  · rw [if_pos (by simp [h1, h2]), show ((a.natAbs : Nat) : Int) = a by omega, show ((b.natAbs : Nat) : Int) = b by omega]
/-- A number out of its sign and its size. -/
def signR (m : Bool) (P : Nat) : Rk := fitR (if m then -(P : Int) else (P : Int))
theorem mulR_sign (a b : Int) : mulR a b = signR (decide (a < 0) != decide (b < 0)) (a.natAbs * b.natAbs) := by
  unfold mulR signR
  rw [mul_abs]
  congr 1
  cases decide (a < 0) <;> cases decide (b < 0) <;> simp
theorem signR_ok {m : Bool} {P : Nat} (h : P / 18446744073709551616 = 0) (h2 : P % 18446744073709551616 < 9223372036854775808 ∨ P % 18446744073709551616 = 9223372036854775808 ∧ m = true) : signR m P = .ok (if m then -((P % 18446744073709551616 : Nat) : Int) else ((P % 18446744073709551616 : Nat) : Int)) := by
  unfold signR
  rw [show P % 18446744073709551616 = P by omega] at h2 ⊢
  rw [fitR_in]
  unfold in64
  cases m with
  | true => simp; omega
  | false => simp at h2 ⊢; omega
theorem signR_er {m : Bool} {P : Nat} (h : P / 18446744073709551616 ≠ 0 ∨ 9223372036854775808 < P % 18446744073709551616 ∨ P % 18446744073709551616 = 9223372036854775808 ∧ m = false) : signR m P = .er 22 := by
  unfold signR
  rw [fitR_out]
  unfold in64
  cases m with
  | true => simp at h ⊢; omega
  | false => simp at h ⊢; omega
set_option maxHeartbeats 8000000 in
theorem mul_c (a b : Int) (ha : in64 a) (hb : in64 b) (w : World) : Calls Tryd.prog 145 #[.int .i64 a, .int .i64 b] w (RPost w.heap.size (mulR a b) w) := by
  have h1 : a.natAbs < 18446744073709551616 := by unfold in64 at ha; omega
  have h2 : b.natAbs < 18446744073709551616 := by unfold in64 at hb; omega
  have HS1 := Lib.hid (size_c a ha)
  have HS2 := Lib.hid (size_c b hb)
  have HM := Lib.hid (Mul64_c a.natAbs b.natAbs h1 h2)
  rw [mulR_sign]
  have HO : Hid (∀ n, signR (decide (a < 0) != decide (b < 0)) (a.natAbs * b.natAbs) = n ↔ signR (decide (a < 0) != decide (b < 0)) (a.natAbs * b.natAbs) = n) := Lib.hid (fun _ => Iff.rfl)
  clear HO ha hb h1 h2
  generalize a.natAbs = x at HS1 HM ⊢
  generalize b.natAbs = y at HS2 HM ⊢
  have HOK : Hid (∀ m, x * y / 18446744073709551616 = 0 → (x * y % 18446744073709551616 < 9223372036854775808 ∨ x * y % 18446744073709551616 = 9223372036854775808 ∧ m = true) → signR m (x * y) = .ok (if m then -((x * y % 18446744073709551616 : Nat) : Int) else ((x * y % 18446744073709551616 : Nat) : Int))) := Lib.hid (fun m => signR_ok)
  have HER : Hid (∀ m, (x * y / 18446744073709551616 ≠ 0 ∨ 9223372036854775808 < x * y % 18446744073709551616 ∨ x * y % 18446744073709551616 = 9223372036854775808 ∧ m = false) → signR m (x * y) = .er 22) := Lib.hid (fun m => signR_er)
  have hlo : x * y % 18446744073709551616 < 18446744073709551616 := Nat.mod_lt _ (by omega)
  generalize x * y / 18446744073709551616 = hi at HM HOK HER
  generalize x * y % 18446744073709551616 = lo at HM HOK HER hlo
  rcases hda : decide (a < 0) with _ | _ <;> rcases hdb : decide (b < 0) with _ | _
  all_goals
    (try rw [show (false != false) = false from rfl])
    (try rw [show (false != true) = true from rfl])
    (try rw [show (true != false) = true from rfl])
    (try rw [show (true != true) = false from rfl])
    by_cases c1 : hi = 0
    · have k1 : ((hi : Int) != 0) = false := by simp [c1]
      by_cases c2 : 9223372036854775808 < lo
      · have k2 : decide ((9223372036854775808 : Int) < lo) = true := by simp; omega
        rw [HER.out _ (.inr (.inl c2))]
        clear c1 c2 hlo HOK HER
        go_enter Tryd.func145, Tryd.ntmps145
        go_wp2_with (first | (go_at_call_has 155 (Value.int .i64 a); refine (HS1.out _).mono ?_; rintro e w1 ⟨rfl, rfl⟩) | (go_at_call_has 155 (Value.int .i64 b); refine (HS2.out _).mono ?_; rintro e w1 ⟨rfl, rfl⟩) | (go_at_call 154; refine (HM.out _).mono ?_; rintro e w1 ⟨rfl, rfl⟩) | (go_at_call_has 132 (Value.bool false); refine (check_no _ _).mono ?_; rintro e w1 ⟨rfl, rfl⟩) | (go_at_call_has 132 (Value.bool true); refine (check_yes _ _).mono ?_; rintro e w1 ⟨rfl, rfl⟩))
        exact ⟨rfl, RPost.er rfl (Below.refl _ _)⟩
      · have k2 : decide ((9223372036854775808 : Int) < lo) = false := by simp; omega
        by_cases c3 : lo = 9223372036854775808
        · have k3 : ((lo : Int) == 9223372036854775808) = true := by simp [c3]
          first
            | (rw [HER.out false (.inr (.inr ⟨c3, rfl⟩))]
               clear c1 c2 c3 hlo HOK HER
               go_enter Tryd.func145, Tryd.ntmps145
               go_wp2_with (first | (go_at_call_has 155 (Value.int .i64 a); refine (HS1.out _).mono ?_; rintro e w1 ⟨rfl, rfl⟩) | (go_at_call_has 155 (Value.int .i64 b); refine (HS2.out _).mono ?_; rintro e w1 ⟨rfl, rfl⟩) | (go_at_call 154; refine (HM.out _).mono ?_; rintro e w1 ⟨rfl, rfl⟩) | (go_at_call_has 132 (Value.bool false); refine (check_no _ _).mono ?_; rintro e w1 ⟨rfl, rfl⟩) | (go_at_call_has 132 (Value.bool true); refine (check_yes _ _).mono ?_; rintro e w1 ⟨rfl, rfl⟩))
               exact ⟨rfl, RPost.er rfl (Below.refl _ _)⟩)
            | (rw [HOK.out true c1 (.inr ⟨c3, rfl⟩), if_pos rfl]
               have w1 : wrap64 (lo : Int) = -9223372036854775808 := (by unfold wrap64; omega)
               have HL : Hid (-(lo : Int) = -9223372036854775808) := Lib.hid (by omega)
               have HW : Hid (wrap64 9223372036854775808 = -9223372036854775808) := Lib.hid (by unfold wrap64; omega)
               clear c1 c2 c3 hlo HOK HER
               go_enter Tryd.func145, Tryd.ntmps145
               go_wp2_with (first | (go_at_call_has 155 (Value.int .i64 a); refine (HS1.out _).mono ?_; rintro e w1 ⟨rfl, rfl⟩) | (go_at_call_has 155 (Value.int .i64 b); refine (HS2.out _).mono ?_; rintro e w1 ⟨rfl, rfl⟩) | (go_at_call 154; refine (HM.out _).mono ?_; rintro e w1 ⟨rfl, rfl⟩) | (go_at_call_has 132 (Value.bool false); refine (check_no _ _).mono ?_; rintro e w1 ⟨rfl, rfl⟩) | (go_at_call_has 132 (Value.bool true); refine (check_yes _ _).mono ?_; rintro e w1 ⟨rfl, rfl⟩))
               go_ret
               exact RPost.ok (by rw [HL.out, HW.out]) (Below.refl _ _))
        · have k3 : ((lo : Int) == 9223372036854775808) = false := by simp; omega
          have HW1 : Hid (wrap64 (lo : Int) = (lo : Int)) := Lib.hid (by unfold wrap64; omega)
          have HW2 : Hid (wrap64 (-(lo : Int)) = -(lo : Int)) := Lib.hid (by unfold wrap64; omega)
          have HW3 : Hid (wrap64 (-wrap64 (lo : Int)) = -(lo : Int)) := Lib.hid (by rw [HW1.out, HW2.out])
          rw [HOK.out _ c1 (.inl (by omega))]
          simp only [if_true, if_false, Bool.false_eq_true]
          clear c1 c2 c3 hlo HOK HER
          go_enter Tryd.func145, Tryd.ntmps145
          go_wp2_with (first | (go_at_call_has 155 (Value.int .i64 a); refine (HS1.out _).mono ?_; rintro e w1 ⟨rfl, rfl⟩) | (go_at_call_has 155 (Value.int .i64 b); refine (HS2.out _).mono ?_; rintro e w1 ⟨rfl, rfl⟩) | (go_at_call 154; refine (HM.out _).mono ?_; rintro e w1 ⟨rfl, rfl⟩) | (go_at_call_has 132 (Value.bool false); refine (check_no _ _).mono ?_; rintro e w1 ⟨rfl, rfl⟩) | (go_at_call_has 132 (Value.bool true); refine (check_yes _ _).mono ?_; rintro e w1 ⟨rfl, rfl⟩))
          go_ret
          exact RPost.ok (by first | (rw [HW3.out]; done) | (rw [HW2.out]; done) | (rw [HW1.out]; done)) (Below.refl _ _)
    · have k1 : ((hi : Int) != 0) = true := by simp; omega
      rw [HER.out _ (.inl c1)]
      clear c1 hlo HOK HER
      go_enter Tryd.func145, Tryd.ntmps145
      go_wp2_with (first | (go_at_call_has 155 (Value.int .i64 a); refine (HS1.out _).mono ?_; rintro e w1 ⟨rfl, rfl⟩) | (go_at_call_has 155 (Value.int .i64 b); refine (HS2.out _).mono ?_; rintro e w1 ⟨rfl, rfl⟩) | (go_at_call 154; refine (HM.out _).mono ?_; rintro e w1 ⟨rfl, rfl⟩) | (go_at_call_has 132 (Value.bool false); refine (check_no _ _).mono ?_; rintro e w1 ⟨rfl, rfl⟩) | (go_at_call_has 132 (Value.bool true); refine (check_yes _ _).mono ?_; rintro e w1 ⟨rfl, rfl⟩))
      exact ⟨rfl, RPost.er rfl (Below.refl _ _)⟩
end Go.Proofs.YtgcbanljifalnaaDoor
/- Maps as lists of entries, whatever the keys (that have a law) and the elements. No condition. -/
namespace Go.Proofs.YtgcbanljifalnaaDoor
open Go.RowKit Go.WideMaps

/-- Block b is a map of these entries. -/
def Mp (W : World) (b : Nat) (L : List (Value × Value)) : Prop :=
  ∃ (E : Array MapEntry) (clock : Nat), W.heap[b]? = some (.map E clock) ∧ MapKept.Stamped E clock ∧ E.toList.map (fun e => (e.key, e.val)) = L
theorem Mp.made (W : World) : Mp (W.alloc (.map #[] 0)) W.heap.size [] := ⟨#[], 0, heap_alloc_new W _, MapKept.stamped_empty 0, rfl⟩
theorem Mp.lt {W : World} {b : Nat} {L : List (Value × Value)} (h : Mp W b L) : b < W.heap.size := by
  obtain ⟨E, clock, h1, _⟩ := h
  exact (Array.getElem?_eq_some_iff.1 h1).1
theorem Mp.move {W W' : World} {b : Nat} {L : List (Value × Value)} (h : Mp W b L) (hb : W'.heap[b]? = W.heap[b]?) : Mp W' b L := by
  obtain ⟨E, clock, h1, h2⟩ := h
  exact ⟨E, clock, hb.trans h1, h2⟩
theorem Mp.below {W W' : World} {b N : Nat} {L : List (Value × Value)} (h : Mp W b L) (hb : Below N W W') (hN : b < N) : Mp W' b L := h.move (hb.block b hN)
section
variable {P : Program} {kt mt et : TypeId} (K : KeyLaw P kt) (hmt : P.underlying mt = some (.map kt et)) {W : World} {b : Nat} {L : List (Value × Value)} (h : Mp W b L) (hL : ∀ p ∈ L, ∃ l, keyOf P kt p.1 = some l)
include K hmt h hL
/-- m[k] of an entry that is there. -/
theorem Mp.look_some (c : Bool) {k v : Value} (hk : (k, v) ∈ L) : (Instr.lookup mt (.map (some b)) k c).run P W = .ok (if c then .tuple #[v, .bool true] else v) W := by
  obtain ⟨lk, hlk⟩ := hL _ hk
  obtain ⟨E, clock, hb, hst, rfl⟩ := h
  rcases K.find W hlk E.toList (fun e he => hL (e.key, e.val) (List.mem_map.2 ⟨e, he, rfl⟩)) with ⟨_, h2⟩ | ⟨j, e, h1, h2, h3⟩
  · obtain ⟨e, he, he2⟩ := List.mem_map.1 hk
    exact absurd (congrArg Prod.fst he2) (h2 e he)
  · obtain ⟨e', he', he2⟩ := List.mem_map.1 hk
    have e1 : e'.key = e.key := (congrArg Prod.fst he2).trans h3.symm
    have hee : e' = e := by
      have hn := hst.2.2
      obtain ⟨i, hi, hi2⟩ := List.mem_iff_getElem.1 he'
      obtain ⟨hj, hj2⟩ := List.getElem?_eq_some_iff.1 h2
      by_cases hij : i = j
      · subst hij; rw [← hi2, ← hj2]
      · exfalso
        have hp := List.pairwise_map.1 hn
        rw [List.pairwise_iff_getElem] at hp
        rcases Nat.lt_or_gt_of_ne hij with hlt | hlt
        · exact hp i j hi hj hlt (by rw [hi2, hj2]; exact e1)
        · exact hp j i hj hi hlt (by rw [hi2, hj2]; exact e1.symm)
    subst hee
    have hv : e'.val = v := congrArg Prod.snd he2
    simp [Instr.lookup, run_underlying hmt, MapKept.run_getObj_map hb, K.check W _ hlk, h1, Result.andThen, hv]
/-- m[k] of none. -/
theorem Mp.look_none (c : Bool) {k z : Value} {lk : Lit} (hlk : keyOf P kt k = some lk) (hz : (zeroValue et).run P W = .ok z W) (hk : ∀ p ∈ L, p.1 ≠ k) : (Instr.lookup mt (.map (some b)) k c).run P W = .ok (if c then .tuple #[z, .bool false] else z) W := by
  obtain ⟨E, clock, hb, hst, rfl⟩ := h
  rcases K.find W hlk E.toList (fun e he => hL (e.key, e.val) (List.mem_map.2 ⟨e, he, rfl⟩)) with ⟨h1, _⟩ | ⟨j, e, h1, h2, h3⟩
  · simp [Instr.lookup, run_underlying hmt, MapKept.run_getObj_map hb, K.check W _ hlk, h1, hz, Result.andThen]
  · exact absurd h3 (hk (e.key, e.val) (List.mem_map.2 ⟨e, List.mem_of_getElem? h2, rfl⟩))
/-- m[k] = v, of a new key. -/
theorem Mp.put_new {k v : Value} {lk : Lit} (hlk : keyOf P kt k = some lk) (hk : ∀ p ∈ L, p.1 ≠ k) : ∃ W', (Instr.mapUpdate mt (.map (some b)) k v).run P W = .ok () W' ∧ Mp W' b (L ++ [(k, v)]) ∧ W.grownBy W' (some b) := by
  obtain ⟨E, clock, hb, hst, rfl⟩ := h
  rcases K.find W hlk E.toList (fun e he => hL (e.key, e.val) (List.mem_map.2 ⟨e, he, rfl⟩)) with ⟨h1, _⟩ | ⟨j, e, h1, h2, h3⟩
  · refine ⟨{ W with heap := W.heap.setIfInBounds b (.map (E.push ⟨k, v, clock⟩) (clock + 1)) }, by simp [Instr.mapUpdate, run_underlying hmt, MapKept.run_getObj_map hb, K.check W _ hlk, h1, MapKept.run_setObj_map _ hb, Result.andThen], ⟨E.push ⟨k, v, clock⟩, clock + 1, ?_, MapKept.stamped_push hst (fun x hx => hk (x.key, x.val) (List.mem_map.2 ⟨x, hx, rfl⟩)), by simp⟩, ⟨rfl, rfl, rfl, by simp, fun i hi hne => ?_⟩⟩
    · have hlt := (Array.getElem?_eq_some_iff.1 hb).1
      simp [hlt]
    · simp only
      rw [Array.getElem?_setIfInBounds_ne (fun e => hne (by rw [e]))]
  · exact absurd h3 (hk (e.key, e.val) (List.mem_map.2 ⟨e, List.mem_of_getElem? h2, rfl⟩))
end
theorem Tryd.strLaw : KeyLaw Tryd.prog 9 := string_law Tryd.underlying9
theorem str_key {s : ByteArray} (hs : s.size ≤ 140737488351232) : ∃ l, keyOf Tryd.prog 9 (.string s) = some l := ⟨_, keyOf_string_mk Tryd.underlying9 (by unfold maxLen; omega)⟩
end Go.Proofs.YtgcbanljifalnaaDoor
/- Layer 13 (arith): what a term is worth, in plain words; the operators' map. Conditions: the bindings make no circle. -/
namespace Go.Proofs.YtgcbanljifalnaaDoor
open Go.RowKit Go.WideMaps

def isOp (s : ByteArray) : Bool := decide (s = ⟨#[43]⟩) || decide (s = ⟨#[45]⟩) || decide (s = ⟨#[42]⟩) || decide (s = ⟨#[47, 47]⟩) || decide (s = ⟨#[114, 101, 109]⟩) || decide (s = ⟨#[109, 111, 100]⟩)
/-- An operator's; of none: nothing that is asked. -/
def opI (s : ByteArray) (a b : Int) : Rk :=
  if s = ⟨#[43]⟩ then addR a b
  else if s = ⟨#[45]⟩ then subR a b
  else if s = ⟨#[42]⟩ then mulR a b
  else if s = ⟨#[47, 47]⟩ then divR a b
  else if s = ⟨#[114, 101, 109]⟩ then remR a b
  else modR a b
/-- What a term is worth, and how many nodes there are then; c: how many there were. -/
def evF (l : Bs) : Nat → Tm → Nat → Rk × Nat
  | 0, _, c => (.er 31, c)
  | f + 1, t, c =>
    if 4096 < c + 1 then (.er 31, c + 1)
    else if (wlk l t).k = 1 then (.er 20, c + 1)
    else if (wlk l t).k = 2 then (.ok (wlk l t).n, c + 1)
    else if (wlk l t).k = 4 then
      match (wlk l t).l with
      | [a] => if (wlk l t).s = ⟨#[45]⟩ then (match evF l f a (c + 1) with
          | (.ok x, c') => (subR 0 x, c')
          | (.er e, c') => (.er e, c')) else (.er 21, c + 1)
      | [a, b] => if isOp (wlk l t).s = true then (match evF l f a (c + 1) with
          | (.ok x, c') => (match evF l f b c' with
            | (.ok y, c'') => (opI (wlk l t).s x y, c'')
            | (.er e, c'') => (.er e, c''))
          | (.er e, c') => (.er e, c')) else (.er 21, c + 1)
      | _ => (.er 21, c + 1)
    else (.er 21, c + 1)
theorem fitR_ok {x n : Int} (h : fitR x = .ok n) : in64 n := by
  unfold fitR at h
  split at h
  · rename_i h1; injection h with h; subst h; exact h1
  · cases h
theorem opI_in {s : ByteArray} {a b n : Int} (ha : in64 a) (hb : in64 b) (h : opI s a b = .ok n) : in64 n := by
  unfold opI at h
  split at h
  · exact fitR_ok h
  split at h
  · exact fitR_ok h
  split at h
  · exact fitR_ok h
  split at h
  · unfold divR at h; split at h
    · cases h
    · exact fitR_ok h
  split at h
  · unfold remR at h; split at h
    · cases h
    · injection h with h; subst h; exact tmod_in hb (by assumption)
  · unfold modR at h; split at h
    · cases h
    · injection h with h; subst h; exact modI_in ha hb (by assumption)
theorem wf_num {t : Tm} (h : t.Wf) : in64 t.n := by
  have := h.parts
  unfold in64
  omega
theorem evF_in {l : Bs} (hwf : ∀ n t, ofB l n = some t → t.Wf) : ∀ (f : Nat) (t : Tm) (c : Nat) (n : Int), t.Wf → (evF l f t c).1 = .ok n → in64 n := by
  intro f
  induction f with
  | zero => intro t c n _ h; cases h
  | succ f ih =>
    intro t c n ht h
    have hx := wlk_wf hwf t ht
    rw [evF] at h
    generalize wlk l t = x at h hx
    split at h
    · cases h
    split at h
    · cases h
    split at h
    · injection h with h; subst h; exact wf_num hx
    split at h
    · split at h
      · split at h
        · split at h
          · exact fitR_ok h
          · cases h
        · cases h
      · rename_i a b hl
        split at h
        · split at h
          · rename_i y c' h1
            split at h
            · rename_i z c'' h2
              have hp := hx.parts.2.2.2
              rw [hl] at hp
              simp only [WfL] at hp
              exact opI_in (ih a _ _ hp.1 (by rw [h1])) (ih b _ _ hp.2.1 (by rw [h2])) h
            · cases h
          · cases h
        · cases h
      · cases h
    · cases h
end Go.Proofs.YtgcbanljifalnaaDoor
/- Layer 13 (arith): the operators' map; what a term is worth, walked. Conditions: the arguments read; the bindings make no circle. -/
namespace Go.Proofs.YtgcbanljifalnaaDoor
open Go.RowKit Go.WideMaps

abbrev OpL : List (Value × Value) := [(.string ⟨#[43]⟩, .func (.func 143) #[] #[]), (.string ⟨#[45]⟩, .func (.func 144) #[] #[]), (.string ⟨#[42]⟩, .func (.func 145) #[] #[]), (.string ⟨#[47, 47]⟩, .func (.func 146) #[] #[]), (.string ⟨#[114, 101, 109]⟩, .func (.func 147) #[] #[]), (.string ⟨#[109, 111, 100]⟩, .func (.func 148) #[] #[])]
theorem opL_keys : ∀ p ∈ OpL, ∃ l, keyOf Tryd.prog 9 p.1 = some l := by
  intro p hp
  simp only [OpL, List.mem_cons, List.not_mem_nil, or_false] at hp
  rcases hp with rfl | rfl | rfl | rfl | rfl | rfl <;> exact str_key (by decide)
/-- An operator's function. -/
theorem op_fn {s : ByteArray} (h : isOp s = true) : ∃ g : Nat, ((.string s, .func (.func g) #[] #[]) : Value × Value) ∈ OpL ∧ (∀ args w, (callFunc g args).run Tryd.prog w = .ok (.enter g args) w) ∧
    ∀ a b, in64 a → in64 b → ∀ W, Calls Tryd.prog g #[.int .i64 a, .int .i64 b] W (RPost W.heap.size (opI s a b) W) := by
  unfold isOp at h
  simp only [Bool.or_eq_true, decide_eq_true_eq] at h
  rcases h with ((((h | h) | h) | h) | h) | h <;> subst h
  · exact ⟨143, .head _, fun args w => by rfl, fun a b ha hb W => by
      rw [show opI ⟨#[43]⟩ a b = addR a b from rfl]
      exact add_c a b ha hb W⟩
  · exact ⟨144, .tail _ (.head _), fun args w => by rfl, fun a b ha hb W => by
      rw [show opI ⟨#[45]⟩ a b = subR a b from rfl]
      exact sub_c a b ha hb W⟩
  · exact ⟨145, .tail _ (.tail _ (.head _)), fun args w => by rfl, fun a b ha hb W => by
      rw [show opI ⟨#[42]⟩ a b = mulR a b from rfl]
      exact mul_c a b ha hb W⟩
  · exact ⟨146, .tail _ (.tail _ (.tail _ (.head _))), fun args w => by rfl, fun a b ha hb W => by
      rw [show opI ⟨#[47, 47]⟩ a b = divR a b from rfl]
      exact div_c a b ha hb W⟩
  · exact ⟨147, .tail _ (.tail _ (.tail _ (.tail _ (.head _)))), fun args w => by rfl, fun a b ha hb W => by
      rw [show opI ⟨#[114, 101, 109]⟩ a b = remR a b from rfl]
      exact rem_c a b ha hb W⟩
  · exact ⟨148, .tail _ (.tail _ (.tail _ (.tail _ (.tail _ (.head _))))), fun args w => by rfl, fun a b ha hb W => by
      rw [show opI ⟨#[109, 111, 100]⟩ a b = modR a b from rfl]
      exact mod_c a b ha hb W⟩
theorem op_none {s : ByteArray} (h : isOp s = false) : ∀ p ∈ OpL, p.1 ≠ .string s := by
  unfold isOp at h
  simp only [Bool.or_eq_false_iff, decide_eq_false_iff_not] at h
  obtain ⟨⟨⟨⟨⟨h1, h2⟩, h3⟩, h4⟩, h5⟩, h6⟩ := h
  intro p hp
  simp only [OpL, List.mem_cons, List.not_mem_nil, or_false] at hp
  rcases hp with rfl | rfl | rfl | rfl | rfl | rfl <;> (intro e; injection e with e; first | exact h1 e.symm | exact h2 e.symm | exact h3 e.symm | exact h4 e.symm | exact h5 e.symm | exact h6 e.symm)
theorem operators_c (w : World) : Calls Tryd.prog 134 #[] w fun e w' => (∃ b, e = .returned (.map (some b)) ∧ Mp w' b OpL) ∧ Below w.heap.size w w' := by
  have hmm := @run_makeMap Tryd.prog
  have m0 := Mp.made w
  have g0 : Below w.heap.size w (w.alloc (.map #[] 0)) := (Below.refl _ w).alloc (Nat.le_refl _) _
  obtain ⟨W1, e1, m1, r1⟩ := Mp.put_new Tryd.strLaw Tryd.underlying163 m0 (k := .string ⟨#[43]⟩) (v := .func (.func 143) #[] #[]) (fun p hp => opL_keys p (List.IsPrefix.subset (l₂ := OpL) ⟨[(.string ⟨#[43]⟩, .func (.func 143) #[] #[]), (.string ⟨#[45]⟩, .func (.func 144) #[] #[]), (.string ⟨#[42]⟩, .func (.func 145) #[] #[]), (.string ⟨#[47, 47]⟩, .func (.func 146) #[] #[]), (.string ⟨#[114, 101, 109]⟩, .func (.func 147) #[] #[]), (.string ⟨#[109, 111, 100]⟩, .func (.func 148) #[] #[])], rfl⟩ hp)) (keyOf_string_mk Tryd.underlying9 (by decide)) (by simp)
  have g1 : Below w.heap.size w W1 := below_of_grown (gfresh (r := none) (gnone g0) r1 (Nat.le_refl _))
  obtain ⟨W2, e2, m2, r2⟩ := Mp.put_new Tryd.strLaw Tryd.underlying163 m1 (k := .string ⟨#[45]⟩) (v := .func (.func 144) #[] #[]) (fun p hp => opL_keys p (List.IsPrefix.subset (l₂ := OpL) ⟨[(.string ⟨#[45]⟩, .func (.func 144) #[] #[]), (.string ⟨#[42]⟩, .func (.func 145) #[] #[]), (.string ⟨#[47, 47]⟩, .func (.func 146) #[] #[]), (.string ⟨#[114, 101, 109]⟩, .func (.func 147) #[] #[]), (.string ⟨#[109, 111, 100]⟩, .func (.func 148) #[] #[])], rfl⟩ hp)) (keyOf_string_mk Tryd.underlying9 (by decide)) (by simp)
  have g2 : Below w.heap.size w W2 := below_of_grown (gfresh (r := none) (gnone g1) r2 (Nat.le_refl _))
  obtain ⟨W3, e3, m3, r3⟩ := Mp.put_new Tryd.strLaw Tryd.underlying163 m2 (k := .string ⟨#[42]⟩) (v := .func (.func 145) #[] #[]) (fun p hp => opL_keys p (List.IsPrefix.subset (l₂ := OpL) ⟨[(.string ⟨#[42]⟩, .func (.func 145) #[] #[]), (.string ⟨#[47, 47]⟩, .func (.func 146) #[] #[]), (.string ⟨#[114, 101, 109]⟩, .func (.func 147) #[] #[]), (.string ⟨#[109, 111, 100]⟩, .func (.func 148) #[] #[])], rfl⟩ hp)) (keyOf_string_mk Tryd.underlying9 (by decide)) (by simp)
  have g3 : Below w.heap.size w W3 := below_of_grown (gfresh (r := none) (gnone g2) r3 (Nat.le_refl _))
  obtain ⟨W4, e4, m4, r4⟩ := Mp.put_new Tryd.strLaw Tryd.underlying163 m3 (k := .string ⟨#[47, 47]⟩) (v := .func (.func 146) #[] #[]) (fun p hp => opL_keys p (List.IsPrefix.subset (l₂ := OpL) ⟨[(.string ⟨#[47, 47]⟩, .func (.func 146) #[] #[]), (.string ⟨#[114, 101, 109]⟩, .func (.func 147) #[] #[]), (.string ⟨#[109, 111, 100]⟩, .func (.func 148) #[] #[])], rfl⟩ hp)) (keyOf_string_mk Tryd.underlying9 (by decide)) (by simp)
  have g4 : Below w.heap.size w W4 := below_of_grown (gfresh (r := none) (gnone g3) r4 (Nat.le_refl _))
  obtain ⟨W5, e5, m5, r5⟩ := Mp.put_new Tryd.strLaw Tryd.underlying163 m4 (k := .string ⟨#[114, 101, 109]⟩) (v := .func (.func 147) #[] #[]) (fun p hp => opL_keys p (List.IsPrefix.subset (l₂ := OpL) ⟨[(.string ⟨#[114, 101, 109]⟩, .func (.func 147) #[] #[]), (.string ⟨#[109, 111, 100]⟩, .func (.func 148) #[] #[])], rfl⟩ hp)) (keyOf_string_mk Tryd.underlying9 (by decide)) (by simp)
  have g5 : Below w.heap.size w W5 := below_of_grown (gfresh (r := none) (gnone g4) r5 (Nat.le_refl _))
  obtain ⟨W6, e6, m6, r6⟩ := Mp.put_new Tryd.strLaw Tryd.underlying163 m5 (k := .string ⟨#[109, 111, 100]⟩) (v := .func (.func 148) #[] #[]) (fun p hp => opL_keys p (List.IsPrefix.subset (l₂ := OpL) ⟨[(.string ⟨#[109, 111, 100]⟩, .func (.func 148) #[] #[])], rfl⟩ hp)) (keyOf_string_mk Tryd.underlying9 (by decide)) (by simp)
  have g6 : Below w.heap.size w W6 := below_of_grown (gfresh (r := none) (gnone g5) r6 (Nat.le_refl _))
  have M := Lib.hid m6
  have G := Lib.hid g6
  clear m0 m1 m2 m3 m4 m5 m6 g0 g1 g2 g3 g4 g5 g6
  go_enter Tryd.func134, Tryd.ntmps134
  go_wp2
  go_ret
  exact ⟨⟨_, rfl, M.out⟩, G.out⟩
end Go.Proofs.YtgcbanljifalnaaDoor

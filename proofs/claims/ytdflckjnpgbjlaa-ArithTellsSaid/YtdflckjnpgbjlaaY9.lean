/- Layer 13's reference: signs and sizes, walked. Conditions: numbers of 64 bits. -/
import Derived.Test.YtdflckjnpgbjlaaY7
set_option linter.unusedVariables false
set_option maxRecDepth 20000
set_option linter.unusedSimpArgs false
namespace Go.Proofs.Ytdflckjnpgbjlaa
open Go.RowKit

/-- A number: its sign, its size, of two words. -/
def nmV (s : Bool) (M : Nat) : Value := .agg #[.bool s, .int .u64 ((M / 18446744073709551616 : Nat) : Int), .int .u64 ((M % 18446744073709551616 : Nat) : Int)]
def sgn (s : Bool) (M : Nat) : Int := if s then -(M : Int) else (M : Int)
theorem nmV_small (s : Bool) {M : Nat} (h : M < 18446744073709551616) : nmV s M = .agg #[.bool s, .int .u64 0, .int .u64 (M : Int)] := by
  unfold nmV
  rw [Nat.div_eq_of_lt h, Nat.mod_eq_of_lt h]
  rfl
theorem sgn_of (a : Int) : sgn (decide (a < 0)) a.natAbs = a := by
  unfold sgn
  by_cases h : a < 0 <;> simp [h] <;> omega
theorem of_c (a : Int) (ha : in64 a) (w : World) : Calls Try.prog 130 #[.int .i64 a] w fun e w' => e = .returned (.agg #[.bool (decide (a < 0)), .int .u64 0, .int .u64 (a.natAbs : Int)]) ∧ Below w.heap.size w w' := by
  unfold in64 at ha
  rcases hda : decide (a < 0) with _ | _
  · have hw : IntKind.u64.wrap a = (a.natAbs : Int) := by
      have : ¬ a < 0 := of_decide_eq_false hda
      rw [IntKind.wrap_u64]; omega
    clear ha
    generalize (a.natAbs : Int) = n at hw ⊢
    go_enter Try.func130, Try.ntmps130
    go_wp2
    refine bodyPost_ret (v := .agg #[.bool false, .int .u64 0, .int .u64 n]) (by simp [results, Try.results130, go_sem]) rfl ⟨rfl, (Below.refl _ _).alloc (Nat.le_refl _) _⟩
  · have h0 : a < 0 := of_decide_eq_true hda
    have hw1 : wrap64 (a + 1) = a + 1 := by unfold wrap64; omega
    have hw2 : wrap64 (-(a + 1)) = -(a + 1) := by unfold wrap64; omega
    have hw3 : IntKind.u64.wrap (-(a + 1)) = -(a + 1) := by rw [IntKind.wrap_u64]; omega
    have hw4 : IntKind.u64.wrap (-(a + 1) + 1) = (a.natAbs : Int) := by rw [IntKind.wrap_u64]; omega
    clear ha h0
    generalize (a.natAbs : Int) = n at hw4 ⊢
    go_enter Try.func130, Try.ntmps130
    go_wp2
    refine bodyPost_ret (v := .agg #[.bool true, .int .u64 0, .int .u64 n]) (by simp [results, Try.results130, go_sem]) rfl ⟨rfl, (Below.refl _ _).alloc (Nat.le_refl _) _⟩
/-- Two together: sign, size. -/
def plM (s : Bool) (x : Nat) (t : Bool) (y : Nat) : Bool × Nat := if s = t then (s, x + y) else if y ≤ x then (s, x - y) else (t, y - x)
theorem plM_sgn (s : Bool) (x : Nat) (t : Bool) (y : Nat) : sgn (plM s x t y).1 (plM s x t y).2 = sgn s x + sgn t y := by
  unfold plM sgn
  by_cases h : y ≤ x <;> cases s <;> cases t <;> simp [h] <;> omega
theorem two64 (s : Bool) : nmV s 18446744073709551616 = .agg #[.bool s, .int .u64 1, .int .u64 0] := by cases s <;> rfl
set_option maxHeartbeats 4000000 in
theorem plus_c (s : Bool) (x : Nat) (t : Bool) (y : Nat) (hx : x ≤ 9223372036854775808) (hy : y ≤ 9223372036854775808) (w : World) :
    Calls Try.prog 131 #[.agg #[.bool s, .int .u64 0, .int .u64 (x : Int)], .agg #[.bool t, .int .u64 0, .int .u64 (y : Int)]] w fun e w' => e = .returned (nmV (plM s x t y).1 (plM s x t y).2) ∧ Below w.heap.size w w' := by
  have hB : ∀ O O' O'' : Obj, Below w.heap.size w (((w.alloc O).alloc O').alloc O'') := fun O O' O'' => (((Below.refl _ w).alloc (Nat.le_refl _) O).alloc (by simp) O').alloc (by simp; omega) O''
  have HB := Lib.hid hB
  clear hB
  by_cases hst : s = t
  · subst hst
    have hp : plM s x s y = (s, x + y) := if_pos rfl
    rw [hp]
    simp only
    by_cases h64 : x + y < 18446744073709551616
    · have hw : IntKind.u64.wrap ((x : Int) + (y : Int)) = ((x + y : Nat) : Int) := by rw [IntKind.wrap_u64]; omega
      have hd : decide (((x + y : Nat) : Int) < (x : Int)) = false := by simp; omega
      rw [nmV_small s h64]
      clear hp h64 hx hy
      generalize ((x + y : Nat) : Int) = z at hw hd ⊢
      cases s
      all_goals
        go_enter Try.func131, Try.ntmps131
        go_wp2
        (first | (refine bodyPost_ret (v := .agg #[.bool false, .int .u64 0, .int .u64 z]) (by simp [results, Try.results131, go_sem]; done) rfl ⟨rfl, HB.out _ _ _⟩) | (refine bodyPost_ret (v := .agg #[.bool true, .int .u64 0, .int .u64 z]) (by simp [results, Try.results131, go_sem]; done) rfl ⟨rfl, HB.out _ _ _⟩))
    · have hs64 : x + y = 18446744073709551616 := by omega
      have hw : IntKind.u64.wrap ((x : Int) + (y : Int)) = 0 := by rw [IntKind.wrap_u64]; omega
      have hx0 : 0 < x := by omega
      rw [hs64, two64]
      clear hp h64 hx hy hs64
      cases s
      all_goals
        go_enter Try.func131, Try.ntmps131
        go_wp2
        (first | (refine bodyPost_ret (v := .agg #[.bool false, .int .u64 1, .int .u64 0]) (by simp [results, Try.results131, go_sem]; done) rfl ⟨rfl, HB.out _ _ _⟩) | (refine bodyPost_ret (v := .agg #[.bool true, .int .u64 1, .int .u64 0]) (by simp [results, Try.results131, go_sem]; done) rfl ⟨rfl, HB.out _ _ _⟩))
  · by_cases hyx : y ≤ x
    · have hp : plM s x t y = (s, x - y) := by unfold plM; rw [if_neg hst, if_pos hyx]
      rw [hp]
      simp only
      have hw : IntKind.u64.wrap ((x : Int) - (y : Int)) = ((x - y : Nat) : Int) := by rw [IntKind.wrap_u64]; omega
      rw [nmV_small s (by omega)]
      clear hp hx hy
      generalize ((x - y : Nat) : Int) = z at hw ⊢
      cases s <;> cases t <;> first | (exact absurd rfl hst) | skip
      all_goals
        clear hst
        go_enter Try.func131, Try.ntmps131
        go_wp2
        (first | (refine bodyPost_ret (v := .agg #[.bool false, .int .u64 0, .int .u64 z]) (by simp [results, Try.results131, go_sem]; done) rfl ⟨rfl, HB.out _ _ _⟩) | (refine bodyPost_ret (v := .agg #[.bool true, .int .u64 0, .int .u64 z]) (by simp [results, Try.results131, go_sem]; done) rfl ⟨rfl, HB.out _ _ _⟩))
    · have hp : plM s x t y = (t, y - x) := by unfold plM; rw [if_neg hst, if_neg hyx]
      rw [hp]
      simp only
      have hw : IntKind.u64.wrap ((y : Int) - (x : Int)) = ((y - x : Nat) : Int) := by rw [IntKind.wrap_u64]; omega
      rw [nmV_small t (by omega)]
      clear hp hx hy
      generalize ((y - x : Nat) : Int) = z at hw ⊢
      cases s <;> cases t <;> first | (exact absurd rfl hst) | skip
      all_goals
        clear hst
        go_enter Try.func131, Try.ntmps131
        go_wp2
        (first | (refine bodyPost_ret (v := .agg #[.bool false, .int .u64 0, .int .u64 z]) (by simp [results, Try.results131, go_sem]; done) rfl ⟨rfl, HB.out _ _ _⟩) | (refine bodyPost_ret (v := .agg #[.bool true, .int .u64 0, .int .u64 z]) (by simp [results, Try.results131, go_sem]; done) rfl ⟨rfl, HB.out _ _ _⟩))
set_option maxHeartbeats 4000000 in
theorem back_c (s : Bool) (M : Nat) (w : World) : Calls Try.prog 132 #[nmV s M] w fun e w' => e = .returned (.tuple #[.int .i64 (signR s M).val, .int .i64 (signR s M).err]) ∧ Below w.heap.size w w' := by
  have HB := Lib.hid (fun O => (Below.refl _ w).alloc (Nat.le_refl _) O)
  have HOK : Hid (∀ m, M / 18446744073709551616 = 0 → (M % 18446744073709551616 < 9223372036854775808 ∨ M % 18446744073709551616 = 9223372036854775808 ∧ m = true) → signR m M = .ok (if m then -((M % 18446744073709551616 : Nat) : Int) else ((M % 18446744073709551616 : Nat) : Int))) := Lib.hid (fun m => signR_ok)
  have HER : Hid (∀ m, (M / 18446744073709551616 ≠ 0 ∨ 9223372036854775808 < M % 18446744073709551616 ∨ M % 18446744073709551616 = 9223372036854775808 ∧ m = false) → signR m M = .er 22) := Lib.hid (fun m => signR_er)
  have hlo : M % 18446744073709551616 < 18446744073709551616 := Nat.mod_lt _ (by omega)
  unfold nmV
  generalize M / 18446744073709551616 = hi at HOK HER ⊢
  generalize M % 18446744073709551616 = lo at HOK HER hlo ⊢
  by_cases c1 : hi = 0
  · have k1 : ((hi : Int) != 0) = false := by simp [c1]
    by_cases c2 : 9223372036854775808 < lo
    · have k2 : decide ((9223372036854775808 : Int) < lo) = true := by simp; omega
      rw [HER.out _ (.inr (.inl c2))]
      simp only [Rk.val, Rk.err]
      clear c1 c2 hlo HOK HER
      go_enter Try.func132, Try.ntmps132
      go_wp2
      go_ret2
      exact ⟨rfl, HB.out _⟩
    · have k2 : decide ((9223372036854775808 : Int) < lo) = false := by simp; omega
      by_cases c3 : lo = 9223372036854775808
      · have k3 : ((lo : Int) == 9223372036854775808) = true := by simp [c3]
        cases s with
        | false =>
          rw [HER.out false (.inr (.inr ⟨c3, rfl⟩))]
          simp only [Rk.val, Rk.err]
          clear c1 c2 c3 hlo HOK HER
          go_enter Try.func132, Try.ntmps132
          go_wp2
          go_ret2
          exact ⟨rfl, HB.out _⟩
        | true =>
          rw [HOK.out true c1 (.inr ⟨c3, rfl⟩), if_pos rfl]
          simp only [Rk.val, Rk.err]
          have HL : Hid (-(lo : Int) = -9223372036854775808) := Lib.hid (by omega)
          have HL2 : Hid ((lo : Int) = 9223372036854775808) := Lib.hid (by omega)
          have HW : Hid (wrap64 9223372036854775808 = -9223372036854775808) := Lib.hid (by unfold wrap64; omega)
          have HW2 : Hid (wrap64 (-wrap64 9223372036854775808) = -9223372036854775808) := Lib.hid (by unfold wrap64; omega)
          clear c1 c2 c3 hlo HOK HER
          go_enter Try.func132, Try.ntmps132
          go_wp2
          go_ret2
          refine ⟨congrArg (fun q : Int => Ending.returned (.tuple #[.int .i64 q, .int .i64 0])) (?_ : _ = (-(lo : Int))), HB.out _⟩
          rw [HL.out]
          first | (rw [HW.out]; done) | (rw [HW2.out]; done) | (rw [HL2.out, HW2.out]; done) | (rw [HL2.out, HW.out]; done)
      · have k3 : ((lo : Int) == 9223372036854775808) = false := by simp; omega
        have HW1 : Hid (wrap64 (lo : Int) = (lo : Int)) := Lib.hid (by unfold wrap64; omega)
        have HW2 : Hid (wrap64 (-(lo : Int)) = -(lo : Int)) := Lib.hid (by unfold wrap64; omega)
        have HW3 : Hid (wrap64 (-wrap64 (lo : Int)) = -(lo : Int)) := Lib.hid (by rw [HW1.out, HW2.out])
        rw [HOK.out _ c1 (.inl (by omega))]
        clear c1 c2 c3 hlo HOK HER
        cases s
        all_goals
          simp only [Rk.val, Rk.err, if_true, if_false, Bool.false_eq_true]
          go_enter Try.func132, Try.ntmps132
          go_wp2
          go_ret2
          first
            | (refine ⟨congrArg (fun q : Int => Ending.returned (.tuple #[.int .i64 q, .int .i64 0])) (HW1.out), HB.out _⟩; done)
            | (refine ⟨congrArg (fun q : Int => Ending.returned (.tuple #[.int .i64 q, .int .i64 0])) (HW2.out), HB.out _⟩; done)
            | (refine ⟨congrArg (fun q : Int => Ending.returned (.tuple #[.int .i64 q, .int .i64 0])) (HW3.out), HB.out _⟩; done)
            | (exact ⟨rfl, HB.out _⟩)
  · have k1 : ((hi : Int) != 0) = true := by simp; omega
    rw [HER.out _ (.inl c1)]
    simp only [Rk.val, Rk.err]
    clear c1 hlo HOK HER
    go_enter Try.func132, Try.ntmps132
    go_wp2
    go_ret2
    exact ⟨rfl, HB.out _⟩
end Go.Proofs.Ytdflckjnpgbjlaa

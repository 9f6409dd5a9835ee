/- Layer 13 (arith): the operators, walked. Conditions: numbers of 64 bits. -/
import Derived.Test.YtdflckjnpgbjlaaY1
import Derived.Test.YtdflckjnpgbjlaaU1
set_option linter.unusedVariables false
set_option maxRecDepth 20000
set_option linter.unusedSimpArgs false
namespace Go.Proofs.Ytdflckjnpgbjlaa
open Go.RowKit

/-- An error, thrown. -/
abbrev wrongEnd (e : Int) : Ending := .panicked [{ v := .iface 132 (.agg #[.int .i64 e]), recovered := false }]
theorem check_no (e : Int) (w : World) : Calls Try.prog 127 #[.bool false, .int .i64 e] w fun r w' => r = .returned (.tuple #[]) ∧ w' = w := by
  go_enter Try.func127, Try.ntmps127
  go_wp2
  go_end0
  exact ⟨rfl, rfl⟩
theorem check_yes (e : Int) (w : World) : Calls Try.prog 127 #[.bool true, .int .i64 e] w fun r w' => r = wrongEnd e ∧ w' = w := by
  go_enter Try.func127, Try.ntmps127
  go_wp2
  exact ⟨rfl, rfl, rfl⟩
/-- What an operator leaves behind. -/
def RPost (N : Nat) (r : Rk) (w : World) (e : Ending) (w' : World) : Prop :=
  (match r with
   | .ok n => e = .returned (.int .i64 n)
   | .er c => e = wrongEnd c) ∧ Below N w w'
theorem RPost.ok {N : Nat} {r : Rk} {n : Int} {w w' : World} (h : r = .ok n) (hb : Below N w w') : RPost N r w (.returned (.int .i64 n)) w' := by subst h; exact ⟨rfl, hb⟩
theorem RPost.er {N : Nat} {r : Rk} {c : Int} {w w' : World} (h : r = .er c) (hb : Below N w w') : RPost N r w (wrongEnd c) w' := by subst h; exact ⟨rfl, hb⟩
set_option maxHeartbeats 4000000 in
theorem add_c (a b : Int) (ha : in64 a) (hb : in64 b) (w : World) : Calls Try.prog 145 #[.int .i64 a, .int .i64 b] w (RPost w.heap.size (addR a b) w) := by
  obtain ⟨s, hs⟩ : ∃ s, wrap64 (a + b) = s := ⟨_, rfl⟩
  have HS : Hid (wrap64 (a + b) = s) := Lib.hid hs
  have HA := Lib.hid (And.intro ha hb)
  clear ha hb
  obtain ⟨R, HR⟩ : ∃ R, Hid (R = addR a b) := ⟨_, Lib.hid rfl⟩
  rw [← HR.out]
  rcases hda : decide (a < 0) with _ | _ <;> rcases hdb : decide (b < 0) with _ | _ <;> rcases hds : decide (s < 0) with _ | _
  all_goals
    go_enter Try.func145, Try.ntmps145
    go_wp2_with (first | (go_at_call_has 127 (Value.bool false); refine (check_no _ _).mono ?_; rintro e w1 ⟨rfl, rfl⟩) | (go_at_call_has 127 (Value.bool true); refine (check_yes _ _).mono ?_; rintro e w1 ⟨rfl, rfl⟩))
    (have h1 := HA.out; have h2 := HS.out; unfold in64 at h1; unfold wrap64 at h2; simp only [decide_eq_false_iff_not, decide_eq_true_eq] at hda hdb hds)
    first
      | (go_ret; exact RPost.ok (HR.out.trans (by unfold addR; rw [fitR_in (by unfold in64; omega)]; congr 1; omega)) (Below.refl _ _))
      | (exact ⟨rfl, RPost.er (HR.out.trans (by unfold addR; rw [fitR_out (by unfold in64; omega)])) (Below.refl _ _)⟩)
set_option maxHeartbeats 4000000 in
theorem sub_c (a b : Int) (ha : in64 a) (hb : in64 b) (w : World) : Calls Try.prog 146 #[.int .i64 a, .int .i64 b] w (RPost w.heap.size (subR a b) w) := by
  obtain ⟨s, hs⟩ : ∃ s, wrap64 (a - b) = s := ⟨_, rfl⟩
  have HS : Hid (wrap64 (a - b) = s) := Lib.hid hs
  have HA := Lib.hid (And.intro ha hb)
  clear ha hb
  obtain ⟨R, HR⟩ : ∃ R, Hid (R = subR a b) := ⟨_, Lib.hid rfl⟩
  rw [← HR.out]
  rcases hda : decide (a < 0) with _ | _ <;> rcases hdb : decide (b < 0) with _ | _ <;> rcases hds : decide (s < 0) with _ | _
  all_goals
    go_enter Try.func146, Try.ntmps146
    go_wp2_with (first | (go_at_call_has 127 (Value.bool false); refine (check_no _ _).mono ?_; rintro e w1 ⟨rfl, rfl⟩) | (go_at_call_has 127 (Value.bool true); refine (check_yes _ _).mono ?_; rintro e w1 ⟨rfl, rfl⟩))
    (have h1 := HA.out; have h2 := HS.out; unfold in64 at h1; unfold wrap64 at h2; simp only [decide_eq_false_iff_not, decide_eq_true_eq] at hda hdb hds)
    first
      | (go_ret; exact RPost.ok (HR.out.trans (by unfold subR; rw [fitR_in (by unfold in64; omega)]; congr 1; omega)) (Below.refl _ _))
      | (exact ⟨rfl, RPost.er (HR.out.trans (by unfold subR; rw [fitR_out (by unfold in64; omega)])) (Below.refl _ _)⟩)
set_option maxHeartbeats 4000000 in
theorem neg_c (a : Int) (ha : in64 a) (w : World) : Calls Try.prog 128 #[.int .i64 a] w (RPost w.heap.size (subR 0 a) w) := by
  have HA := Lib.hid ha
  clear ha
  obtain ⟨R, HR⟩ : ∃ R, Hid (R = subR 0 a) := ⟨_, Lib.hid rfl⟩
  rw [← HR.out]
  by_cases h0 : a = -9223372036854775808
  · subst h0
    go_enter Try.func128, Try.ntmps128
    go_wp2_with (first | (go_at_call_has 127 (Value.bool false); refine (check_no _ _).mono ?_; rintro e w1 ⟨rfl, rfl⟩) | (go_at_call_has 127 (Value.bool true); refine (check_yes _ _).mono ?_; rintro e w1 ⟨rfl, rfl⟩))
    exact ⟨rfl, RPost.er (HR.out.trans (by unfold subR; rw [fitR_out (by unfold in64; omega)])) (Below.refl _ _)⟩
  · have hq : (a == -9223372036854775808) = false := by simpa using h0
    have hn : wrap64 (-a) = -a := by have := HA.out; unfold in64 at this; unfold wrap64; omega
    go_enter Try.func128, Try.ntmps128
    go_wp2_with (first | (go_at_call_has 127 (Value.bool false); refine (check_no _ _).mono ?_; rintro e w1 ⟨rfl, rfl⟩) | (go_at_call_has 127 (Value.bool true); refine (check_yes _ _).mono ?_; rintro e w1 ⟨rfl, rfl⟩))
    go_ret
    exact RPost.ok (HR.out.trans (by have := HA.out; unfold in64 at this; unfold subR; rw [fitR_in (by unfold in64; omega)]; congr 1; omega)) (Below.refl _ _)
set_option maxHeartbeats 4000000 in
theorem div_c (a b : Int) (ha : in64 a) (hb : in64 b) (w : World) : Calls Try.prog 148 #[.int .i64 a, .int .i64 b] w (RPost w.heap.size (divR a b) w) := by
  obtain ⟨R, HR⟩ : ∃ R, Hid (R = divR a b) := ⟨_, Lib.hid rfl⟩
  rw [← HR.out]
  by_cases h0 : b = 0
  · subst h0
    go_enter Try.func148, Try.ntmps148
    go_wp2_with (first | (go_at_call_has 127 (Value.bool false); refine (check_no _ _).mono ?_; rintro e w1 ⟨rfl, rfl⟩) | (go_at_call_has 127 (Value.bool true); refine (check_yes _ _).mono ?_; rintro e w1 ⟨rfl, rfl⟩))
    exact ⟨rfl, RPost.er (HR.out.trans (by unfold divR; rw [if_pos rfl])) (Below.refl _ _)⟩
  · have hq : (b == 0) = false := by simpa using h0
    by_cases h1 : a = -9223372036854775808 ∧ b = -1
    · obtain ⟨rfl, rfl⟩ := h1
      go_enter Try.func148, Try.ntmps148
      go_wp2_with (first | (go_at_call_has 127 (Value.bool false); refine (check_no _ _).mono ?_; rintro e w1 ⟨rfl, rfl⟩) | (go_at_call_has 127 (Value.bool true); refine (check_yes _ _).mono ?_; rintro e w1 ⟨rfl, rfl⟩))
      exact ⟨rfl, RPost.er (HR.out.trans (by unfold divR; rw [if_neg (by decide), tdiv_min, fitR_out (by unfold in64; omega)])) (Below.refl _ _)⟩
    · have hi := tdiv_in ha h1
      have hw : wrap64 (a.tdiv b) = a.tdiv b := by unfold in64 at hi; unfold wrap64; omega
      have HR2 : Hid (R = .ok (a.tdiv b)) := Lib.hid (HR.out.trans (by unfold divR; rw [if_neg h0, fitR_in hi]))
      rcases h2 : (a == -9223372036854775808) with _ | _
      · clear h1 ha hb hi HR
        go_enter Try.func148, Try.ntmps148
        go_wp2_with (first | (go_at_call_has 127 (Value.bool false); refine (check_no _ _).mono ?_; rintro e w1 ⟨rfl, rfl⟩) | (go_at_call_has 127 (Value.bool true); refine (check_yes _ _).mono ?_; rintro e w1 ⟨rfl, rfl⟩))
        go_ret
        exact RPost.ok (by rw [hw]; exact HR2.out) (Below.refl _ _)
      · have h3 : (b == -1) = false := by simp; exact fun e => h1 ⟨by simpa using h2, e⟩
        clear h1 ha hb hi HR
        go_enter Try.func148, Try.ntmps148
        go_wp2_with (first | (go_at_call_has 127 (Value.bool false); refine (check_no _ _).mono ?_; rintro e w1 ⟨rfl, rfl⟩) | (go_at_call_has 127 (Value.bool true); refine (check_yes _ _).mono ?_; rintro e w1 ⟨rfl, rfl⟩))
        go_ret
        exact RPost.ok (by rw [hw]; exact HR2.out) (Below.refl _ _)
set_option maxHeartbeats 4000000 in
theorem rem_c (a b : Int) (ha : in64 a) (hb : in64 b) (w : World) : Calls Try.prog 149 #[.int .i64 a, .int .i64 b] w (RPost w.heap.size (remR a b) w) := by
  obtain ⟨R, HR⟩ : ∃ R, Hid (R = remR a b) := ⟨_, Lib.hid rfl⟩
  rw [← HR.out]
  by_cases h0 : b = 0
  · subst h0
    go_enter Try.func149, Try.ntmps149
    go_wp2_with (first | (go_at_call_has 127 (Value.bool false); refine (check_no _ _).mono ?_; rintro e w1 ⟨rfl, rfl⟩) | (go_at_call_has 127 (Value.bool true); refine (check_yes _ _).mono ?_; rintro e w1 ⟨rfl, rfl⟩))
    exact ⟨rfl, RPost.er (HR.out.trans (by unfold remR; rw [if_pos rfl])) (Below.refl _ _)⟩
  · have hq : (b == 0) = false := by simpa using h0
    have HR2 : Hid (R = .ok (a.tmod b)) := Lib.hid (HR.out.trans (by unfold remR; rw [if_neg h0]))
    rcases h2 : (b == -1) with _ | _
    · have hi := tmod_in (a := a) hb h0
      have hw : wrap64 (a.tmod b) = a.tmod b := by unfold in64 at hi; unfold wrap64; omega
      clear ha hb hi HR
      go_enter Try.func149, Try.ntmps149
      go_wp2_with (first | (go_at_call_has 127 (Value.bool false); refine (check_no _ _).mono ?_; rintro e w1 ⟨rfl, rfl⟩) | (go_at_call_has 127 (Value.bool true); refine (check_yes _ _).mono ?_; rintro e w1 ⟨rfl, rfl⟩))
      go_ret
      exact RPost.ok (by first | exact HR2.out | (rw [hw]; exact HR2.out)) (Below.refl _ _)
    · have HB : Hid (b = -1) := Lib.hid (by simpa using h2)
      clear ha hb HR
      go_enter Try.func149, Try.ntmps149
      go_wp2_with (first | (go_at_call_has 127 (Value.bool false); refine (check_no _ _).mono ?_; rintro e w1 ⟨rfl, rfl⟩) | (go_at_call_has 127 (Value.bool true); refine (check_yes _ _).mono ?_; rintro e w1 ⟨rfl, rfl⟩))
      go_ret
      exact RPost.ok (HR2.out.trans (by rw [HB.out, tmod_neg1])) (Below.refl _ _)
set_option maxHeartbeats 4000000 in
theorem mod_c (a b : Int) (ha : in64 a) (hb : in64 b) (w : World) : Calls Try.prog 150 #[.int .i64 a, .int .i64 b] w (RPost w.heap.size (modR a b) w) := by
  have HREM := Lib.hid (rem_c a b ha hb w)
  obtain ⟨R, HR⟩ : ∃ R, Hid (R = modR a b) := ⟨_, Lib.hid rfl⟩
  rw [← HR.out]
  by_cases h0 : b = 0
  · subst h0
    rw [show remR a 0 = .er 23 from rfl] at HREM
    clear ha hb
    go_enter Try.func150, Try.ntmps150
    go_wp2_with (go_at_call 149; refine HREM.out.mono ?_; clear HREM; rintro e w1 ⟨he, hb1⟩; replace he : e = wrongEnd 23 := he; subst he)
    exact ⟨rfl, RPost.er (HR.out.trans (by unfold modR; rw [if_pos rfl])) hb1⟩
  · have hi := modI_in ha hb h0
    have HR2 : Hid (R = .ok (modI a b)) := Lib.hid (HR.out.trans (by unfold modR; rw [if_neg h0]))
    rw [show remR a b = .ok (a.tmod b) from if_neg h0] at HREM
    have HM : Hid (modI a b = if a.tmod b ≠ 0 ∧ decide (a.tmod b < 0) ≠ decide (b < 0) then a.tmod b + b else a.tmod b) := Lib.hid rfl
    have HI := Lib.hid hi
    clear ha hb HR hi
    generalize a.tmod b = m at HREM HM
    by_cases hz : m = 0
    · subst hz
      go_enter Try.func150, Try.ntmps150
      go_wp2_with (go_at_call 149; refine HREM.out.mono ?_; clear HREM; rintro e w1 ⟨he, hb2⟩; replace he : e = .returned (.int .i64 0) := he; subst he)
      go_ret
      exact RPost.ok (HR2.out.trans (by rw [HM.out]; simp)) hb2
    · have hm0 : (m == 0) = false := by simpa using hz
      have HZ := Lib.hid hz
      clear hz
      rcases hm1 : decide (m < 0) with _ | _ <;> rcases hb1 : decide (b < 0) with _ | _
      all_goals
        have hw : (m ≠ 0 ∧ decide (m < 0) ≠ decide (b < 0)) → wrap64 (m + b) = m + b := fun hc => by
          have h1 := HI.out
          rw [HM.out, if_pos hc] at h1
          unfold in64 at h1
          unfold wrap64; omega
        have HW := Lib.hid hw
        have HC := Lib.hid (And.intro hm1 hb1)
        clear hw
        go_enter Try.func150, Try.ntmps150
        go_wp2_with (go_at_call 149; refine HREM.out.mono ?_; clear HREM; rintro e w1 ⟨he, hb2⟩; replace he : e = .returned (.int .i64 m) := he; subst he)
        go_ret
        refine RPost.ok (HR2.out.trans ?_) hb2
        obtain ⟨hm1', hb1'⟩ := HC.out
        first
          | (have hc : ¬ (m ≠ 0 ∧ decide (m < 0) ≠ decide (b < 0)) := (by rw [hm1', hb1']; rintro ⟨_, h⟩; exact h rfl)
             rw [HM.out, if_neg hc])
          | (have hc : (m ≠ 0 ∧ decide (m < 0) ≠ decide (b < 0)) := ⟨HZ.out, (by rw [hm1', hb1']; intro h; cases h)⟩
             rw [HM.out, if_pos hc, HW.out hc])
end Go.Proofs.Ytdflckjnpgbjlaa

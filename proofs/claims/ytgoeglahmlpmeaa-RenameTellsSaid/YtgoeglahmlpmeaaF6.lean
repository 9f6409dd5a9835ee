/- Plain laws of layer 5: what shifts and canonical forms count. No condition. -/
import Derived.Test.YtgoeglahmlpmeaaWg
set_option linter.unusedVariables false
set_option linter.unusedSimpArgs false
namespace Go.Proofs.Ytgoeglahmlpmeaa
open Go.RowKit

theorem wrap_id {x : Int} (h : -9223372036854775808 ≤ x ∧ x ≤ 9223372036854775807) : wrap64 x = x := by
  unfold wrap64; omega
theorem wrap_wrap (n a b : Int) : wrap64 (wrap64 (n + a) + b) = wrap64 (n + (a + b)) := by
  unfold wrap64; omega
theorem wrap_back {n a : Int} (h : -9223372036854775808 ≤ n ∧ n ≤ 9223372036854775807) : wrap64 (wrap64 (n + a) + wrap64 (-a)) = n := by
  unfold wrap64; omega
theorem wrap_inj {a x y : Int} (hx : -9223372036854775808 ≤ x ∧ x ≤ 9223372036854775807) (hy : -9223372036854775808 ≤ y ∧ y ≤ 9223372036854775807) (h : wrap64 (x + a) = wrap64 (y + a)) : x = y := by
  have h1 := wrap_back (a := a) hx
  rw [h, wrap_back hy] at h1
  exact h1.symm
theorem shift_shift (t : Tm) (a b : Int) : (t.ren fun n => wrap64 (n + a)).ren (fun n => wrap64 (n + b)) = t.ren fun n => wrap64 (n + (a + b)) := by
  rw [ren_ren]; exact ren_congr _ (fun n _ => wrap_wrap n a b)
mutual
theorem shp_occ : ∀ t : Tm, t.shp = true → ∀ n ∈ t.occ, 0 ≤ n
  | ⟨k, s, q, l⟩, h, n, hn => by
    simp only [Tm.occ, List.mem_append] at hn
    simp only [Tm.shp] at h
    by_cases k1 : k = 1
    · rw [if_pos k1] at h hn
      simp only [Bool.and_eq_true, decide_eq_true_eq] at h
      rcases hn with hn | hn
      · rw [List.mem_singleton] at hn; omega
      · rw [h.2] at hn; simp [occL] at hn
    · rw [if_neg k1] at h hn
      have hn := hn.resolve_left (by simp)
      by_cases k2 : k = 2
      · rw [if_pos k2] at h
        simp only [Bool.and_eq_true, decide_eq_true_eq] at h
        rw [h.2] at hn; simp [occL] at hn
      · rw [if_neg k2] at h
        by_cases k3 : k = 3
        · rw [if_pos k3] at h
          simp only [Bool.and_eq_true, decide_eq_true_eq] at h
          rw [h.1.2] at hn; simp [occL] at hn
        · rw [if_neg k3] at h
          simp only [Bool.and_eq_true, decide_eq_true_eq] at h
          exact shpL_occ l h.2 n hn
theorem shpL_occ : ∀ l : List Tm, shpL l = true → ∀ n ∈ occL l, 0 ≤ n
  | [], _, n, hn => by simp [occL] at hn
  | t :: ts, h, n, hn => by
    simp only [shpL, Bool.and_eq_true] at h
    simp only [occL, List.mem_append] at hn
    exact hn.elim (shp_occ t h.1 n) (shpL_occ ts h.2 n)
end
theorem good_occ {t : Tm} (h : t.good = true) : ∀ n ∈ t.occ, 0 ≤ n := by
  simp only [Tm.good, Bool.and_eq_true] at h
  exact shp_occ t h.2
theorem occL_one (t : Tm) : occL [t] = t.occ := by simp [occL]
theorem most_le {l : List Int} {m : Int} (h : ∀ n ∈ l, n ≤ m) (hm : -1 ≤ m) : most l ≤ m := by
  induction l with
  | nil => simpa [most] using hm
  | cons x xs ih =>
    simp only [most]
    have := ih (fun n hn => h n (List.mem_cons_of_mem _ hn))
    have := h x (by simp)
    omega
theorem map_plc {l : List Int} (h : l.Nodup) : l.map (plc l) = (List.range l.length).map (fun i : Nat => (i : Int)) := by
  apply List.ext_getElem
  · simp
  · intro j h1 h2
    simp only [List.length_map] at h1
    simp [plc_at h j h1]
theorem most_range : ∀ n : Nat, most ((List.range n).map (fun i : Nat => (i : Int))) = (n : Int) - 1
  | 0 => rfl
  | n + 1 => by
    rw [List.range_succ, List.map_append, List.map_cons, List.map_nil, most_snoc _ _ (by omega), most_range n]
    omega
/-- The canonical form's count is how many variables there are. -/
theorem canCount (t : Tm) : most (dd (occL [t.ren (plc (dd (occL [t])))])) + 1 = (dd (occL [t])).length := by
  rw [occL_one, occL_one, ren_occ, dd_map _ (fun a ha b hb he => plc_inj (dd_mem.2 ha) (dd_mem.2 hb) he), map_plc (dd_nodup _), most_range]
  omega
theorem can_occ (t : Tm) : ∀ n ∈ occL [t.ren (plc (dd (occL [t])))], 0 ≤ n ∧ n < 4611686018427387904 ∨ 4611686018427387904 ≤ (dd (occL [t])).length := by
  intro n hn
  rw [occL_one, occL_one, ren_occ] at hn
  obtain ⟨x, hx, rfl⟩ := List.mem_map.1 hn
  have := plc_some (dd_mem.2 hx)
  rw [occL_one]
  omega
theorem most_map_add {l : List Int} (a : Int) (h0 : l ≠ []) (h : ∀ n ∈ l, 0 ≤ n) (ha : 0 ≤ a) : most (l.map (· + a)) = most l + a := by
  have h1 : most (l.map (· + a)) ≤ most l + a := most_le (fun n hn => by
    obtain ⟨x, hx, rfl⟩ := List.mem_map.1 hn
    have := most_dd l x hx (h x hx); omega) (by have := h _ (most_mem h0 h); omega)
  have h2 : most l + a ≤ most (l.map (· + a)) := most_dd _ _ (List.mem_map.2 ⟨_, most_mem h0 h, rfl⟩) (by have := h _ (most_mem h0 h); omega)
  omega
theorem shift_occ {t : Tm} {a : Int} (h : ∀ n ∈ t.occ, 0 ≤ n ∧ n ≤ 1099511627776) (ha : 0 ≤ a ∧ a ≤ 1099511627776) : occL [t.ren fun n => wrap64 (n + a)] = t.occ.map (· + a) := by
  rw [occL_one, ren_occ]
  exact List.map_congr_left (fun n hn => wrap_id (by have := h n hn; omega))
theorem shiftCount {t : Tm} {a : Int} (h : ∀ n ∈ t.occ, 0 ≤ n ∧ n ≤ 1099511627776) (ha : 0 ≤ a ∧ a ≤ 1099511627776) :
    most (dd (occL [t.ren fun n => wrap64 (n + a)])) + 1 = if (dd (occL [t])).length = 0 then 0 else most (dd (occL [t])) + 1 + a := by
  rw [shift_occ h ha, dd_map _ (fun x _ y _ he => by omega), occL_one]
  have h' : ∀ n ∈ dd t.occ, 0 ≤ n := fun n hn => (h n (dd_mem.1 hn)).1
  by_cases h0 : dd t.occ = []
  · rw [h0]; rfl
  · rw [if_neg (fun e => h0 (List.eq_nil_of_length_eq_zero e)), most_map_add a h0 h' ha.1]
    omega
end Go.Proofs.Ytgoeglahmlpmeaa

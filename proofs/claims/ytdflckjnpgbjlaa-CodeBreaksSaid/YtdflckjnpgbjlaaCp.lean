/- Layer 22 in plain words: code that may be run is whole. Conditions: operations are bytes. -/
import Derived.Test.YtdflckjnpgbjlaaCn
set_option linter.unusedVariables false
set_option maxRecDepth 20000
set_option linter.unusedSimpArgs false
namespace Go.Proofs.Ytdflckjnpgbjlaa

theorem casesF_place {n : Int} : ∀ {l : List Cs} {p : Option Cs}, casesF n p l = true → ∀ c ∈ l, placeB c.to n = true
  | c :: l, p, h, x, hx => by
    simp only [casesF, Bool.and_eq_true] at h
    rcases List.mem_cons.1 hx with rfl | hx
    · exact h.1.1.1
    · exact casesF_place h.2 x hx
theorem checkC_zero {l : List In} {es : List Int} (h : checkC l es = 0) : l.length ≤ 16384 ∧ checkA l = true := by
  unfold checkC at h
  split at h
  · cases h
  · rename_i h1
    split at h
    · rename_i h2
      rw [Bool.and_eq_true] at h2
      exact ⟨by omega, h2.1⟩
    · cases h
theorem breaks_last {l : List In} (hop : ∀ i ∈ l, 0 ≤ i.op) (h : checkA l = true) : ∃ hn : l ≠ [], endB (l.getLast hn).op = true := by
  rw [checkA_eq l hop, Bool.and_eq_true] at h
  have h2 := h.2
  unfold endsL at h2
  cases hl : l.getLast? with
  | none => rw [hl] at h2; cases h2
  | some i =>
    rw [hl] at h2
    have hn : l ≠ [] := by rintro rfl; cases hl
    refine ⟨hn, ?_⟩
    rw [List.getLast?_eq_some_getLast hn] at hl
    injection hl with hl
    rw [hl]; exact h2
theorem breaks_ok {l : List In} (hop : ∀ i ∈ l, 0 ≤ i.op) (h : checkA l = true) : ∀ i ∈ l, okB i l.length = true := fun i hi => by
  rw [checkA_eq l hop, Bool.and_eq_true, Bool.and_eq_true] at h
  have := List.all_eq_true.1 h.1.1 i hi
  unfold oneB at this
  simp only [Bool.and_eq_true] at this
  exact this.2
/-- Each place of a switch is in it. -/
theorem breaks_case {l : List In} (hop : ∀ i ∈ l, 0 ≤ i.op) (h : checkA l = true) {i : In} (hi : i ∈ l) (ho : i.op = 13 ∨ i.op = 14) : ∀ c ∈ i.cs, placeB c.to l.length = true := by
  have hk := breaks_ok hop h i hi
  have hc : casesB i l.length = true := by
    unfold okB at hk
    rcases ho with e | e <;> rw [e] at hk <;> simp at hk <;> exact hk.2
  exact casesF_place hc
theorem checkC_33 {l : List In} {es : List Int} (hl : l.length ≤ 16384) (h : checkA l = false) : checkC l es = 33 := by
  unfold checkC
  rw [if_neg (by omega), h]; rfl
/-- Without its last instruction. -/
theorem breaks_short {l : List In} (hop : ∀ i ∈ l, 0 ≤ i.op) (hl : l.length ≤ 16384) {m : Nat} (hm : l.length = m + 2) (he : endB (l[m]'(by omega)).op = false) : checkC (l.take (m + 1)) [] = 33 := by
  refine checkC_33 (by rw [List.length_take]; omega) ?_
  rw [checkA_eq _ (fun i hi => hop i (List.mem_of_mem_take hi)), Bool.and_eq_false_iff]
  right
  unfold endsL
  rw [List.getLast?_eq_getElem?, List.length_take, show min (m + 1) l.length - 1 = m by omega, List.getElem?_take, if_pos (by omega), List.getElem?_eq_getElem (by omega)]
  exact he
/-- With a place beyond. -/
theorem breaks_place {l : List In} (hop : ∀ i ∈ l, 0 ≤ i.op) (hl : l.length ≤ 16384) {j : Nat} (hj : j < l.length) {x : In} (hx : x.op ∈ [3, 4, 10, 11, 12, 13]) (ha : x.a = l.length) : checkC (l.set j x) [] = 33 := by
  refine checkC_33 (by rw [List.length_set]; exact hl) ?_
  have hxo : 0 ≤ x.op := by
    simp only [List.mem_cons, List.not_mem_nil, or_false] at hx
    omega
  rw [checkA_eq _ (fun i hi => (List.mem_or_eq_of_mem_set hi).elim (hop i) (fun e => e ▸ hxo)), Bool.and_eq_false_iff, Bool.and_eq_false_iff]
  left; left
  rw [List.all_eq_false]
  refine ⟨x, List.mem_set hj x, ?_⟩
  rw [List.length_set]
  have hp : placeB x.a l.length = false := by unfold placeB; rw [ha]; simp
  have hk : okB x l.length = false := by
    unfold okB
    simp only [List.mem_cons, List.not_mem_nil, or_false] at hx
    rcases hx with e | e | e | e | e | e <;> simp [e, hp]
  unfold oneB
  rw [hk]; simp
theorem breaks_entry {l : List In} (hl : l.length ≤ 16384) : checkC l [(l.length : Int)] = 33 := by
  unfold checkC
  rw [if_neg (by omega)]
  have : placeB (l.length : Int) l.length = false := by unfold placeB; simp
  simp [this]
/-- Nothing but proceeds. -/
theorem pOK_proceed : ∀ k : Nat, pOK 0 (List.replicate k K22.iP) = true
  | 0 => rfl
  | k + 1 => by
    rw [List.replicate_succ, pOK, if_neg (by omega)]
    exact pOK_proceed k
theorem many_long : checkC (List.replicate 16385 K22.iP) [] = 3 := by
  unfold checkC
  rw [if_pos (by rw [List.length_replicate]; omega)]
theorem many_ok : checkC (List.replicate 16384 K22.iP) [] = 0 := by
  have hop : ∀ i ∈ List.replicate 16384 K22.iP, 0 ≤ i.op := fun i hi => by rw [List.eq_of_mem_replicate hi]; decide
  have hA : checkA (List.replicate 16384 K22.iP) = true := by
    rw [checkA_eq _ hop, pOK_proceed, Bool.and_true, Bool.and_eq_true]
    refine ⟨List.all_eq_true.2 fun i hi => ?_, ?_⟩
    · rw [List.eq_of_mem_replicate hi]
      unfold oneB okB
      simp [K22.iP]
    · unfold endsL
      rw [List.getLast?_replicate]
      rfl
  unfold checkC
  rw [if_neg (by rw [List.length_replicate]; omega), hA]
  rfl
end Go.Proofs.Ytdflckjnpgbjlaa

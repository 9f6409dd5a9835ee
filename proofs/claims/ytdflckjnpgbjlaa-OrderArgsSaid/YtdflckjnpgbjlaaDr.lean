/- A region that draws its order, by an invariant over what is done: each operation once, not each order. No condition. -/
import Derived.Test.YtdflckjnpgbjlaaKl
import Derived.Deep.RegionHeld3
set_option linter.unusedVariables false
set_option maxRecDepth 20000
namespace Go.Proofs.Ytdflckjnpgbjlaa
open Go.RowKit

theorem count_set : ∀ (l : List Bool) (i : Nat), l[i]? = some false → (l.set i true).count false + 1 = l.count false
  | [], i, h => by simp at h
  | b :: l, 0, h => by
    simp at h
    subst h
    simp
  | b :: l, i + 1, h => by
    have := count_set l i (by simpa using h)
    simp only [List.set_cons_succ, List.count_cons]
    omega
theorem wpAnyH_inv {P : Program} {ops : Array Oper} {Q : Exit → Act → World → Prop} {md : Region.Mode} {S : World → Prop} (I : Array Bool → Act → World → Prop) (stop : Array Bool → Prop)
    (hS : ∀ listed a w, I listed a w → S w)
    (hstep : ∀ listed a w i, I listed a w → i ∈ Region.ready md ops listed → stop listed ∨ wpOp P ops Q i (fun a' w' => I (listed.setIfInBounds i true) a' w') a w)
    (hstop : ∀ fuel listed a w, I listed a w → stop listed → listed.toList.count false ≤ fuel → wpAnyH P md ops Q S fuel listed a w)
    (hdone : ∀ listed a w, I listed a w → Region.ready md ops listed = [] → stop listed) :
    ∀ (fuel : Nat) (listed : Array Bool) (a : Act) (w : World), I listed a w → listed.toList.count false ≤ fuel → wpAnyH P md ops Q S fuel listed a w := by
  have key : ∀ (listed : Array Bool) (i : Nat), i ∈ Region.ready md ops listed → listed.toList[i]? = some false := fun listed i hi => by
    have h1 := (mem_ready.1 hi).1
    rcases Nat.lt_or_ge i listed.size with h' | h'
    · simp [h'] at h1
      simp [h', h1]
    · simp [Array.getElem?_eq_none h'] at h1
  intro fuel
  induction fuel with
  | zero =>
    intro listed a w hI hc
    have hr : Region.ready md ops listed = [] := by
      cases hr : Region.ready md ops listed with
      | nil => rfl
      | cons i r =>
        have := count_set _ _ (key listed i (by rw [hr]; simp))
        omega
    exact hstop _ _ _ _ hI (hdone _ _ _ hI hr) hc
  | succ fuel ih =>
    intro listed a w hI hc
    by_cases hs : stop listed
    · exact hstop _ _ _ _ hI hs hc
    · refine ⟨fun hr => absurd (hdone _ _ _ hI hr) hs, fun i hi => wpOp_mono (fun a' w' h => ⟨hS _ _ _ h, ih _ a' w' h ?_⟩) ((hstep _ _ _ _ hI hi).resolve_left hs)⟩
      have := count_set _ _ (key listed i hi)
      simp only [Array.toList_setIfInBounds]
      omega
/-- One operation that is wanted. -/
theorem wpOp_run {P : Program} {ops : Array Oper} {Q : Exit → Act → World → Prop} {i : Nat} {o : Oper} {K : Act → World → Prop} {a : Act} {w : World} (hi : ops[i]? = some o) (hw : Region.wanted o (yielded ops a.tmps) = true) (h : o.wp P a w K Q) : wpOp P ops Q i K a w := by
  unfold wpOp
  simp only [hi, hw, if_true]
  exact .inl h
end Go.Proofs.Ytdflckjnpgbjlaa

/- Walks of layer 1: names and whether a term is good, by the program's own closures. Walks of layer 1: is a term good; are two alike: by the program's own recursions. Conditions: the arguments read; terms of at most a million nodes, where a statement says so. -/
import Derived.Test.YtdflckjnpgbjlaaW3
import Derived.Shelf.Abstract
import Derived.Lib.ConvBytes
set_option linter.unusedVariables false
set_option maxRecDepth 20000
set_option linter.unusedSimpArgs false
namespace Go.Proofs.Ytdflckjnpgbjlaa
open Go.RowKit

def charsOk (s : ByteArray) : Bool := s.data.toList.all fun c => chOk c.toNat
open Go.RowKit

/-- Good, to a depth. -/
def Tm.gd (t : Tm) (d : Nat) : Bool := decide (t.dep ≤ d) && t.shp
theorem depL_le_iff {d : Nat} : ∀ {l : List Tm}, depL l ≤ d ↔ ∀ t ∈ l, t.dep ≤ d
  | [] => by simp [depL]
  | t :: ts => by simp [depL, Nat.max_le, depL_le_iff (l := ts)]
theorem shpL_iff : ∀ {l : List Tm}, shpL l = true ↔ ∀ t ∈ l, t.shp = true
  | [] => by simp [shpL]
  | t :: ts => by simp [shpL, shpL_iff (l := ts)]
theorem gd_any (l : List Tm) (d : Nat) : (!(l.any fun a => !(a.gd d))) = (decide (depL l ≤ d) && shpL l) := by
  rw [Bool.eq_iff_iff, Bool.and_eq_true, decide_eq_true_eq, depL_le_iff, shpL_iff]
  simp only [Bool.not_eq_true', List.any_eq_false, Bool.not_eq_true, Bool.not_eq_false', Tm.gd, Bool.and_eq_true, decide_eq_true_eq]
  have e : ∀ t : Tm, ((decide (t.dep ≤ d) && t.shp) = false → False) ↔ (t.dep ≤ d ∧ t.shp = true) := fun t => by
    cases h1 : t.shp <;> simp
  constructor
  · intro h; exact ⟨fun t ht => ((e t).1 (h t ht)).1, fun t ht => ((e t).1 (h t ht)).2⟩
  · intro h t ht; exact (e t).2 ⟨h.1 t ht, h.2 t ht⟩
theorem gd_eq (k : Int) (s : ByteArray) (n : Int) (l : List Tm) (d : Nat) : Tm.gd ⟨k, s, n, l⟩ (d + 1) = (nodeOk k s n l.length && (decide ((l.length : Int) = 0) || !(l.any fun a => !(a.gd d)))) := by
  rw [gd_any, Tm.gd, shp_eq]
  simp only [Tm.dep, Nat.add_le_add_iff_right]
  by_cases h0 : l = []
  · subst h0; simp [depL, shpL]
  · have h1 : decide ((l.length : Int) = 0) = false := by
      rw [decide_eq_false_iff_not]; intro h; exact h0 (List.eq_nil_of_length_eq_zero (by omega))
    rw [h1, Bool.false_or]
    cases decide (depL l ≤ d) <;> cases shpL l <;> cases nodeOk k s n l.length <;> rfl
theorem m0_eq (m : Nat) : ((m : Int) == 0) = decide (m = 0) := by rw [Bool.eq_iff_iff, beq_iff_eq, decide_eq_true_eq]; omega
theorem gd_zero (t : Tm) : t.gd 0 = false := by cases t; simp [Tm.gd, Tm.dep]
theorem gd_good (t : Tm) : t.gd 64 = t.good := rfl

end Go.Proofs.Ytdflckjnpgbjlaa

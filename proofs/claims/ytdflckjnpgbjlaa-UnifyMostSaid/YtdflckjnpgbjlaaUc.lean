/- Variables of terms in their bounds. No condition. -/
import Derived.Test.YtdflckjnpgbjlaaUb
set_option linter.unusedVariables false
set_option maxRecDepth 20000
set_option linter.unusedSimpArgs false
namespace Go.Proofs.Ytdflckjnpgbjlaa
open Go.RowKit

mutual
theorem occ_bd : ∀ (t : Tm), t.Wf → ∀ n ∈ t.occ, -9223372036854775808 ≤ n ∧ n ≤ 9223372036854775807
  | ⟨k, s, q, l⟩, h, n, hn => by
    simp only [Tm.Wf] at h
    simp only [Tm.occ, List.mem_append] at hn
    rcases hn with hn | hn
    · split at hn
      · rw [List.mem_singleton] at hn; subst hn; exact h.2.1
      · cases hn
    · exact occL_bd l h.2.2.2 n hn
theorem occL_bd : ∀ (l : List Tm), WfL l → ∀ n ∈ occL l, -9223372036854775808 ≤ n ∧ n ≤ 9223372036854775807
  | [], _, n, hn => by simp [occL] at hn
  | t :: ts, h, n, hn => by
    simp only [WfL] at h
    simp only [occL, List.mem_append] at hn
    exact hn.elim (occ_bd t h.1 n) (occL_bd ts h.2 n)
end
theorem kV_wf {q : Int} (hq : -9223372036854775808 ≤ q ∧ q ≤ 9223372036854775807) : (kV q).Wf := by
  simp [kV, Tm.Wf, WfL, ByteArray.size]; omega
theorem Same_refl (t : Tm) (v v' : Value) (w : World) (ok ok' : Nat → Prop) (hv : TmV w ok t v) (hv' : TmV w ok' t v') :
    Calls Try.prog 26 #[v, v'] w fun e w' => e = .returned (.bool true) ∧ Below w.heap.size w w' := by
  have := Same_c t t w ok ok' v v' hv hv'
  rwa [(Tm.eqb_iff t t).2 rfl] at this
end Go.Proofs.Ytdflckjnpgbjlaa

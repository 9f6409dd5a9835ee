/- Walks of layer 2: comparisons. Conditions: the arguments read. -/
import Derived.Test.YtdflckjnpgbjlaaKs
import Derived.Test.YtdflckjnpgbjlaaKl
set_option linter.unusedVariables false
set_option maxRecDepth 20000
set_option linter.unusedSimpArgs false
namespace Go.Proofs.Ytdflckjnpgbjlaa
open Go.RowKit

/-- Two numbers. -/
def cmpI (a b : Int) : Int := if a < b then -1 else if b < a then 1 else 0
theorem cmp8_c (a b : Int) (w : World) : Calls Try.prog 86 #[.int .u8 a, .int .u8 b] w fun e w' => e = .returned (.int .i64 (cmpI a b)) ∧ w' = w := by
  have HX := Lib.hid (show cmpI a b = if a < b then -1 else if b < a then 1 else 0 from rfl)
  go_enter Try.func86, Try.ntmps86
  go_wp2
  all_goals go_ret
  all_goals exact ⟨ret_int (by rw [HX.out]; (repeat' split) <;> first | rfl | omega), rfl⟩
theorem cmp64_c (a b : Int) (w : World) : Calls Try.prog 88 #[.int .i64 a, .int .i64 b] w fun e w' => e = .returned (.int .i64 (cmpI a b)) ∧ w' = w := by
  have HX := Lib.hid (show cmpI a b = if a < b then -1 else if b < a then 1 else 0 from rfl)
  go_enter Try.func88, Try.ntmps88
  go_wp2
  all_goals go_ret
  all_goals exact ⟨ret_int (by rw [HX.out]; (repeat' split) <;> first | rfl | omega), rfl⟩
theorem cmpi_c (a b : Int) (w : World) : Calls Try.prog 90 #[.int .i64 a, .int .i64 b] w fun e w' => e = .returned (.int .i64 (cmpI a b)) ∧ w' = w := by
  have HX := Lib.hid (show cmpI a b = if a < b then -1 else if b < a then 1 else 0 from rfl)
  go_enter Try.func90, Try.ntmps90
  go_wp2
  all_goals go_ret
  all_goals exact ⟨ret_int (by rw [HX.out]; (repeat' split) <;> first | rfl | omega), rfl⟩
theorem num_c (a b : Int) (w : World) : Calls Try.prog 82 #[.int .i64 a, .int .i64 b] w fun e w' => e = .returned (.int .i64 (cmpI a b)) ∧ w' = w := by
  have HX := Lib.hid (show cmpI a b = if a < b then -1 else if b < a then 1 else 0 from rfl)
  go_enter Try.func82, Try.ntmps82
  go_wp2
  all_goals go_ret
  all_goals exact ⟨ret_int (by rw [HX.out]; (repeat' split) <;> first | rfl | omega), rfl⟩
/-- Two texts. -/
def cmpS (a b : ByteArray) : Int := if Op.bytesLess a.toList b.toList = true then -1 else if a = b then 0 else 1
theorem cmps_c (a b : ByteArray) (w : World) : Calls Try.prog 92 #[.string a, .string b] w fun e w' => e = .returned (.int .i64 (cmpS a b)) ∧ w' = w := by
  have HX := Lib.hid (show cmpS a b = if Op.bytesLess a.toList b.toList = true then -1 else if a = b then 0 else 1 from rfl)
  have HE : Hid ((!a.toList == b.toList) = false ↔ a = b) := Lib.hid (by
    simp only [Bool.not_eq_false', beq_iff_eq]
    exact ⟨toList_inj, fun h => by rw [h]⟩)
  go_enter Try.func92, Try.ntmps92
  go_wp2
  all_goals go_ret
  all_goals (refine ⟨ret_int ?_, rfl⟩; rw [HX.out])
  · rw [if_pos (by assumption)]
  · have h1 : Op.bytesLess a.toList b.toList = false := by assumption
    have h2 : (!a.toList == b.toList) = true := by assumption
    rw [if_neg (by rw [h1]; decide), if_neg (fun e => by rw [HE.out.2 e] at h2; cases h2)]
  · have h1 : Op.bytesLess a.toList b.toList = false := by assumption
    have h2 : (!a.toList == b.toList) = false := by assumption
    rw [if_neg (by rw [h1]; decide), if_pos (HE.out.1 h2)]
end Go.Proofs.Ytdflckjnpgbjlaa

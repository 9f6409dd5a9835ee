/- Layer 13 (arith) in plain words: results, operators; whole numbers of 64 bits. No condition. -/
import Derived.Test.YtdflckjnpgbjlaaF1
set_option linter.unusedVariables false
set_option maxRecDepth 20000
set_option linter.unusedSimpArgs false
namespace Go.Proofs.Ytdflckjnpgbjlaa
open Go.RowKit

/-- A result: a number, or an error. -/
inductive Rk where
  | ok (n : Int)
  | er (e : Int)
def in64 (x : Int) : Prop := -9223372036854775808 ≤ x ∧ x ≤ 9223372036854775807
instance (x : Int) : Decidable (in64 x) := by unfold in64; infer_instance
def fitR (x : Int) : Rk := if in64 x then .ok x else .er 22
def addR (a b : Int) : Rk := fitR (a + b)
def subR (a b : Int) : Rk := fitR (a - b)
def mulR (a b : Int) : Rk := fitR (a * b)
def divR (a b : Int) : Rk := if b = 0 then .er 23 else fitR (a.tdiv b)
def remR (a b : Int) : Rk := if b = 0 then .er 23 else .ok (a.tmod b)
def modI (a b : Int) : Int := if a.tmod b ≠ 0 ∧ decide (a.tmod b < 0) ≠ decide (b < 0) then a.tmod b + b else a.tmod b
def modR (a b : Int) : Rk := if b = 0 then .er 23 else .ok (modI a b)
def Rk.val : Rk → Int
  | .ok n => n
  | .er _ => 0
def Rk.err : Rk → Int
  | .ok _ => 0
  | .er e => e
theorem fitR_in {x : Int} (h : in64 x) : fitR x = .ok x := if_pos h
theorem fitR_out {x : Int} (h : ¬ in64 x) : fitR x = .er 22 := if_neg h
theorem wrap_in {x : Int} (h : in64 x) : IntKind.i64.wrap x = x := by unfold in64 at h; rw [IntKind.wrap_i64]; omega
theorem tmod_in {a b : Int} (hb : in64 b) (h0 : b ≠ 0) : in64 (a.tmod b) := by
  unfold in64 at *
  have h1 : (a.tmod b).natAbs < b.natAbs := by rw [Int.natAbs_tmod]; exact Nat.mod_lt _ (by omega)
  omega
theorem tdiv_le (a b : Int) : (a.tdiv b).natAbs ≤ a.natAbs := by rw [Int.natAbs_tdiv]; exact Nat.div_le_self _ _
theorem tdiv_in {a b : Int} (ha : in64 a) (h : ¬ (a = -9223372036854775808 ∧ b = -1)) : in64 (a.tdiv b) := by
  unfold in64 at *
  have h1 := tdiv_le a b
  by_cases hx : (a.tdiv b).natAbs ≤ 9223372036854775807
  · omega
  · have ha : a = -9223372036854775808 := by omega
    subst ha
    have hb : b.natAbs = 1 := by
      have h2 := Int.natAbs_tdiv (-9223372036854775808) b
      by_cases h0 : b.natAbs = 0
      · have : b = 0 := by omega
        subst this
        simp at hx
      · by_cases h3 : b.natAbs = 1
        · exact h3
        · exfalso
          have h4 : (Int.natAbs (-9223372036854775808)) / b.natAbs ≤ (Int.natAbs (-9223372036854775808)) / 2 := Nat.div_le_div_left (by omega) (by omega)
          have h5 : ((-9223372036854775808 : Int).tdiv b).natAbs = (Int.natAbs (-9223372036854775808)) / b.natAbs := h2
          rw [← h5] at h4
          rw [show Int.natAbs (-9223372036854775808) = 9223372036854775808 from rfl] at h4
          omega
    rcases Int.natAbs_eq b with hb' | hb'
    · rw [hb] at hb'
      simp at hb'
      rw [hb', Int.tdiv_one]
      decide
    · rw [hb] at hb'
      simp at hb'
      exact absurd ⟨rfl, hb'⟩ h
theorem tdiv_min : (-9223372036854775808 : Int).tdiv (-1) = 9223372036854775808 := by decide
theorem tmod_neg1 (a : Int) : a.tmod (-1) = 0 := by
  rw [Int.tmod_neg, Int.tmod_one]
theorem tmod_sign {a b : Int} (h : a.tmod b ≠ 0) : (a.tmod b < 0) = (a < 0) := by
  have h1 := Int.sign_tmod a b
  rw [if_neg (fun hd => h (Int.tmod_eq_zero_of_dvd hd))] at h1
  rw [eq_iff_iff, ← Int.sign_neg_iff, h1, Int.sign_neg_iff]
theorem modI_in {a b : Int} (ha : in64 a) (hb : in64 b) (h0 : b ≠ 0) : in64 (modI a b) := by
  have h1 := tmod_in (a := a) hb h0
  unfold modI
  unfold in64 at *
  split
  · rename_i h
    obtain ⟨h2, h3⟩ := h
    by_cases h4 : a.tmod b < 0 <;> by_cases h5 : b < 0 <;> simp [h4, h5] at h3 <;> omega
  · exact h1
/-- An operator's, by its name. -/
def opR (s : ByteArray) (a b : Int) : Option Rk :=
  if s = ⟨#[43]⟩ then some (addR a b)
  else if s = ⟨#[45]⟩ then some (subR a b)
  else if s = ⟨#[42]⟩ then some (mulR a b)
  else if s = ⟨#[47, 47]⟩ then some (divR a b)
  else if s = ⟨#[114, 101, 109]⟩ then some (remR a b)
  else if s = ⟨#[109, 111, 100]⟩ then some (modR a b)
  else none
end Go.Proofs.Ytdflckjnpgbjlaa

/- Walks of the library's turning of two blocks of terms. Conditions: the row is the call's own. -/
import Derived.Test.YtdflckjnpgbjlaaZc
set_option linter.unusedVariables false
set_option maxRecDepth 20000
set_option linter.unusedSimpArgs false
namespace Go.Proofs.Ytdflckjnpgbjlaa
open Go.RowKit
attribute [local go_sem ↓] Go.wp_at_zero Go.wp_at_succ
set_option maxRecDepth 100000 in
set_option maxHeartbeats 8000000 in
theorem rotate_c (g cap : Nat) (ok : Nat → Prop) (P A B Q : List Tm) (w : World) (hR : Rw g cap ok (P ++ (A ++ (B ++ Q))) w) (hn : (P ++ (A ++ (B ++ Q))).length ≤ 1000000) (hA : A ≠ []) (hB : B ≠ []) {N a m b : Nat} (hN : N = (P ++ (A ++ (B ++ Q))).length) (ha : a = P.length) (hm : m = P.length + A.length) (hb : b = P.length + A.length + B.length) :
    Calls Try.prog 159 #[.slice (some ⟨g, 0, none⟩) N cap, .int .i64 (a : Int), .int .i64 (m : Int), .int .i64 (b : Int), .func (.func 51) #[] #[]] w fun e w' => e = .returned (.tuple #[]) ∧ Rw g cap ok (P ++ (B ++ (A ++ Q))) w' ∧ Keeps (fun k => k = g) w w' := by
  have hA0 : 0 < A.length := List.length_pos_iff.2 hA
  have hB0 : 0 < B.length := List.length_pos_iff.2 hB
  have hs := RotI.start P A B Q
  rw [← hm] at hs
  have hNT : N = (P ++ (B ++ (A ++ Q))).length := by rw [hN]; simp; omega
  generalize P ++ (B ++ (A ++ Q)) = tgt at hs hNT ⊢
  generalize P ++ (A ++ (B ++ Q)) = zs at hs hR hn hN
  obtain ⟨i0, hi0⟩ : ∃ i, i = A.length := ⟨_, rfl⟩
  obtain ⟨j0, hj0⟩ : ∃ j, j = B.length := ⟨_, rfl⟩
  rw [← hi0, ← hj0] at hs
  have HS := Lib.hid hs
  have HR := Lib.hid hR
  have HN := Lib.hid hNT
  have hw1 : IntKind.i64.wrap ((m : Int) - (a : Int)) = (i0 : Int) := by rw [IntKind.wrap_i64]; have := hs.len; omega
  have hw2 : IntKind.i64.wrap ((b : Int) - (m : Int)) = (j0 : Int) := by rw [IntKind.wrap_i64]; have := hs.len; omega
  have hi1 : 0 < i0 := by omega
  have hj1 : 0 < j0 := by omega
  have hN6 : N ≤ 1000000 := by omega
  clear hs hR hn hN hNT ha hm hb hi0 hj0 hA0 hB0 hA hB
  go_enter Try.func159, Try.ntmps159
  go_wp2
  go_loopw [10, 11] (fun u v wr => ∃ (i j : Nat) (ys : List Tm), 0 < i ∧ 0 < j ∧ u = .int .i64 (i : Int) ∧ v = .int .i64 (j : Int) ∧ Hid (RotI m tgt i j ys) ∧ Rw g cap ok ys wr ∧ Keeps (fun k => k = g) w wr) (fun u v _ => (intOf u).toNat + (intOf v).toNat)
  case atStart => exact ⟨i0, j0, zs, hi1, hj1, rfl, rfl, HS, HR.out, Keeps.refl _ _⟩
  case round =>
    clear HS HR hw1 hw2 hi1 hj1
    obtain ⟨i, j, ys, hi1, hj1, rfl, rfl, hS, hR, hK⟩ := hrel
    obtain ⟨hl1, hl2, hl3⟩ := hS.out.len
    rw [← HN.out] at hl3
    by_cases hij : i = j
    · subst hij
      obtain ⟨P, U, V, X, Q, rfl, e1, e2, e3, e4, e5⟩ := hS.out.eq
      obtain ⟨x, hx⟩ : ∃ x, x = m - i := ⟨_, rfl⟩
      have hw1 : IntKind.i64.wrap ((m : Int) - (i : Int)) = (x : Int) := by rw [IntKind.wrap_i64]; omega
      have HC := Lib.hid (swapRange_c g cap ok P U V X Q _ hR (by omega) e1 (N := N) (a := x) (b := m) (m := i) hl3.symm (by omega) e3 e4)
      have HE := Lib.hid e5
      clear e1 e2 e3 e4 e5 hS hx hl1 hl2 hl3 hR
      go_wp2_with (go_at_call 160; refine HC.out.mono ?_; clear HC; rintro e w1 ⟨rfl, hR1, hK1⟩)
      go_end0
      exact ⟨rfl, by rw [HE.out]; exact hR1, hK.then' hK1⟩
    · have hij' : ((i : Int) == (j : Int)) = false := by rw [beq_eq_false_iff_ne]; omega
      have hij2 : ¬ (i : Int) = (j : Int) := by omega
      by_cases hgt : j < i
      · obtain ⟨P, U, V, X, Q, rfl, e1, e2, e3, e4, e5⟩ := hS.out.gt hgt
        obtain ⟨x, hx⟩ : ∃ x, x = m - i := ⟨_, rfl⟩
        obtain ⟨y, hy⟩ : ∃ y, y = i - j := ⟨_, rfl⟩
        have hw1 : IntKind.i64.wrap ((m : Int) - (i : Int)) = (x : Int) := by rw [IntKind.wrap_i64]; omega
        have hw2 : IntKind.i64.wrap ((i : Int) - (j : Int)) = (y : Int) := by rw [IntKind.wrap_i64]; omega
        have HC := Lib.hid (swapRange_c g cap ok P U V X Q _ hR (by omega) e1 (N := N) (a := x) (b := m) (m := j) hl3.symm (by omega) e3 e4)
        rw [← hy] at e5
        have HE := Lib.hid e5
        have hy0 : 0 < y := by omega
        have hyi : y < i := by omega
        have hgt' : (j : Int) < (i : Int) := by omega
        clear e1 e2 e3 e4 e5 hS hx hl1 hl2 hl3 hR hy
        go_wp2_with (go_at_call 160; refine HC.out.mono ?_; clear HC; rintro e w1 ⟨rfl, hR1, hK1⟩)
        go_roundw
        case rel => exact ⟨y, j, _, hy0, hj1, rfl, rfl, HE, hR1, hK.then' hK1⟩
        case measure => simp [intOf]; omega
      · obtain ⟨P, U, V, X, Q, rfl, e1, e2, e3, e4, e5⟩ := hS.out.lt (by omega)
        obtain ⟨x, hx⟩ : ∃ x, x = m - i := ⟨_, rfl⟩
        obtain ⟨y, hy⟩ : ∃ y, y = j - i := ⟨_, rfl⟩
        obtain ⟨z, hz⟩ : ∃ z, z = m + j - i := ⟨_, rfl⟩
        obtain ⟨s, hs⟩ : ∃ s, s = m + j := ⟨_, rfl⟩
        have hw1 : IntKind.i64.wrap ((m : Int) - (i : Int)) = (x : Int) := by rw [IntKind.wrap_i64]; omega
        have hw2 : IntKind.i64.wrap ((j : Int) - (i : Int)) = (y : Int) := by rw [IntKind.wrap_i64]; omega
        have hw3 : IntKind.i64.wrap ((m : Int) + (j : Int)) = (s : Int) := by rw [IntKind.wrap_i64]; omega
        have hw4 : IntKind.i64.wrap ((s : Int) - (i : Int)) = (z : Int) := by rw [IntKind.wrap_i64]; omega
        have HC := Lib.hid (swapRange_c g cap ok P U V X Q _ hR (by omega) e1 (N := N) (a := x) (b := z) (m := i) hl3.symm (by omega) (by omega) e4)
        rw [← hy] at e5
        have HE := Lib.hid e5
        have hy0 : 0 < y := by omega
        have hyi : y < j := by omega
        have hgt' : ¬ (j : Int) < (i : Int) := by omega
        clear e1 e2 e3 e4 e5 hS hx hl1 hl2 hl3 hR hy hz hs hN6
        go_wp2_with (go_at_call 160; refine HC.out.mono ?_; clear HC; rintro e w1 ⟨rfl, hR1, hK1⟩)
        go_roundw
        case rel => exact ⟨i, y, _, hi1, hy0, rfl, rfl, HE, hR1, hK.then' hK1⟩
        case measure => simp [intOf]; omega
end Go.Proofs.Ytdflckjnpgbjlaa

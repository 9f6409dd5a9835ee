/- Layer 22's reference: an instruction by itself, all operations. Conditions: the argument reads; texts no longer than what is borne. -/
import Derived.Test.YtdflckjnpgbjlaaCia
import Derived.Test.YtdflckjnpgbjlaaCib
import Derived.Test.YtdflckjnpgbjlaaCic
set_option linter.unusedVariables false
set_option maxRecDepth 20000
set_option linter.unusedSimpArgs false
namespace Go.Proofs.Ytdflckjnpgbjlaa
open Go.RowKit

/-- Is an instruction, by itself, as it must be? -/
def oneB (i : In) (n : Int) : Bool := decide (1 ≤ i.op) && decide (i.op ≤ 31) && okB i n
set_option maxRecDepth 100000 in
set_option maxHeartbeats 4000000 in
theorem one22_c (i : In) (n : Int) (v : Value) (w : World) (ok : Nat → Prop) (hv : InV .i64 w ok i v) (hsz : ∀ x ∈ i.cs, x.s.size ≤ 140737488351232) : Calls Try.prog 76 #[v, .int .i64 n] w fun e w' => e = .returned (.bool (oneB i n)) ∧ Below w.heap.size w w' := by
  obtain ⟨u, rfl, hS⟩ := hv
  obtain ⟨A, c, rfl⟩ := hS.form
  have HK : Hid (Ob w i (.slice A i.cs.length c) (w.alloc (.cells #[.int .i64 i.op, .int .i64 i.a, .int .i64 i.b, .int .u8 i.kd, .string i.s, .int .i64 i.n, .slice A i.cs.length c] 128))) := Lib.hid ⟨(Below.refl _ w).alloc (Nat.le_refl _) _, heap_new w _, (hS.below ((Below.refl _ w).alloc (Nat.le_refl _) _)).mono (fun _ _ => trivial)⟩
  have HC := Lib.hid (fun W (h : Kd.cs.S W (fun _ => True) i.cs (.slice A i.cs.length c)) => cases22_c i.cs n _ W _ h hsz)
  have HIN : ∀ l b, inB i.op l = b → Hid (∀ W v, (Kd.int .i64).S W (fun _ => True) l v → Calls Try.prog 74 #[.int .i64 i.op, v] W fun e w' => e = .returned (.bool b) ∧ Below W.heap.size W w') := fun l b hb => Lib.hid (fun W v h => by have := in_c i.op l v W _ h; rw [hb] at this; exact this)
  clear hS
  by_cases h1 : i.op < 1
  · have hR : Hid (oneB i n = false) := Lib.hid (by unfold oneB; simp; omega)
    have hd : decide (i.op < 1) = true := by simpa using h1
    have h := HK.out
    obtain ⟨c0, c1, c2, c3, c4, c5, c6⟩ := box7 h.x0
    clear HK HC HIN h1
    go_enter Try.func76, Try.ntmps76
    go_wp2
    go_ret
    exact ⟨ret_bool hR.out.symm, h.b0⟩
  have hd1 : decide (i.op < 1) = false := by simpa using h1
  by_cases h2 : 31 < i.op
  · have hR : Hid (oneB i n = false) := Lib.hid (by unfold oneB; simp; omega)
    have hd : decide (31 < i.op) = true := by simpa using h2
    have h := HK.out
    obtain ⟨c0, c1, c2, c3, c4, c5, c6⟩ := box7 h.x0
    clear HK HC HIN h1 h2
    go_enter Try.func76, Try.ntmps76
    go_wp2
    go_ret
    exact ⟨ret_bool hR.out.symm, h.b0⟩
  have hd2 : decide (31 < i.op) = false := by simpa using h2
  have hone : oneB i n = okB i n := by unfold oneB; rw [show decide (1 ≤ i.op) = true by simp; omega, show decide (i.op ≤ 31) = true by simp; omega]; simp
  rw [hone]
  by_cases e1 : i.op = 1
  · have hR : Hid (okB i n = (decide (0 ≤ i.a) && decide (i.a ≤ 64))) := Lib.hid (by unfold okB; rw [if_pos e1])
    have hd : (i.op == 1) = true := by simpa using e1
    have h := HK.out
    obtain ⟨c0, c1, c2, c3, c4, c5, c6⟩ := box7 h.x0
    clear HK HC HIN h1 h2 e1 hone
    generalize okB i n = R at hR
    go_enter Try.func76, Try.ntmps76
    go_wp2
    all_goals go_ret
    all_goals exact ⟨ret_bool (by have hr := hR.out; first | exact hr.symm | (rw [hr]; first | (simp; done) | (simp; omega) | (simp [*]; done) | (simp [*]; omega))), h.b0⟩
  have hd3 : (i.op == 1) = false := by simpa using e1
  obtain ⟨o, ho⟩ : ∃ o : Nat, i.op = (o : Int) := ⟨i.op.toNat, by omega⟩
  have hr : 2 ≤ o ∧ o ≤ 31 := by omega
  have hw : o = 2 ∨ o = 5 ∨ o = 6 ∨ o = 7 ∨ o = 8 ∨ o = 3 ∨ o = 4 ∨ o = 9 ∨ o = 10 ∨ o = 11 ∨ o = 12 ∨ o = 13 ∨ o = 14 ∨ o = 15 ∨ o = 16 ∨ o = 22 ∨ o = 23 ∨ o = 30 ∨ o = 17 ∨ o = 24 ∨ o = 26 ∨ o = 28 ∨ o = 18 ∨ o = 27 ∨ o = 29 ∨ o = 25 ∨ o = 19 ∨ o = 20 ∨ o = 31 ∨ o = 21 := by omega
  rcases hw with hw | hw | hw | hw | hw | hw | hw | hw | hw | hw | hw | hw | hw | hw | hw | hw | hw | hw | hw | hw | hw | hw | hw | hw | hw | hw | hw | hw | hw | hw
  · exact one_none HK (HIN _ false (by rw [ho, hw]; rfl)) (HIN _ false (by rw [ho, hw]; rfl)) (HIN _ false (by rw [ho, hw]; rfl)) (HIN _ false (by rw [ho, hw]; rfl)) (HIN _ false (by rw [ho, hw]; rfl)) (HIN _ false (by rw [ho, hw]; rfl)) (HIN _ false (by rw [ho, hw]; rfl)) (HIN _ false (by rw [ho, hw]; rfl)) HC hd1 hd2 hd3 (by rw [ho, hw]; rfl) (by rw [ho, hw]; rfl) (Lib.hid (by unfold okB; rw [ho, hw]; rfl))
  · exact one_none HK (HIN _ false (by rw [ho, hw]; rfl)) (HIN _ false (by rw [ho, hw]; rfl)) (HIN _ false (by rw [ho, hw]; rfl)) (HIN _ false (by rw [ho, hw]; rfl)) (HIN _ false (by rw [ho, hw]; rfl)) (HIN _ false (by rw [ho, hw]; rfl)) (HIN _ false (by rw [ho, hw]; rfl)) (HIN _ false (by rw [ho, hw]; rfl)) HC hd1 hd2 hd3 (by rw [ho, hw]; rfl) (by rw [ho, hw]; rfl) (Lib.hid (by unfold okB; rw [ho, hw]; rfl))
  · exact one_none HK (HIN _ false (by rw [ho, hw]; rfl)) (HIN _ false (by rw [ho, hw]; rfl)) (HIN _ false (by rw [ho, hw]; rfl)) (HIN _ false (by rw [ho, hw]; rfl)) (HIN _ false (by rw [ho, hw]; rfl)) (HIN _ false (by rw [ho, hw]; rfl)) (HIN _ false (by rw [ho, hw]; rfl)) (HIN _ false (by rw [ho, hw]; rfl)) HC hd1 hd2 hd3 (by rw [ho, hw]; rfl) (by rw [ho, hw]; rfl) (Lib.hid (by unfold okB; rw [ho, hw]; rfl))
  · exact one_none HK (HIN _ false (by rw [ho, hw]; rfl)) (HIN _ false (by rw [ho, hw]; rfl)) (HIN _ false (by rw [ho, hw]; rfl)) (HIN _ false (by rw [ho, hw]; rfl)) (HIN _ false (by rw [ho, hw]; rfl)) (HIN _ false (by rw [ho, hw]; rfl)) (HIN _ false (by rw [ho, hw]; rfl)) (HIN _ false (by rw [ho, hw]; rfl)) HC hd1 hd2 hd3 (by rw [ho, hw]; rfl) (by rw [ho, hw]; rfl) (Lib.hid (by unfold okB; rw [ho, hw]; rfl))
  · exact one_none HK (HIN _ false (by rw [ho, hw]; rfl)) (HIN _ false (by rw [ho, hw]; rfl)) (HIN _ false (by rw [ho, hw]; rfl)) (HIN _ false (by rw [ho, hw]; rfl)) (HIN _ false (by rw [ho, hw]; rfl)) (HIN _ false (by rw [ho, hw]; rfl)) (HIN _ false (by rw [ho, hw]; rfl)) (HIN _ false (by rw [ho, hw]; rfl)) HC hd1 hd2 hd3 (by rw [ho, hw]; rfl) (by rw [ho, hw]; rfl) (Lib.hid (by unfold okB; rw [ho, hw]; rfl))
  · exact one_c34 HK (HIN _ true (by rw [ho, hw]; rfl)) (HIN _ true (by rw [ho, hw]; rfl)) (HIN _ false (by rw [ho, hw]; rfl)) (HIN _ false (by rw [ho, hw]; rfl)) (HIN _ false (by rw [ho, hw]; rfl)) (HIN _ false (by rw [ho, hw]; rfl)) (HIN _ false (by rw [ho, hw]; rfl)) (HIN _ false (by rw [ho, hw]; rfl)) HC hd1 hd2 hd3 (by rw [ho, hw]; rfl) (by rw [ho, hw]; rfl) (Lib.hid (by unfold okB; rw [ho, hw]; rfl))
  · exact one_c34 HK (HIN _ true (by rw [ho, hw]; rfl)) (HIN _ true (by rw [ho, hw]; rfl)) (HIN _ false (by rw [ho, hw]; rfl)) (HIN _ false (by rw [ho, hw]; rfl)) (HIN _ false (by rw [ho, hw]; rfl)) (HIN _ false (by rw [ho, hw]; rfl)) (HIN _ false (by rw [ho, hw]; rfl)) (HIN _ false (by rw [ho, hw]; rfl)) HC hd1 hd2 hd3 (by rw [ho, hw]; rfl) (by rw [ho, hw]; rfl) (Lib.hid (by unfold okB; rw [ho, hw]; rfl))
  · exact one_c9 HK (HIN _ false (by rw [ho, hw]; rfl)) (HIN _ true (by rw [ho, hw]; rfl)) (HIN _ false (by rw [ho, hw]; rfl)) (HIN _ false (by rw [ho, hw]; rfl)) (HIN _ false (by rw [ho, hw]; rfl)) (HIN _ false (by rw [ho, hw]; rfl)) (HIN _ false (by rw [ho, hw]; rfl)) (HIN _ false (by rw [ho, hw]; rfl)) HC hd1 hd2 hd3 (by rw [ho, hw]; rfl) (by rw [ho, hw]; rfl) (Lib.hid (by unfold okB; rw [ho, hw]; rfl))
  · exact one_c10 HK (HIN _ true (by rw [ho, hw]; rfl)) (HIN _ false (by rw [ho, hw]; rfl)) (HIN _ true (by rw [ho, hw]; rfl)) (HIN _ false (by rw [ho, hw]; rfl)) (HIN _ false (by rw [ho, hw]; rfl)) (HIN _ false (by rw [ho, hw]; rfl)) (HIN _ false (by rw [ho, hw]; rfl)) (HIN _ false (by rw [ho, hw]; rfl)) HC hd1 hd2 hd3 (by rw [ho, hw]; rfl) (by rw [ho, hw]; rfl) (Lib.hid (by unfold okB; rw [ho, hw]; rfl))
  · exact one_c10 HK (HIN _ true (by rw [ho, hw]; rfl)) (HIN _ false (by rw [ho, hw]; rfl)) (HIN _ true (by rw [ho, hw]; rfl)) (HIN _ false (by rw [ho, hw]; rfl)) (HIN _ false (by rw [ho, hw]; rfl)) (HIN _ false (by rw [ho, hw]; rfl)) (HIN _ false (by rw [ho, hw]; rfl)) (HIN _ false (by rw [ho, hw]; rfl)) HC hd1 hd2 hd3 (by rw [ho, hw]; rfl) (by rw [ho, hw]; rfl) (Lib.hid (by unfold okB; rw [ho, hw]; rfl))
  · exact one_c10 HK (HIN _ true (by rw [ho, hw]; rfl)) (HIN _ false (by rw [ho, hw]; rfl)) (HIN _ true (by rw [ho, hw]; rfl)) (HIN _ false (by rw [ho, hw]; rfl)) (HIN _ false (by rw [ho, hw]; rfl)) (HIN _ false (by rw [ho, hw]; rfl)) (HIN _ false (by rw [ho, hw]; rfl)) (HIN _ false (by rw [ho, hw]; rfl)) HC hd1 hd2 hd3 (by rw [ho, hw]; rfl) (by rw [ho, hw]; rfl) (Lib.hid (by unfold okB; rw [ho, hw]; rfl))
  · exact one_c13 HK (HIN _ true (by rw [ho, hw]; rfl)) (HIN _ false (by rw [ho, hw]; rfl)) (HIN _ false (by rw [ho, hw]; rfl)) (HIN _ true (by rw [ho, hw]; rfl)) (HIN _ false (by rw [ho, hw]; rfl)) (HIN _ false (by rw [ho, hw]; rfl)) (HIN _ false (by rw [ho, hw]; rfl)) (HIN _ false (by rw [ho, hw]; rfl)) HC hd1 hd2 hd3 (by rw [ho, hw]; rfl) (by rw [ho, hw]; rfl) (Lib.hid (by unfold okB; rw [ho, hw]; rfl))
  · exact one_c14 HK (HIN _ false (by rw [ho, hw]; rfl)) (HIN _ false (by rw [ho, hw]; rfl)) (HIN _ false (by rw [ho, hw]; rfl)) (HIN _ true (by rw [ho, hw]; rfl)) (HIN _ false (by rw [ho, hw]; rfl)) (HIN _ false (by rw [ho, hw]; rfl)) (HIN _ false (by rw [ho, hw]; rfl)) (HIN _ false (by rw [ho, hw]; rfl)) HC hd1 hd2 hd3 (by rw [ho, hw]; rfl) (by rw [ho, hw]; rfl) (Lib.hid (by unfold okB; rw [ho, hw]; rfl))
  · exact one_c15 HK (HIN _ false (by rw [ho, hw]; rfl)) (HIN _ false (by rw [ho, hw]; rfl)) (HIN _ false (by rw [ho, hw]; rfl)) (HIN _ false (by rw [ho, hw]; rfl)) (HIN _ true (by rw [ho, hw]; rfl)) (HIN _ true (by rw [ho, hw]; rfl)) (HIN _ false (by rw [ho, hw]; rfl)) (HIN _ false (by rw [ho, hw]; rfl)) HC hd1 hd2 hd3 (by rw [ho, hw]; rfl) (by rw [ho, hw]; rfl) (Lib.hid (by unfold okB; rw [ho, hw]; rfl))
  · exact one_c15 HK (HIN _ false (by rw [ho, hw]; rfl)) (HIN _ false (by rw [ho, hw]; rfl)) (HIN _ false (by rw [ho, hw]; rfl)) (HIN _ false (by rw [ho, hw]; rfl)) (HIN _ true (by rw [ho, hw]; rfl)) (HIN _ true (by rw [ho, hw]; rfl)) (HIN _ false (by rw [ho, hw]; rfl)) (HIN _ false (by rw [ho, hw]; rfl)) HC hd1 hd2 hd3 (by rw [ho, hw]; rfl) (by rw [ho, hw]; rfl) (Lib.hid (by unfold okB; rw [ho, hw]; rfl))
  · exact one_c15 HK (HIN _ false (by rw [ho, hw]; rfl)) (HIN _ false (by rw [ho, hw]; rfl)) (HIN _ false (by rw [ho, hw]; rfl)) (HIN _ false (by rw [ho, hw]; rfl)) (HIN _ true (by rw [ho, hw]; rfl)) (HIN _ true (by rw [ho, hw]; rfl)) (HIN _ false (by rw [ho, hw]; rfl)) (HIN _ false (by rw [ho, hw]; rfl)) HC hd1 hd2 hd3 (by rw [ho, hw]; rfl) (by rw [ho, hw]; rfl) (Lib.hid (by unfold okB; rw [ho, hw]; rfl))
  · exact one_c15 HK (HIN _ false (by rw [ho, hw]; rfl)) (HIN _ false (by rw [ho, hw]; rfl)) (HIN _ false (by rw [ho, hw]; rfl)) (HIN _ false (by rw [ho, hw]; rfl)) (HIN _ true (by rw [ho, hw]; rfl)) (HIN _ true (by rw [ho, hw]; rfl)) (HIN _ false (by rw [ho, hw]; rfl)) (HIN _ false (by rw [ho, hw]; rfl)) HC hd1 hd2 hd3 (by rw [ho, hw]; rfl) (by rw [ho, hw]; rfl) (Lib.hid (by unfold okB; rw [ho, hw]; rfl))
  · exact one_c15 HK (HIN _ false (by rw [ho, hw]; rfl)) (HIN _ false (by rw [ho, hw]; rfl)) (HIN _ false (by rw [ho, hw]; rfl)) (HIN _ false (by rw [ho, hw]; rfl)) (HIN _ true (by rw [ho, hw]; rfl)) (HIN _ true (by rw [ho, hw]; rfl)) (HIN _ false (by rw [ho, hw]; rfl)) (HIN _ false (by rw [ho, hw]; rfl)) HC hd1 hd2 hd3 (by rw [ho, hw]; rfl) (by rw [ho, hw]; rfl) (Lib.hid (by unfold okB; rw [ho, hw]; rfl))
  · exact one_c17 HK (HIN _ false (by rw [ho, hw]; rfl)) (HIN _ false (by rw [ho, hw]; rfl)) (HIN _ false (by rw [ho, hw]; rfl)) (HIN _ false (by rw [ho, hw]; rfl)) (HIN _ false (by rw [ho, hw]; rfl)) (HIN _ true (by rw [ho, hw]; rfl)) (HIN _ true (by rw [ho, hw]; rfl)) (HIN _ false (by rw [ho, hw]; rfl)) HC hd1 hd2 hd3 (by rw [ho, hw]; rfl) (by rw [ho, hw]; rfl) (Lib.hid (by unfold okB; rw [ho, hw]; rfl))
  · exact one_c17 HK (HIN _ false (by rw [ho, hw]; rfl)) (HIN _ false (by rw [ho, hw]; rfl)) (HIN _ false (by rw [ho, hw]; rfl)) (HIN _ false (by rw [ho, hw]; rfl)) (HIN _ false (by rw [ho, hw]; rfl)) (HIN _ true (by rw [ho, hw]; rfl)) (HIN _ true (by rw [ho, hw]; rfl)) (HIN _ false (by rw [ho, hw]; rfl)) HC hd1 hd2 hd3 (by rw [ho, hw]; rfl) (by rw [ho, hw]; rfl) (Lib.hid (by unfold okB; rw [ho, hw]; rfl))
  · exact one_c17 HK (HIN _ false (by rw [ho, hw]; rfl)) (HIN _ false (by rw [ho, hw]; rfl)) (HIN _ false (by rw [ho, hw]; rfl)) (HIN _ false (by rw [ho, hw]; rfl)) (HIN _ false (by rw [ho, hw]; rfl)) (HIN _ true (by rw [ho, hw]; rfl)) (HIN _ true (by rw [ho, hw]; rfl)) (HIN _ false (by rw [ho, hw]; rfl)) HC hd1 hd2 hd3 (by rw [ho, hw]; rfl) (by rw [ho, hw]; rfl) (Lib.hid (by unfold okB; rw [ho, hw]; rfl))
  · exact one_c17 HK (HIN _ false (by rw [ho, hw]; rfl)) (HIN _ false (by rw [ho, hw]; rfl)) (HIN _ false (by rw [ho, hw]; rfl)) (HIN _ false (by rw [ho, hw]; rfl)) (HIN _ false (by rw [ho, hw]; rfl)) (HIN _ true (by rw [ho, hw]; rfl)) (HIN _ true (by rw [ho, hw]; rfl)) (HIN _ false (by rw [ho, hw]; rfl)) HC hd1 hd2 hd3 (by rw [ho, hw]; rfl) (by rw [ho, hw]; rfl) (Lib.hid (by unfold okB; rw [ho, hw]; rfl))
  · exact one_c18 HK (HIN _ false (by rw [ho, hw]; rfl)) (HIN _ false (by rw [ho, hw]; rfl)) (HIN _ false (by rw [ho, hw]; rfl)) (HIN _ false (by rw [ho, hw]; rfl)) (HIN _ false (by rw [ho, hw]; rfl)) (HIN _ true (by rw [ho, hw]; rfl)) (HIN _ false (by rw [ho, hw]; rfl)) (HIN _ true (by rw [ho, hw]; rfl)) HC hd1 hd2 hd3 (by rw [ho, hw]; rfl) (by rw [ho, hw]; rfl) (Lib.hid (by unfold okB; rw [ho, hw]; rfl))
  · exact one_c18 HK (HIN _ false (by rw [ho, hw]; rfl)) (HIN _ false (by rw [ho, hw]; rfl)) (HIN _ false (by rw [ho, hw]; rfl)) (HIN _ false (by rw [ho, hw]; rfl)) (HIN _ false (by rw [ho, hw]; rfl)) (HIN _ true (by rw [ho, hw]; rfl)) (HIN _ false (by rw [ho, hw]; rfl)) (HIN _ true (by rw [ho, hw]; rfl)) HC hd1 hd2 hd3 (by rw [ho, hw]; rfl) (by rw [ho, hw]; rfl) (Lib.hid (by unfold okB; rw [ho, hw]; rfl))
  · exact one_c18 HK (HIN _ false (by rw [ho, hw]; rfl)) (HIN _ false (by rw [ho, hw]; rfl)) (HIN _ false (by rw [ho, hw]; rfl)) (HIN _ false (by rw [ho, hw]; rfl)) (HIN _ false (by rw [ho, hw]; rfl)) (HIN _ true (by rw [ho, hw]; rfl)) (HIN _ false (by rw [ho, hw]; rfl)) (HIN _ true (by rw [ho, hw]; rfl)) HC hd1 hd2 hd3 (by rw [ho, hw]; rfl) (by rw [ho, hw]; rfl) (Lib.hid (by unfold okB; rw [ho, hw]; rfl))
  · exact one_c25 HK (HIN _ false (by rw [ho, hw]; rfl)) (HIN _ false (by rw [ho, hw]; rfl)) (HIN _ false (by rw [ho, hw]; rfl)) (HIN _ false (by rw [ho, hw]; rfl)) (HIN _ false (by rw [ho, hw]; rfl)) (HIN _ false (by rw [ho, hw]; rfl)) (HIN _ false (by rw [ho, hw]; rfl)) (HIN _ true (by rw [ho, hw]; rfl)) HC hd1 hd2 hd3 (by rw [ho, hw]; rfl) (by rw [ho, hw]; rfl) (Lib.hid (by unfold okB; rw [ho, hw]; rfl))
  · exact one_c19 HK (HIN _ false (by rw [ho, hw]; rfl)) (HIN _ false (by rw [ho, hw]; rfl)) (HIN _ false (by rw [ho, hw]; rfl)) (HIN _ false (by rw [ho, hw]; rfl)) (HIN _ true (by rw [ho, hw]; rfl)) (HIN _ false (by rw [ho, hw]; rfl)) (HIN _ false (by rw [ho, hw]; rfl)) (HIN _ false (by rw [ho, hw]; rfl)) HC hd1 hd2 hd3 (by rw [ho, hw]; rfl) (by rw [ho, hw]; rfl) (Lib.hid (by unfold okB; rw [ho, hw]; rfl))
  · exact one_c19 HK (HIN _ false (by rw [ho, hw]; rfl)) (HIN _ false (by rw [ho, hw]; rfl)) (HIN _ false (by rw [ho, hw]; rfl)) (HIN _ false (by rw [ho, hw]; rfl)) (HIN _ true (by rw [ho, hw]; rfl)) (HIN _ false (by rw [ho, hw]; rfl)) (HIN _ false (by rw [ho, hw]; rfl)) (HIN _ false (by rw [ho, hw]; rfl)) HC hd1 hd2 hd3 (by rw [ho, hw]; rfl) (by rw [ho, hw]; rfl) (Lib.hid (by unfold okB; rw [ho, hw]; rfl))
  · exact one_c19 HK (HIN _ false (by rw [ho, hw]; rfl)) (HIN _ false (by rw [ho, hw]; rfl)) (HIN _ false (by rw [ho, hw]; rfl)) (HIN _ false (by rw [ho, hw]; rfl)) (HIN _ true (by rw [ho, hw]; rfl)) (HIN _ false (by rw [ho, hw]; rfl)) (HIN _ false (by rw [ho, hw]; rfl)) (HIN _ false (by rw [ho, hw]; rfl)) HC hd1 hd2 hd3 (by rw [ho, hw]; rfl) (by rw [ho, hw]; rfl) (Lib.hid (by unfold okB; rw [ho, hw]; rfl))
  · exact one_c21 HK (HIN _ false (by rw [ho, hw]; rfl)) (HIN _ false (by rw [ho, hw]; rfl)) (HIN _ false (by rw [ho, hw]; rfl)) (HIN _ false (by rw [ho, hw]; rfl)) (HIN _ false (by rw [ho, hw]; rfl)) (HIN _ false (by rw [ho, hw]; rfl)) (HIN _ true (by rw [ho, hw]; rfl)) (HIN _ false (by rw [ho, hw]; rfl)) HC hd1 hd2 hd3 (by rw [ho, hw]; rfl) (by rw [ho, hw]; rfl) (Lib.hid (by unfold okB; rw [ho, hw]; rfl))
end Go.Proofs.Ytdflckjnpgbjlaa

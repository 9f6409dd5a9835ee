/- Walks of the library's stable sort of at most thirty terms. Conditions: the row is the call's own. -/
import Derived.Test.YtdflckjnpgbjlaaZi
set_option linter.unusedVariables false
set_option maxRecDepth 20000
set_option linter.unusedSimpArgs false
namespace Go.Proofs.Ytdflckjnpgbjlaa
open Go.RowKit
/-- What the insertion sort leaves, its ends as numbers. -/
theorem ins_n (g cap : Nat) (ok : Nat → Prop) (P S Q : List Tm) (w : World) (hR : Rw g cap ok (P ++ (S ++ Q)) w) (hn : (P ++ (S ++ Q)).length ≤ 1000000) {N lo hi : Nat} (eN : N = (P ++ (S ++ Q)).length) (elo : lo = P.length) (ehi : hi = P.length + S.length) :
    Calls Try.prog 151 #[.slice (some ⟨g, 0, none⟩) N cap, .int .i64 (lo : Int), .int .i64 (hi : Int), .func (.func 51) #[] #[]] w fun e w' => e = .returned (.tuple #[]) ∧ (∃ M, Sd M ∧ M.Perm S ∧ Rw g cap ok (P ++ (M ++ Q)) w') ∧ Keeps (fun k => k = g) w w' := by
  subst eN elo ehi
  exact ins_c g cap ok P S Q w hR hn
theorem stab_c (g cap : Nat) (ok : Nat → Prop) (xs : List Tm) (w : World) (hR : Rw g cap ok xs w) (hn : xs.length ≤ 30) :
    Calls Try.prog 134 #[.slice (some ⟨g, 0, none⟩) xs.length cap, .int .i64 xs.length, .func (.func 51) #[] #[]] w fun e w' => e = .returned (.tuple #[]) ∧ (∃ M, Sd M ∧ M.Perm xs ∧ Rw g cap ok M w') ∧ Keeps (fun k => k = g) w w' := by
  obtain ⟨N, hN⟩ : ∃ N, N = xs.length := ⟨_, rfl⟩
  rw [← hN] at hn ⊢
  by_cases h20 : N < 20
  · have HI := Lib.hid (ins_n g cap ok [] xs [] w (by simpa using hR) (by simp; omega) (N := N) (lo := 0) (hi := N) (by simpa using hN) rfl (by simpa using hN))
    clear hR hN
    have h1 : ¬ (20 : Int) ≤ N := by omega
    have h2 : ¬ (20 : Int) < N := by omega
    go_enter Try.func134, Try.ntmps134
    go_wp2
    refine wp_loop_rounds 1 ?_
    rw [rounds_succ]
    go_wp2_with (go_at_call 151; refine HI.out.mono ?_; clear HI; rintro e w1 ⟨rfl, hR1, hK1⟩)
    refine wp_loop_rounds 1 ?_
    rw [rounds_succ]
    go_wp2
    go_end0
    exact ⟨rfl, (by simpa using hR1), hK1⟩
  · obtain ⟨X, Y, hxy, hX⟩ := split_le (l := xs) (i := 20) (by omega)
    subst hxy
    have hl : N = 20 + Y.length := by rw [hN, List.length_append, hX]
    have HI := Lib.hid (ins_n g cap ok [] X Y w (by simpa using hR) (by simp; omega) (N := N) (lo := 0) (hi := 20) (by simpa using hN) rfl (by simpa using hX.symm))
    have HJ := Lib.hid (fun (W : World) (M : List Tm) (hp : M.Perm X) (hR : Rw g cap ok (M ++ Y) W) => ins_n g cap ok M Y [] W (by simpa using hR) (by have := hp.length_eq; simp; omega) (N := N) (lo := 20) (hi := N) (by have := hp.length_eq; simp; omega) (by have := hp.length_eq; omega) (by have := hp.length_eq; omega))
    have HM := Lib.hid (fun (h : 20 < N) (W : World) (M L : List Tm) (hp : M.Perm X) (hq : L.Perm Y) (hM : Sd M) (hL : Sd L) (hR : Rw g cap ok (M ++ L) W) => sm_c g cap ok 30 [] M L [] W (by have := hp.length_eq; have := hq.length_eq; omega) (by simpa using hR) (by have := hp.length_eq; have := hq.length_eq; simp; omega) hM hL (List.length_pos_iff.1 (by have := hp.length_eq; omega)) (List.length_pos_iff.1 (by have := hq.length_eq; omega)) (N := N) (a := 0) (m := 20) (b := N) (by have := hp.length_eq; have := hq.length_eq; simp; omega) rfl (by have := hp.length_eq; omega) (by have := hq.length_eq; omega))
    have HL := Lib.hid (And.intro hX hl)
    clear hR hN hX hl
    have h1 : (20 : Int) ≤ N := by omega
    have h1' : ¬ (40 : Int) ≤ N := by omega
    by_cases h21 : 20 < N
    · have h2 : (20 : Int) < N := by omega
      have h3 : ¬ (40 : Int) < N := by omega
      have HM2 := Lib.hid (HM.out h21)
      clear HM h21
      go_enter Try.func134, Try.ntmps134
      go_wp2
      refine wp_loop_rounds 2 ?_
      rw [rounds_succ]
      go_wp2_with (go_at_call 151; refine HI.out.mono ?_; clear HI; rintro e w1 ⟨rfl, ⟨M, hM1, hM2, hM3⟩, hK1⟩)
      rw [rounds_succ]
      go_wp2_with (go_at_call 151; refine (HJ.out _ M hM2 (by simpa using hM3)).mono ?_; clear HJ; rintro e w2 ⟨rfl, ⟨L, hL1, hL2, hL3⟩, hK2⟩)
      refine wp_loop_rounds 2 ?_
      rw [rounds_succ]
      go_wp2
      refine wp_loop_rounds 1 ?_
      rw [rounds_succ]
      go_wp2_with (go_at_call 152; refine (HM2.out _ M L hM2 hL2 hM1 hL1 (by simpa using hL3)).mono ?_; clear HM2; rintro e w3 ⟨rfl, ⟨T, hT1, hT2, hT3⟩, hK3⟩)
      rw [rounds_succ]
      go_wp2
      go_end0
      exact ⟨rfl, ⟨T, hT1, hT2.trans (hM2.append hL2), by simpa using hT3⟩, (hK1.then' hK2).then' hK3⟩
    · have h2 : ¬ (20 : Int) < N := by omega
      have hY : Y = [] := List.eq_nil_of_length_eq_zero (by have := HL.out.2; omega)
      subst hY
      clear HM
      go_enter Try.func134, Try.ntmps134
      go_wp2
      refine wp_loop_rounds 2 ?_
      rw [rounds_succ]
      go_wp2_with (go_at_call 151; refine HI.out.mono ?_; clear HI; rintro e w1 ⟨rfl, ⟨M, hM1, hM2, hM3⟩, hK1⟩)
      rw [rounds_succ]
      go_wp2_with (go_at_call 151; refine (HJ.out _ M hM2 (by simpa using hM3)).mono ?_; clear HJ; rintro e w2 ⟨rfl, ⟨L, hL1, hL2, hL3⟩, hK2⟩)
      refine wp_loop_rounds 1 ?_
      rw [rounds_succ]
      go_wp2
      go_end0
      obtain rfl := hL2.eq_nil
      exact ⟨rfl, ⟨M, hM1, by simpa using hM2, by simpa using hL3⟩, hK1.then' hK2⟩
theorem sortStab_c (g cap : Nat) (ok : Nat → Prop) (xs : List Tm) (w : World) (hR : Rw g cap ok xs w) (hn : xs.length ≤ 30) :
    Calls Try.prog 81 #[.slice (some ⟨g, 0, none⟩) xs.length cap, .func (.func 51) #[] #[]] w fun e w' => e = .returned (.tuple #[]) ∧ (∃ M, Sd M ∧ M.Perm xs ∧ Rw g cap ok M w') ∧ Keeps (fun k => k = g) w w' := by
  have HI := Lib.hid (stab_c g cap ok xs w hR hn)
  clear hR
  go_enter Try.func81, Try.ntmps81
  go_wp2_with (go_at_call 134; refine HI.out.mono ?_; clear HI; rintro e w1 ⟨rfl, hR1, hK1⟩)
  go_end0
  exact ⟨rfl, hR1, hK1⟩
/-- Nothing to sort. -/
theorem ins0_c (v : Value) (w : World) : Calls Try.prog 151 #[v, .int .i64 0, .int .i64 0, .func (.func 51) #[] #[]] w fun e w' => e = .returned (.tuple #[]) ∧ w' = w := by
  go_enter Try.func151, Try.ntmps151
  go_wp2
  refine wp_loop_rounds 1 ?_
  rw [rounds_succ]
  go_wp2
  go_end0
  exact ⟨rfl, rfl⟩
theorem stab0_c (v : Value) (w : World) : Calls Try.prog 134 #[v, .int .i64 0, .func (.func 51) #[] #[]] w fun e w' => e = .returned (.tuple #[]) ∧ w' = w := by
  go_enter Try.func134, Try.ntmps134
  go_wp2
  refine wp_loop_rounds 1 ?_
  rw [rounds_succ]
  go_wp2_with (go_at_call 151; refine (ins0_c _ _).mono ?_; rintro e w1 ⟨rfl, hw1⟩; rw [hw1]; clear hw1)
  refine wp_loop_rounds 1 ?_
  rw [rounds_succ]
  go_wp2
  go_end0
  exact ⟨rfl, rfl⟩
theorem sortStab0_c (A : Option Addr) (c : Nat) (w : World) : Calls Try.prog 81 #[.slice A 0 c, .func (.func 51) #[] #[]] w fun e w' => e = .returned (.tuple #[]) ∧ w' = w := by
  go_enter Try.func81, Try.ntmps81
  go_wp2_with (go_at_call 134; refine (stab0_c _ _).mono ?_; rintro e w1 ⟨rfl, hw1⟩; rw [hw1]; clear hw1)
  go_end0
  exact ⟨rfl, rfl⟩
theorem SortR_c (xs : List Tm) (v : Value) (w : World) (ok : Nat → Prop) (hv : Kd.tm.S w ok xs v) (hn : xs.length ≤ 30) :
    Calls Try.prog 47 #[v] w fun e w' => (∃ A c M, e = .returned (.slice A xs.length c) ∧ Sd M ∧ M.Perm xs ∧ Kd.tm.S w' (fun _ => True) M (.slice A xs.length c)) ∧ Below w.heap.size w w' := by
  have HC := Lib.hid (Clone_c xs v w ok ok hv.S2 (by omega))
  obtain ⟨A, c, rfl⟩ := hv.form
  clear hv
  by_cases h0 : xs = []
  · subst h0
    go_enter Try.func47, Try.ntmps47
    go_wp2_with (first
      | (go_at_call 60; refine HC.out.mono ?_; clear HC; rintro e w1 ⟨⟨r, rfl, hr⟩, hb1⟩; obtain ⟨A1, c1, rfl⟩ := hr.form)
      | (go_at_call 81; refine (sortStab0_c _ _ _).mono ?_; rintro e w2 ⟨rfl, hw2⟩; rw [hw2]; clear hw2))
    go_ret
    exact ⟨⟨_, _, [], rfl, Sd.nil, .refl _, hr.S.mono (fun _ _ => trivial)⟩, hb1⟩
  · have HS := Lib.hid (fun g cap ok W (hR : Rw g cap ok xs W) => sortStab_c g cap ok xs W hR hn)
    go_enter Try.func47, Try.ntmps47
    go_wp2_with (first
      | (go_at_call 60; refine HC.out.mono ?_; clear HC; rintro e w1 ⟨⟨r, rfl, hr⟩, hb1⟩; obtain ⟨g, cap, rfl, hg, hR⟩ := hr.toRw h0; clear hr)
      | (go_at_call 81; refine (HS.out _ _ _ _ hR).mono ?_; clear HS; rintro e w2 ⟨rfl, ⟨M, hM1, hM2, hM3⟩, hK2⟩))
    go_ret
    have hS := hM3.S
    rw [hM2.length_eq] at hS
    exact ⟨⟨_, _, M, rfl, hM1, hM2, hS⟩, (((Keeps.of_below (S := fun _ => False) hb1)).trans (hK2.mono (fun i h => .inr (by omega)))).below⟩
end Go.Proofs.Ytdflckjnpgbjlaa

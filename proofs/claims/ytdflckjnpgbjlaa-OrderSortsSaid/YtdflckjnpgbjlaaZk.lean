/- Law 2: how often a term is in a list. Conditions: the arguments read. -/
import Derived.Test.YtdflckjnpgbjlaaZj
set_option linter.unusedVariables false
set_option maxRecDepth 20000
set_option linter.unusedSimpArgs false
namespace Go.Proofs.Ytdflckjnpgbjlaa
open Go.RowKit
attribute [local go_sem ↓] Go.wp_at_zero Go.wp_at_succ
def cnt (l : List Tm) (t : Tm) : Nat := l.countP (fun x => x.eqb t)
theorem cnt_snoc (l : List Tm) (t : Tm) {j : Nat} (hj : j < l.length) : cnt (l.take (j + 1)) t = cnt (l.take j) t + if l[j].eqb t = true then 1 else 0 := by
  unfold cnt
  rw [take_succ_at l hj, List.countP_append]
  simp [List.countP_cons]
theorem cnt_le (l : List Tm) (t : Tm) : cnt l t ≤ l.length := List.countP_le_length
set_option maxRecDepth 100000 in
set_option maxHeartbeats 8000000 in
theorem count_c (l : List Tm) (t : Tm) (v v' : Value) (w : World) (ok ok' : Nat → Prop) (hv : Kd.tm.S w ok l v) (hv' : TmV w ok' t v') (hl0 : l.length ≤ 1000000) :
    Calls Try.prog 49 #[v, v'] w fun e w' => e = .returned (.int .i64 (cnt l t : Nat)) ∧ Below w.heap.size w w' := by
  obtain ⟨u, rfl, hS'⟩ := hv'
  obtain ⟨A', c', rfl⟩ := hS'.form
  have HV := Lib.hid hv
  obtain ⟨A, c, rfl, hl, hc, hA⟩ := hv
  unfold maxLen at hc
  have hX0 : Bx w ok' w.heap.size t (.slice A' t.l.length c') (w.alloc (.cells #[.int .u8 t.k, .string t.s, .int .i64 t.n, .slice A' t.l.length c'] 24)) :=
    ⟨(Below.refl _ w).alloc (Nat.le_refl _) _, heap_new w _, hS'.below ((Below.refl _ w).alloc (Nat.le_refl _) _)⟩
  have HX0 := Lib.hid hX0
  clear hS' hX0
  go_enter Try.func49, Try.ntmps49
  go_wp2
  go_loopw [6, 5] (fun i n wr => ∃ j : Nat, j ≤ l.length ∧ i = .int .i64 j ∧ n = .int .i64 (cnt (l.take j) t : Nat) ∧ Bx w ok' w.heap.size t (.slice A' t.l.length c') wr) (fun i _ _ => l.length - (intOf i).toNat)
  case atStart => exact ⟨0, Nat.zero_le _, rfl, rfl, HX0.out⟩
  case round =>
    clear HX0
    obtain ⟨j, hj, rfl, rfl, hX⟩ := hrel
    have hcn : cnt (l.take j) t ≤ 1000000 := by have := cnt_le (l.take j) t; simp at this; omega
    by_cases hlt : j < l.length
    · have hlt2 : (j : Int) < l.length := by omega
      obtain ⟨b, o, eu, rfl, hok, hlo, h0, h1, h2, h3, h4⟩ := tm_elem hA hlt
      obtain ⟨eA, ec, rfl⟩ := h4.form
      have hb := hX.below
      have g0 := cell_below hb h0 hlo
      have g1 := cell_below hb h1 hlo
      have g2 := cell_below hb h2 hlo
      have g3 := cell_below hb h3 hlo
      have g4 := h4.below hb
      obtain ⟨c0, c1, c2, c3, -⟩ := hX.held
      clear hA h0 h1 h2 h3 h4 hb HV
      have HS := Lib.hid (fun (W : World) (h : Kd.tm.S W ok l[j].l (.slice eA l[j].l.length ec)) (hX : Bx w ok' w.heap.size t (.slice A' t.l.length c') W) => Same_c l[j] t W ok ok' _ _ ⟨_, rfl, h⟩ hX.tmv)
      by_cases he : l[j].eqb t = true
      · have heq : l[j].eqb t = true := by simpa using he
        have hn' : Hid (cnt (l.take (j + 1)) t = cnt (l.take j) t + 1) := Lib.hid (by rw [cnt_snoc l t hlt, heq]; simp)
        clear he
        go_wp2
        refine wp_region_held_drew (S := (fun W => W.cell? ⟨b, o + j * 4, none⟩ = some (.int .u8 l[j].k) ∧ W.cell? ⟨b, o + j * 4 + 1, none⟩ = some (.string l[j].s) ∧ W.cell? ⟨b, o + j * 4 + 2, none⟩ = some (.int .i64 l[j].n) ∧ W.cell? ⟨b, o + j * 4 + 3, none⟩ = some (.slice eA l[j].l.length ec) ∧ W.cell? ⟨w.heap.size, 0, none⟩ = some (.int .u8 t.k) ∧ W.cell? ⟨w.heap.size, 1, none⟩ = some (.string t.s) ∧ W.cell? ⟨w.heap.size, 2, none⟩ = some (.int .i64 t.n) ∧ W.cell? ⟨w.heap.size, 3, none⟩ = some (.slice A' t.l.length c') ∧ Kd.tm.S W ok l[j].l (.slice eA l[j].l.length ec) ∧ Bx w ok' w.heap.size t (.slice A' t.l.length c') W)) (by kernel_rfl) ?_ (fun hHeld => ?_)
        · exact ⟨g0, g1, g2, g3, c0, c1, c2, c3, g4.below (Below.refl _ wr).drew, hX.drew⟩
        change wpAnyH _ .any _ _ _ 6 (Array.replicate 6 false) _ _
        refine wpAnyH_take (i := 0) (oi := ⟨some 13, _, _, _, _, _⟩) (v := ?_) rfl (by kernel_rfl) (by kernel_rfl) (by kernel_rfl) (fun _ _ _ h => h) (Or.inl ⟨by rfl, ?_⟩) (by assumption) ?_
        rotate_left
        · (intro w hSw; (try dsimp only at hSw); go_simp; try (with_reducible rfl))
        (try simp only [Act.put, List.setIfInBounds_toArray, List.set_cons_zero, List.set_cons_succ])
        refine wpAnyH_take (i := 1) (oi := ⟨some 14, _, _, _, _, _⟩) (v := ?_) rfl (by kernel_rfl) (by kernel_rfl) (by kernel_rfl) (fun _ _ _ h => h) (Or.inl ⟨by rfl, ?_⟩) (by assumption) ?_
        rotate_left
        · (intro w hSw; (try dsimp only at hSw); go_simp; try (with_reducible rfl))
        (try simp only [Act.put, List.setIfInBounds_toArray, List.set_cons_zero, List.set_cons_succ])
        refine wpAnyH_take (i := 2) (oi := ⟨some 15, _, _, _, _, _⟩) (v := ?_) rfl (by kernel_rfl) (by kernel_rfl) (by kernel_rfl) (fun _ _ _ h => h) (Or.inl ⟨by rfl, ?_⟩) (by assumption) ?_
        rotate_left
        · (intro w hSw; (try dsimp only at hSw); go_simp; try (with_reducible rfl))
        (try simp only [Act.put, List.setIfInBounds_toArray, List.set_cons_zero, List.set_cons_succ])
        refine wpAnyH_take (i := 3) (oi := ⟨some 16, _, _, _, _, _⟩) (v := ?_) rfl (by kernel_rfl) (by kernel_rfl) (by kernel_rfl) (fun _ _ _ h => h) (Or.inl ⟨by rfl, ?_⟩) (by assumption) ?_
        rotate_left
        · (intro w hSw; (try dsimp only at hSw); go_simp; try (with_reducible rfl))
        (try simp only [Act.put, List.setIfInBounds_toArray, List.set_cons_zero, List.set_cons_succ])
        refine wpAnyH_take (i := 4) (oi := ⟨some 17, _, _, _, _, _⟩) (v := ?_) rfl (by kernel_rfl) (by kernel_rfl) (by kernel_rfl) (fun _ _ _ h => h) (Or.inl ⟨by rfl, ?_⟩) (by assumption) ?_
        rotate_left
        · (intro w hSw; (try dsimp only at hSw); go_simp; try (with_reducible rfl))
        (try simp only [Act.put, List.setIfInBounds_toArray, List.set_cons_zero, List.set_cons_succ])
        refine wpAnyH_ready (rs := [5]) (by kernel_rfl) (by simp) ?_
        refine AllReadyH.cons (o := ⟨some 18, _, _, _, _, _⟩) rfl (fun K hK => ?_) AllReadyH.nil
        go_simp
        have hq := HS.out _ hHeld.2.2.2.2.2.2.2.2.1 hHeld.2.2.2.2.2.2.2.2.2
        rw [heq] at hq
        refine hq.mono ?_
        clear hq
        rintro e w9 ⟨rfl, hb9⟩
        go_wp2_with fail
        refine hK.out _ _ (by obtain ⟨q0, q1, q2, q3, q4, q5, q6, q7, q8, q9⟩ := hHeld; exact ⟨held_cell hb9 q0, held_cell hb9 q1, held_cell hb9 q2, held_cell hb9 q3, held_cell hb9 q4, held_cell hb9 q5, held_cell hb9 q6, held_cell hb9 q7, q8.below hb9, q9.then hb9⟩) (fun hHeld => ?_)
        clear hK K
        (try simp only [Act.put, List.setIfInBounds_toArray, List.set_cons_zero, List.set_cons_succ])
        refine wpAnyH_done (by kernel_rfl) ?_ _
        have hH := hHeld.2.2.2.2.2.2.2.2.2
        clear hHeld
        go_wp2
        go_roundw
        case rel => exact ⟨j + 1, by omega, by go_num, (by rw [hn'.out]; try go_num), hH⟩
        case measure => simp [intOf]; omega
      · have heq : l[j].eqb t = false := by simpa using he
        have hn' : Hid (cnt (l.take (j + 1)) t = cnt (l.take j) t) := Lib.hid (by rw [cnt_snoc l t hlt, heq]; simp)
        clear he
        go_wp2
        refine wp_region_held_drew (S := (fun W => W.cell? ⟨b, o + j * 4, none⟩ = some (.int .u8 l[j].k) ∧ W.cell? ⟨b, o + j * 4 + 1, none⟩ = some (.string l[j].s) ∧ W.cell? ⟨b, o + j * 4 + 2, none⟩ = some (.int .i64 l[j].n) ∧ W.cell? ⟨b, o + j * 4 + 3, none⟩ = some (.slice eA l[j].l.length ec) ∧ W.cell? ⟨w.heap.size, 0, none⟩ = some (.int .u8 t.k) ∧ W.cell? ⟨w.heap.size, 1, none⟩ = some (.string t.s) ∧ W.cell? ⟨w.heap.size, 2, none⟩ = some (.int .i64 t.n) ∧ W.cell? ⟨w.heap.size, 3, none⟩ = some (.slice A' t.l.length c') ∧ Kd.tm.S W ok l[j].l (.slice eA l[j].l.length ec) ∧ Bx w ok' w.heap.size t (.slice A' t.l.length c') W)) (by kernel_rfl) ?_ (fun hHeld => ?_)
        · exact ⟨g0, g1, g2, g3, c0, c1, c2, c3, g4.below (Below.refl _ wr).drew, hX.drew⟩
        change wpAnyH _ .any _ _ _ 6 (Array.replicate 6 false) _ _
        refine wpAnyH_take (i := 0) (oi := ⟨some 13, _, _, _, _, _⟩) (v := ?_) rfl (by kernel_rfl) (by kernel_rfl) (by kernel_rfl) (fun _ _ _ h => h) (Or.inl ⟨by rfl, ?_⟩) (by assumption) ?_
        rotate_left
        · (intro w hSw; (try dsimp only at hSw); go_simp; try (with_reducible rfl))
        (try simp only [Act.put, List.setIfInBounds_toArray, List.set_cons_zero, List.set_cons_succ])
        refine wpAnyH_take (i := 1) (oi := ⟨some 14, _, _, _, _, _⟩) (v := ?_) rfl (by kernel_rfl) (by kernel_rfl) (by kernel_rfl) (fun _ _ _ h => h) (Or.inl ⟨by rfl, ?_⟩) (by assumption) ?_
        rotate_left
        · (intro w hSw; (try dsimp only at hSw); go_simp; try (with_reducible rfl))
        (try simp only [Act.put, List.setIfInBounds_toArray, List.set_cons_zero, List.set_cons_succ])
        refine wpAnyH_take (i := 2) (oi := ⟨some 15, _, _, _, _, _⟩) (v := ?_) rfl (by kernel_rfl) (by kernel_rfl) (by kernel_rfl) (fun _ _ _ h => h) (Or.inl ⟨by rfl, ?_⟩) (by assumption) ?_
        rotate_left
        · (intro w hSw; (try dsimp only at hSw); go_simp; try (with_reducible rfl))
        (try simp only [Act.put, List.setIfInBounds_toArray, List.set_cons_zero, List.set_cons_succ])
        refine wpAnyH_take (i := 3) (oi := ⟨some 16, _, _, _, _, _⟩) (v := ?_) rfl (by kernel_rfl) (by kernel_rfl) (by kernel_rfl) (fun _ _ _ h => h) (Or.inl ⟨by rfl, ?_⟩) (by assumption) ?_
        rotate_left
        · (intro w hSw; (try dsimp only at hSw); go_simp; try (with_reducible rfl))
        (try simp only [Act.put, List.setIfInBounds_toArray, List.set_cons_zero, List.set_cons_succ])
        refine wpAnyH_take (i := 4) (oi := ⟨some 17, _, _, _, _, _⟩) (v := ?_) rfl (by kernel_rfl) (by kernel_rfl) (by kernel_rfl) (fun _ _ _ h => h) (Or.inl ⟨by rfl, ?_⟩) (by assumption) ?_
        rotate_left
        · (intro w hSw; (try dsimp only at hSw); go_simp; try (with_reducible rfl))
        (try simp only [Act.put, List.setIfInBounds_toArray, List.set_cons_zero, List.set_cons_succ])
        refine wpAnyH_ready (rs := [5]) (by kernel_rfl) (by simp) ?_
        refine AllReadyH.cons (o := ⟨some 18, _, _, _, _, _⟩) rfl (fun K hK => ?_) AllReadyH.nil
        go_simp
        have hq := HS.out _ hHeld.2.2.2.2.2.2.2.2.1 hHeld.2.2.2.2.2.2.2.2.2
        rw [heq] at hq
        refine hq.mono ?_
        clear hq
        rintro e w9 ⟨rfl, hb9⟩
        go_wp2_with fail
        refine hK.out _ _ (by obtain ⟨q0, q1, q2, q3, q4, q5, q6, q7, q8, q9⟩ := hHeld; exact ⟨held_cell hb9 q0, held_cell hb9 q1, held_cell hb9 q2, held_cell hb9 q3, held_cell hb9 q4, held_cell hb9 q5, held_cell hb9 q6, held_cell hb9 q7, q8.below hb9, q9.then hb9⟩) (fun hHeld => ?_)
        clear hK K
        (try simp only [Act.put, List.setIfInBounds_toArray, List.set_cons_zero, List.set_cons_succ])
        refine wpAnyH_done (by kernel_rfl) ?_ _
        have hH := hHeld.2.2.2.2.2.2.2.2.2
        clear hHeld
        go_wp2
        go_roundw
        case rel => exact ⟨j + 1, by omega, by go_num, (by rw [hn'.out]; try go_num), hH⟩
        case measure => simp [intOf]; omega
    · have hlt2 : ¬ (j : Int) < l.length := by omega
      obtain rfl : j = l.length := by omega
      have hx : Hid (cnt (l.take l.length) t = cnt l t) := Lib.hid (by rw [List.take_length])
      clear hA HV
      go_wp2
      go_ret
      exact ⟨rfl, hX.below⟩
end Go.Proofs.Ytdflckjnpgbjlaa

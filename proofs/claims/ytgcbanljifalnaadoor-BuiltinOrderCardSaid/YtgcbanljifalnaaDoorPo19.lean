import Derived.Test.YtgcbanljifalnaaDoorPo18
set_option linter.unusedVariables false
set_option maxRecDepth 20000
set_option linter.unusedSimpArgs false
/- Layer 14 (builtin): the reference's order, as far as it is known, and what a comparison's name says; walked. Conditions: the arguments read; what can lie in memory. -/
namespace Go.Proofs.YtgcbanljifalnaaDoor
open Go.RowKit
attribute [local go_sem ↓] Go.wp_at_zero Go.wp_at_succ
set_option maxRecDepth 100000 in
set_option maxHeartbeats 8000000 in
theorem rord_c (t : Tm) : ∀ (u : Tm) (w : World) (ok ok' : Nat → Prop) (v v' : Value), TmV w ok t v → TmV w ok' u v' → t.Wf → u.Wf → Calls Tryd.prog 9 #[v, v'] w fun e w' => e = .returned (.tuple #[.int .i64 (rordT t u).1, .bool (rordT t u).2]) ∧ Below w.heap.size w w' := by
  refine Tm.ind (p := fun t => ∀ (u : Tm) (w : World) (ok ok' : Nat → Prop) (v v' : Value), TmV w ok t v → TmV w ok' u v' → t.Wf → u.Wf → Calls Tryd.prog 9 #[v, v'] w fun e w' => e = .returned (.tuple #[.int .i64 (rordT t u).1, .bool (rordT t u).2]) ∧ Below w.heap.size w w') ?_ t
  intro a ih b w ok ok' v v' hv hv' hwa hwb
  obtain ⟨u, rfl, hs⟩ := hv
  obtain ⟨u', rfl, hs'⟩ := hv'
  obtain ⟨A, c, rfl⟩ := hs.form
  obtain ⟨A', c', rfl⟩ := hs'.form
  have HB := Lib.hid (Bx.two (hs.mono (ok' := fun _ => True) (fun _ _ => trivial)) (hs'.mono (ok' := fun _ => True) (fun _ _ => trivial)))
  replace ih := Lib.hid ih
  have hmx := S_max hs
  obtain ⟨x1, x2⟩ := HB.out
  obtain ⟨e0, e1, e2, e3, -⟩ := x1.held
  obtain ⟨f0, f1, f2, f3, -⟩ := x2.held
  clear hs hs'
  have HWf := Lib.hid (And.intro hwa hwb)
  have HC := Lib.hid (fun W (h1 : Bx w (fun _ => True) w.heap.size a (.slice A a.l.length c) W) (h2 : Bx w (fun _ => True) (w.heap.size + 1) b (.slice A' b.l.length c') W) => refCompare_c a b W _ _ _ _ h1.tmv h2.tmv hwa hwb)
  clear hwa hwb
  by_cases hv1 : a.k = 1 ∧ b.k = 1
  · have HE : Hid (rordT a b = (0, decide (a.n = b.n))) := Lib.hid (by rw [rordT_eq, if_pos hv1])
    have k1 : (a.k == 1) = true := by simpa using hv1.1
    have k2 : (b.k == 1) = true := by simpa using hv1.2
    have hde : decide (a.n = b.n) = (a.n == b.n) := rfl
    rw [hde] at HE
    clear ih hv1 hde HC
    go_enter Tryd.func9, Tryd.ntmps9
    go_wp2
    refine wp_region_held_drew (S := (fun W => W.cell? ⟨w.heap.size, 0, none⟩ = some (.int .u8 a.k) ∧ W.cell? ⟨w.heap.size, 1, none⟩ = some (.string a.s) ∧ W.cell? ⟨w.heap.size, 2, none⟩ = some (.int .i64 a.n) ∧ W.cell? ⟨w.heap.size, 3, none⟩ = some (.slice A a.l.length c) ∧ W.cell? ⟨w.heap.size + 1, 0, none⟩ = some (.int .u8 b.k) ∧ W.cell? ⟨w.heap.size + 1, 1, none⟩ = some (.string b.s) ∧ W.cell? ⟨w.heap.size + 1, 2, none⟩ = some (.int .i64 b.n) ∧ W.cell? ⟨w.heap.size + 1, 3, none⟩ = some (.slice A' b.l.length c') ∧ Bx w (fun _ => True) w.heap.size a (.slice A a.l.length c) W ∧ Bx w (fun _ => True) (w.heap.size + 1) b (.slice A' b.l.length c') W)) (by kernel_rfl) ?_ (fun hHeld => ?_)
    · exact ⟨e0, e1, e2, e3, f0, f1, f2, f3, x1.drew, x2.drew⟩
    change wpAnyH _ .any _ _ _ 7 (Array.replicate 7 false) _ _
    refine wpAnyH_take (i := 0) (oi := ⟨some 17, _, _, _, _, _⟩) (v := ?_) rfl (by kernel_rfl) (by kernel_rfl) (by kernel_rfl) (fun _ _ _ h => h) (Or.inl ⟨by rfl, ?_⟩) (by assumption) ?_
    rotate_left
    · (intro w hSw; (try dsimp only at hSw); go_simp; try (with_reducible rfl))
    (try simp only [Act.put, List.setIfInBounds_toArray, List.set_cons_zero, List.set_cons_succ])
    refine wpAnyH_take (i := 1) (oi := ⟨some 18, _, _, _, _, _⟩) (v := ?_) rfl (by kernel_rfl) (by kernel_rfl) (by kernel_rfl) (fun _ _ _ h => h) (Or.inl ⟨by rfl, ?_⟩) (by assumption) ?_
    rotate_left
    · (intro w hSw; (try dsimp only at hSw); go_simp; try (with_reducible rfl))
    (try simp only [Act.put, List.setIfInBounds_toArray, List.set_cons_zero, List.set_cons_succ])
    refine wpAnyH_take (i := 2) (oi := ⟨some 19, _, _, _, _, _⟩) (v := ?_) rfl (by kernel_rfl) (by kernel_rfl) (by kernel_rfl) (fun _ _ _ h => h) (Or.inl ⟨by rfl, ?_⟩) (by assumption) ?_
    rotate_left
    · (intro w hSw; (try dsimp only at hSw); go_simp; try (with_reducible rfl))
    (try simp only [Act.put, List.setIfInBounds_toArray, List.set_cons_zero, List.set_cons_succ])
    refine wpAnyH_take (i := 3) (oi := ⟨some 20, _, _, _, _, _⟩) (v := ?_) rfl (by kernel_rfl) (by kernel_rfl) (by kernel_rfl) (fun _ _ _ h => h) (Or.inl ⟨by rfl, ?_⟩) (by assumption) ?_
    rotate_left
    · (intro w hSw; (try dsimp only at hSw); go_simp; try (with_reducible rfl))
    (try simp only [Act.put, List.setIfInBounds_toArray, List.set_cons_zero, List.set_cons_succ])
    refine wpAnyH_take (i := 4) (oi := ⟨some 21, _, _, _, _, _⟩) (v := ?_) rfl (by kernel_rfl) (by kernel_rfl) (by kernel_rfl) (fun _ _ _ h => h) (Or.inl ⟨by rfl, ?_⟩) (by assumption) ?_
    rotate_left
    · (intro w hSw; (try dsimp only at hSw); go_simp; try (with_reducible rfl))
    (try simp only [Act.put, List.setIfInBounds_toArray, List.set_cons_zero, List.set_cons_succ])
    refine wpAnyH_take (i := 5) (oi := ⟨some 4, _, _, _, _, _⟩) (v := ?_) rfl (by kernel_rfl) (by kernel_rfl) (by kernel_rfl) (fun _ _ _ h => h) (Or.inl ⟨by rfl, ?_⟩) (by assumption) ?_
    rotate_left
    · (intro w hSw; (try dsimp only at hSw); go_simp; try (with_reducible rfl))
    (try simp only [Act.put, List.setIfInBounds_toArray, List.set_cons_zero, List.set_cons_succ])
    refine wpAnyH_take (i := 6) (oi := ⟨some 5, _, _, _, _, _⟩) (v := ?_) rfl (by kernel_rfl) (by kernel_rfl) (by kernel_rfl) (fun _ _ _ h => h) (Or.inl ⟨by rfl, ?_⟩) (by assumption) ?_
    rotate_left
    · (intro w hSw; (try dsimp only at hSw); go_simp; try (with_reducible rfl))
    (try simp only [Act.put, List.setIfInBounds_toArray, List.set_cons_zero, List.set_cons_succ])
    refine wpAnyH_done (by kernel_rfl) ?_ _
    have hH := hHeld
    clear hHeld
    go_wp2
    go_ret2
    exact ⟨by rw [HE.out]; rfl, hH.2.2.2.2.2.2.2.2.1.below⟩
  have hnv : a.k ≠ 1 ∨ (a.k = 1 ∧ b.k ≠ 1) := by
    by_cases h : a.k = 1
    · exact .inr ⟨h, fun e => hv1 ⟨h, e⟩⟩
    · exact .inl h
  have hE0 : rordT a b = if a.k ≠ b.k ∨ a.k ≠ 4 ∨ a.s ≠ b.s ∨ a.l.length ≠ b.l.length then (refT a b, true) else rordL a.l b.l := by rw [rordT_eq, if_neg hv1]
  clear hv1
  by_cases e1 : a.k = b.k
  · have e1' : (a.k != b.k) = false := by simpa using e1
    by_cases e2 : a.k = 4
    · have e2' : (a.k != 4) = false := by simpa using e2
      have k1' : (a.k == 1) = false := by simp [e2]
      by_cases e3 : a.s = b.s
      · have e3' : (a.s.toList == b.s.toList) = true := by simp [e3]
        by_cases e4 : a.l.length = b.l.length
        · have HE : Hid (rordT a b = rordL a.l b.l) := Lib.hid (by rw [hE0, if_neg (by simp [e1, e3, e4]; omega)])
          have e4' : ((a.l.length : Int) != b.l.length) = false := by simp [e4]
          have hlen := Lib.hid e4
          have e3'' : (a.s.toList != b.s.toList) = false := by simp [e3]
          clear hE0 e1 e2 e3 e4 hnv HC
          go_enter Tryd.func9, Tryd.ntmps9
          go_wp2
          go_loopw [6] (fun i wr => ∃ j : Nat, j ≤ a.l.length ∧ i = .int .i64 j ∧ Hid (∀ i, ∀ (h : i < j) (h1 : i < a.l.length) (h2 : i < b.l.length), rordT (a.l[i]'h1) (b.l[i]'h2) = (0, true)) ∧ Bx w (fun _ => True) w.heap.size a (.slice A a.l.length c) wr ∧ Bx w (fun _ => True) (w.heap.size + 1) b (.slice A' b.l.length c') wr) (fun i _ => a.l.length - (intOf i).toNat)
          case atStart => exact ⟨0, Nat.zero_le _, rfl, Lib.hid (fun i h => absurd h (Nat.not_lt_zero _)), x1, x2⟩
          case round =>
            clear x1 x2 e0 e1 e2 e3 f0 f1 f2 f3
            obtain ⟨j, hj, rfl, h0, x1, x2⟩ := hrel
            by_cases hlt : j < a.l.length
            · have hlt' : j < b.l.length := by have := hlen.out; omega
              have hlz : (j : Int) < a.l.length := by omega
              have hlz' : (j : Int) < b.l.length := by omega
              obtain ⟨p, o, rfl⟩ := elemA0 x1.args (by omega)
              obtain ⟨p', o', rfl⟩ := elemA0 x2.args (by omega)
              obtain ⟨gA, gc, y0, y1, y2, y3, y4⟩ := elemS0 x1.args hlt
              obtain ⟨hA, hc, z0, z1, z2, z3, z4⟩ := elemS0 x2.args hlt'
              obtain ⟨e0, e1, e2, e3, -⟩ := x1.held
              obtain ⟨f0, f1, f2, f3, -⟩ := x2.held
              have HI := Lib.hid (fun W (h1 : Kd.tm.S W (fun _ => True) a.l[j].l (.slice gA a.l[j].l.length gc)) (h2 : Kd.tm.S W (fun _ => True) b.l[j].l (.slice hA b.l[j].l.length hc)) => ih.out a.l[j] (List.getElem_mem hlt) b.l[j] W _ _ _ _ ⟨_, rfl, h1⟩ ⟨_, rfl, h2⟩ (WfL_at (Tm.Wf.parts HWf.out.1).2.2.2 hlt) (WfL_at (Tm.Wf.parts HWf.out.2).2.2.2 hlt'))
              obtain ⟨q, k, hck⟩ : ∃ q k, rordT a.l[j] b.l[j] = (q, k) := ⟨_, _, rfl⟩
              by_cases hz : q = 0 ∧ k = true
              · obtain ⟨rfl, rfl⟩ := hz
                have h0' : Hid (∀ i, ∀ (h : i < j + 1) (h1 : i < a.l.length) (h2 : i < b.l.length), rordT (a.l[i]'h1) (b.l[i]'h2) = (0, true)) := Lib.hid (fun i h h1 h2 => by
                  by_cases e : i = j
                  · subst e; exact hck
                  · exact h0.out i (by omega) h1 h2)
                clear h0
                go_wp2
                refine wp_region_held_drew (S := (fun W => W.cell? ⟨w.heap.size, 0, none⟩ = some (.int .u8 a.k) ∧ W.cell? ⟨w.heap.size, 1, none⟩ = some (.string a.s) ∧ W.cell? ⟨w.heap.size, 2, none⟩ = some (.int .i64 a.n) ∧ W.cell? ⟨w.heap.size, 3, none⟩ = some (.slice (some ⟨p, o, none⟩) a.l.length c) ∧ W.cell? ⟨w.heap.size + 1, 0, none⟩ = some (.int .u8 b.k) ∧ W.cell? ⟨w.heap.size + 1, 1, none⟩ = some (.string b.s) ∧ W.cell? ⟨w.heap.size + 1, 2, none⟩ = some (.int .i64 b.n) ∧ W.cell? ⟨w.heap.size + 1, 3, none⟩ = some (.slice (some ⟨p', o', none⟩) b.l.length c') ∧ W.cell? ⟨p, o + j * 4, none⟩ = some (.int .u8 a.l[j].k) ∧ W.cell? ⟨p, o + j * 4 + 1, none⟩ = some (.string a.l[j].s) ∧ W.cell? ⟨p, o + j * 4 + 2, none⟩ = some (.int .i64 a.l[j].n) ∧ W.cell? ⟨p, o + j * 4 + 3, none⟩ = some (.slice gA a.l[j].l.length gc) ∧ W.cell? ⟨p', o' + j * 4, none⟩ = some (.int .u8 b.l[j].k) ∧ W.cell? ⟨p', o' + j * 4 + 1, none⟩ = some (.string b.l[j].s) ∧ W.cell? ⟨p', o' + j * 4 + 2, none⟩ = some (.int .i64 b.l[j].n) ∧ W.cell? ⟨p', o' + j * 4 + 3, none⟩ = some (.slice hA b.l[j].l.length hc) ∧ Kd.tm.S W (fun _ => True) a.l[j].l (.slice gA a.l[j].l.length gc) ∧ Kd.tm.S W (fun _ => True) b.l[j].l (.slice hA b.l[j].l.length hc) ∧ Bx w (fun _ => True) w.heap.size a (.slice (some ⟨p, o, none⟩) a.l.length c) W ∧ Bx w (fun _ => True) (w.heap.size + 1) b (.slice (some ⟨p', o', none⟩) b.l.length c') W)) (by kernel_rfl) ?_ (fun hHeld => ?_)
                · exact ⟨e0, e1, e2, e3, f0, f1, f2, f3, y0, y1, y2, y3, z0, z1, z2, z3, y4.below (Below.refl _ _).drew, z4.below (Below.refl _ _).drew, x1.drew, x2.drew⟩
                change wpAnyH _ .any _ _ _ 16 (Array.replicate 16 false) _ _
                refine wpAnyH_take (i := 0) (oi := ⟨some 59, _, _, _, _, _⟩) (v := ?_) rfl (by kernel_rfl) (by kernel_rfl) (by kernel_rfl) (fun _ _ _ h => h) (Or.inl ⟨by rfl, ?_⟩) (by assumption) ?_
                rotate_left
                · (intro w hSw; (try dsimp only at hSw); go_simp; try (with_reducible rfl))
                (try simp only [Act.put, List.setIfInBounds_toArray, List.set_cons_zero, List.set_cons_succ])
                refine wpAnyH_take (i := 1) (oi := ⟨some 60, _, _, _, _, _⟩) (v := ?_) rfl (by kernel_rfl) (by kernel_rfl) (by kernel_rfl) (fun _ _ _ h => h) (Or.inl ⟨by rfl, ?_⟩) (by assumption) ?_
                rotate_left
                · (intro w hSw; (try dsimp only at hSw); go_simp; try (with_reducible rfl))
                (try simp only [Act.put, List.setIfInBounds_toArray, List.set_cons_zero, List.set_cons_succ])
                refine wpAnyH_take (i := 2) (oi := ⟨some 61, _, _, _, _, _⟩) (v := ?_) rfl (by kernel_rfl) (by kernel_rfl) (by kernel_rfl) (fun _ _ _ h => h) (Or.inl ⟨by rfl, ?_⟩) (by assumption) ?_
                rotate_left
                · (intro w hSw; (try dsimp only at hSw); go_simp; try (with_reducible rfl))
                (try simp only [Act.put, List.setIfInBounds_toArray, List.set_cons_zero, List.set_cons_succ])
                refine wpAnyH_take (i := 3) (oi := ⟨some 62, _, _, _, _, _⟩) (v := ?_) rfl (by kernel_rfl) (by kernel_rfl) (by kernel_rfl) (fun _ _ _ h => h) (Or.inl ⟨by rfl, ?_⟩) (by assumption) ?_
                rotate_left
                · (intro w hSw; (try dsimp only at hSw); go_simp; try (with_reducible rfl))
                (try simp only [Act.put, List.setIfInBounds_toArray, List.set_cons_zero, List.set_cons_succ])
                refine wpAnyH_take (i := 4) (oi := ⟨some 63, _, _, _, _, _⟩) (v := ?_) rfl (by kernel_rfl) (by kernel_rfl) (by kernel_rfl) (fun _ _ _ h => h) (Or.inl ⟨by rfl, ?_⟩) (by assumption) ?_
                rotate_left
                · (intro w hSw; (try dsimp only at hSw); go_simp; try (with_reducible rfl))
                (try simp only [Act.put, List.setIfInBounds_toArray, List.set_cons_zero, List.set_cons_succ])
                refine wpAnyH_take (i := 5) (oi := ⟨some 64, _, _, _, _, _⟩) (v := ?_) rfl (by kernel_rfl) (by kernel_rfl) (by kernel_rfl) (fun _ _ _ h => h) (Or.inl ⟨by rfl, ?_⟩) (by assumption) ?_
                rotate_left
                · (intro w hSw; (try dsimp only at hSw); go_simp; try (with_reducible rfl))
                (try simp only [Act.put, List.setIfInBounds_toArray, List.set_cons_zero, List.set_cons_succ])
                refine wpAnyH_take (i := 6) (oi := ⟨some 65, _, _, _, _, _⟩) (v := ?_) rfl (by kernel_rfl) (by kernel_rfl) (by kernel_rfl) (fun _ _ _ h => h) (Or.inl ⟨by rfl, ?_⟩) (by assumption) ?_
                rotate_left
                · (intro w hSw; (try dsimp only at hSw); go_simp; try (with_reducible rfl))
                (try simp only [Act.put, List.setIfInBounds_toArray, List.set_cons_zero, List.set_cons_succ])
                refine wpAnyH_take (i := 7) (oi := ⟨some 66, _, _, _, _, _⟩) (v := ?_) rfl (by kernel_rfl) (by kernel_rfl) (by kernel_rfl) (fun _ _ _ h => h) (Or.inl ⟨by rfl, ?_⟩) (by assumption) ?_
                rotate_left
                · (intro w hSw; (try dsimp only at hSw); go_simp; try (with_reducible rfl))
                (try simp only [Act.put, List.setIfInBounds_toArray, List.set_cons_zero, List.set_cons_succ])
                refine wpAnyH_take (i := 8) (oi := ⟨some 67, _, _, _, _, _⟩) (v := ?_) rfl (by kernel_rfl) (by kernel_rfl) (by kernel_rfl) (fun _ _ _ h => h) (Or.inl ⟨by rfl, ?_⟩) (by assumption) ?_
                rotate_left
                · (intro w hSw; (try dsimp only at hSw); go_simp; try (with_reducible rfl))
                (try simp only [Act.put, List.setIfInBounds_toArray, List.set_cons_zero, List.set_cons_succ])
                refine wpAnyH_take (i := 9) (oi := ⟨some 68, _, _, _, _, _⟩) (v := ?_) rfl (by kernel_rfl) (by kernel_rfl) (by kernel_rfl) (fun _ _ _ h => h) (Or.inl ⟨by rfl, ?_⟩) (by assumption) ?_
                rotate_left
                · (intro w hSw; (try dsimp only at hSw); go_simp; try (with_reducible rfl))
                (try simp only [Act.put, List.setIfInBounds_toArray, List.set_cons_zero, List.set_cons_succ])
                refine wpAnyH_ready (rs := [10]) (by kernel_rfl) (by simp) ?_
                refine AllReadyH.cons (o := ⟨some 69, _, _, _, _, _⟩) rfl (fun K hK => ?_) AllReadyH.nil
                go_simp
                obtain ⟨q0, q1, q2, q3, q4, q5, q6, q7, q8, q9, q10, q11, q12, q13, q14, q15, q16, q17, q18, q19⟩ := id hHeld
                have hr := HI.out _ q16 q17
                clear q0 q1 q2 q3 q4 q5 q6 q7 q8 q9 q10 q11 q12 q13 q14 q15 q16 q17 q18 q19
                rw [hck] at hr
                refine hr.mono ?_
                clear hr
                rintro e w7 ⟨rfl, hb7⟩
                go_wp2_with fail
                refine hK.out _ _ (by obtain ⟨q0, q1, q2, q3, q4, q5, q6, q7, q8, q9, q10, q11, q12, q13, q14, q15, q16, q17, q18, q19⟩ := hHeld; exact ⟨held_cell hb7 q0, held_cell hb7 q1, held_cell hb7 q2, held_cell hb7 q3, held_cell hb7 q4, held_cell hb7 q5, held_cell hb7 q6, held_cell hb7 q7, held_cell hb7 q8, held_cell hb7 q9, held_cell hb7 q10, held_cell hb7 q11, held_cell hb7 q12, held_cell hb7 q13, held_cell hb7 q14, held_cell hb7 q15, (q16).below hb7, (q17).below hb7, (q18).then hb7, (q19).then hb7⟩) (fun hHeld => ?_)
                clear hK K
                (try simp only [Act.put, List.setIfInBounds_toArray, List.set_cons_zero, List.set_cons_succ])
                refine wpAnyH_take (i := 11) (oi := ⟨some 58, _, _, _, _, _⟩) (v := ?_) rfl (by kernel_rfl) (by kernel_rfl) (by kernel_rfl) (fun _ _ _ h => h) (Or.inl ⟨by rfl, ?_⟩) (by assumption) ?_
                rotate_left
                · (intro w hSw; (try dsimp only at hSw); go_simp; try (with_reducible rfl))
                (try simp only [Act.put, List.setIfInBounds_toArray, List.set_cons_zero, List.set_cons_succ])
                refine wpAnyH_take (i := 12) (oi := ⟨some 70, _, _, _, _, _⟩) (v := ?_) rfl (by kernel_rfl) (by kernel_rfl) (by kernel_rfl) (fun _ _ _ h => h) (Or.inl ⟨by rfl, ?_⟩) (by assumption) ?_
                rotate_left
                · (intro w hSw; (try dsimp only at hSw); go_simp; try (with_reducible rfl))
                (try simp only [Act.put, List.setIfInBounds_toArray, List.set_cons_zero, List.set_cons_succ])
                refine wpAnyH_take (i := 13) (oi := ⟨some 71, _, _, _, _, _⟩) (v := ?_) rfl (by kernel_rfl) (by kernel_rfl) (by kernel_rfl) (fun _ _ _ h => h) (Or.inl ⟨by rfl, ?_⟩) (by assumption) ?_
                rotate_left
                · (intro w hSw; (try dsimp only at hSw); go_simp; try (with_reducible rfl))
                (try simp only [Act.put, List.setIfInBounds_toArray, List.set_cons_zero, List.set_cons_succ])
                refine wpAnyH_take (i := 14) (oi := ⟨some 7, _, _, _, _, _⟩) (v := ?_) rfl (by kernel_rfl) (by kernel_rfl) (by kernel_rfl) (fun _ _ _ h => h) (Or.inl ⟨by rfl, ?_⟩) (by assumption) ?_
                rotate_left
                · (intro w hSw; (try dsimp only at hSw); go_simp; try (with_reducible rfl))
                (try simp only [Act.put, List.setIfInBounds_toArray, List.set_cons_zero, List.set_cons_succ])
                refine wpAnyH_take (i := 15) (oi := ⟨some 8, _, _, _, _, _⟩) (v := ?_) rfl (by kernel_rfl) (by kernel_rfl) (by kernel_rfl) (fun _ _ _ h => h) (Or.inl ⟨by rfl, ?_⟩) (by assumption) ?_
                rotate_left
                · (intro w hSw; (try dsimp only at hSw); go_simp; try (with_reducible rfl))
                (try simp only [Act.put, List.setIfInBounds_toArray, List.set_cons_zero, List.set_cons_succ])
                refine wpAnyH_done (by kernel_rfl) ?_ _
                have hH := hHeld.2.2.2.2.2.2.2.2.2.2.2.2.2.2.2.2.2.2
                clear hHeld
                go_wp2
                go_roundw
                case rel => exact ⟨j + 1, by omega, by go_num, h0', hH⟩
                case measure => simp [intOf]; omega
              · have HX : Hid (rordL a.l b.l = (q, k)) := Lib.hid (by
                  rw [← hck]
                  exact rordL_at hlt hlt' (fun i h => h0.out i h (by omega) (by omega)) (by rw [hck]; intro e; injection e with e1 e2; exact hz ⟨e1, e2⟩))
                clear h0
                by_cases hq : q = 0
                · subst hq
                  have hk : k = false := by cases k <;> simp_all
                  subst hk
                  go_wp2
                  refine wp_region_held_drew (S := (fun W => W.cell? ⟨w.heap.size, 0, none⟩ = some (.int .u8 a.k) ∧ W.cell? ⟨w.heap.size, 1, none⟩ = some (.string a.s) ∧ W.cell? ⟨w.heap.size, 2, none⟩ = some (.int .i64 a.n) ∧ W.cell? ⟨w.heap.size, 3, none⟩ = some (.slice (some ⟨p, o, none⟩) a.l.length c) ∧ W.cell? ⟨w.heap.size + 1, 0, none⟩ = some (.int .u8 b.k) ∧ W.cell? ⟨w.heap.size + 1, 1, none⟩ = some (.string b.s) ∧ W.cell? ⟨w.heap.size + 1, 2, none⟩ = some (.int .i64 b.n) ∧ W.cell? ⟨w.heap.size + 1, 3, none⟩ = some (.slice (some ⟨p', o', none⟩) b.l.length c') ∧ W.cell? ⟨p, o + j * 4, none⟩ = some (.int .u8 a.l[j].k) ∧ W.cell? ⟨p, o + j * 4 + 1, none⟩ = some (.string a.l[j].s) ∧ W.cell? ⟨p, o + j * 4 + 2, none⟩ = some (.int .i64 a.l[j].n) ∧ W.cell? ⟨p, o + j * 4 + 3, none⟩ = some (.slice gA a.l[j].l.length gc) ∧ W.cell? ⟨p', o' + j * 4, none⟩ = some (.int .u8 b.l[j].k) ∧ W.cell? ⟨p', o' + j * 4 + 1, none⟩ = some (.string b.l[j].s) ∧ W.cell? ⟨p', o' + j * 4 + 2, none⟩ = some (.int .i64 b.l[j].n) ∧ W.cell? ⟨p', o' + j * 4 + 3, none⟩ = some (.slice hA b.l[j].l.length hc) ∧ Kd.tm.S W (fun _ => True) a.l[j].l (.slice gA a.l[j].l.length gc) ∧ Kd.tm.S W (fun _ => True) b.l[j].l (.slice hA b.l[j].l.length hc) ∧ Bx w (fun _ => True) w.heap.size a (.slice (some ⟨p, o, none⟩) a.l.length c) W ∧ Bx w (fun _ => True) (w.heap.size + 1) b (.slice (some ⟨p', o', none⟩) b.l.length c') W)) (by kernel_rfl) ?_ (fun hHeld => ?_)
                  · exact ⟨e0, e1, e2, e3, f0, f1, f2, f3, y0, y1, y2, y3, z0, z1, z2, z3, y4.below (Below.refl _ _).drew, z4.below (Below.refl _ _).drew, x1.drew, x2.drew⟩
                  change wpAnyH _ .any _ _ _ 16 (Array.replicate 16 false) _ _
                  refine wpAnyH_take (i := 0) (oi := ⟨some 59, _, _, _, _, _⟩) (v := ?_) rfl (by kernel_rfl) (by kernel_rfl) (by kernel_rfl) (fun _ _ _ h => h) (Or.inl ⟨by rfl, ?_⟩) (by assumption) ?_
                  rotate_left
                  · (intro w hSw; (try dsimp only at hSw); go_simp; try (with_reducible rfl))
                  (try simp only [Act.put, List.setIfInBounds_toArray, List.set_cons_zero, List.set_cons_succ])
                  refine wpAnyH_take (i := 1) (oi := ⟨some 60, _, _, _, _, _⟩) (v := ?_) rfl (by kernel_rfl) (by kernel_rfl) (by kernel_rfl) (fun _ _ _ h => h) (Or.inl ⟨by rfl, ?_⟩) (by assumption) ?_
                  rotate_left
                  · (intro w hSw; (try dsimp only at hSw); go_simp; try (with_reducible rfl))
                  (try simp only [Act.put, List.setIfInBounds_toArray, List.set_cons_zero, List.set_cons_succ])
                  refine wpAnyH_take (i := 2) (oi := ⟨some 61, _, _, _, _, _⟩) (v := ?_) rfl (by kernel_rfl) (by kernel_rfl) (by kernel_rfl) (fun _ _ _ h => h) (Or.inl ⟨by rfl, ?_⟩) (by assumption) ?_
                  rotate_left
                  · (intro w hSw; (try dsimp only at hSw); go_simp; try (with_reducible rfl))
                  (try simp only [Act.put, List.setIfInBounds_toArray, List.set_cons_zero, List.set_cons_succ])
                  refine wpAnyH_take (i := 3) (oi := ⟨some 62, _, _, _, _, _⟩) (v := ?_) rfl (by kernel_rfl) (by kernel_rfl) (by kernel_rfl) (fun _ _ _ h => h) (Or.inl ⟨by rfl, ?_⟩) (by assumption) ?_
                  rotate_left
                  · (intro w hSw; (try dsimp only at hSw); go_simp; try (with_reducible rfl))
                  (try simp only [Act.put, List.setIfInBounds_toArray, List.set_cons_zero, List.set_cons_succ])
                  refine wpAnyH_take (i := 4) (oi := ⟨some 63, _, _, _, _, _⟩) (v := ?_) rfl (by kernel_rfl) (by kernel_rfl) (by kernel_rfl) (fun _ _ _ h => h) (Or.inl ⟨by rfl, ?_⟩) (by assumption) ?_
                  rotate_left
                  · (intro w hSw; (try dsimp only at hSw); go_simp; try (with_reducible rfl))
                  (try simp only [Act.put, List.setIfInBounds_toArray, List.set_cons_zero, List.set_cons_succ])
                  refine wpAnyH_take (i := 5) (oi := ⟨some 64, _, _, _, _, _⟩) (v := ?_) rfl (by kernel_rfl) (by kernel_rfl) (by kernel_rfl) (fun _ _ _ h => h) (Or.inl ⟨by rfl, ?_⟩) (by assumption) ?_
                  rotate_left
                  · (intro w hSw; (try dsimp only at hSw); go_simp; try (with_reducible rfl))
                  (try simp only [Act.put, List.setIfInBounds_toArray, List.set_cons_zero, List.set_cons_succ])
                  refine wpAnyH_take (i := 6) (oi := ⟨some 65, _, _, _, _, _⟩) (v := ?_) rfl (by kernel_rfl) (by kernel_rfl) (by kernel_rfl) (fun _ _ _ h => h) (Or.inl ⟨by rfl, ?_⟩) (by assumption) ?_
                  rotate_left
                  · (intro w hSw; (try dsimp only at hSw); go_simp; try (with_reducible rfl))
                  (try simp only [Act.put, List.setIfInBounds_toArray, List.set_cons_zero, List.set_cons_succ])
                  refine wpAnyH_take (i := 7) (oi := ⟨some 66, _, _, _, _, _⟩) (v := ?_) rfl (by kernel_rfl) (by kernel_rfl) (by kernel_rfl) (fun _ _ _ h => h) (Or.inl ⟨by rfl, ?_⟩) (by assumption) ?_
                  rotate_left
                  · (intro w hSw; (try dsimp only at hSw); go_simp; try (with_reducible rfl))
                  (try simp only [Act.put, List.setIfInBounds_toArray, List.set_cons_zero, List.set_cons_succ])
                  refine wpAnyH_take (i := 8) (oi := ⟨some 67, _, _, _, _, _⟩) (v := ?_) rfl (by kernel_rfl) (by kernel_rfl) (by kernel_rfl) (fun _ _ _ h => h) (Or.inl ⟨by rfl, ?_⟩) (by assumption) ?_
                  rotate_left
                  · (intro w hSw; (try dsimp only at hSw); go_simp; try (with_reducible rfl))
                  (try simp only [Act.put, List.setIfInBounds_toArray, List.set_cons_zero, List.set_cons_succ])
                  refine wpAnyH_take (i := 9) (oi := ⟨some 68, _, _, _, _, _⟩) (v := ?_) rfl (by kernel_rfl) (by kernel_rfl) (by kernel_rfl) (fun _ _ _ h => h) (Or.inl ⟨by rfl, ?_⟩) (by assumption) ?_
                  rotate_left
                  · (intro w hSw; (try dsimp only at hSw); go_simp; try (with_reducible rfl))
                  (try simp only [Act.put, List.setIfInBounds_toArray, List.set_cons_zero, List.set_cons_succ])
                  refine wpAnyH_ready (rs := [10]) (by kernel_rfl) (by simp) ?_
                  refine AllReadyH.cons (o := ⟨some 69, _, _, _, _, _⟩) rfl (fun K hK => ?_) AllReadyH.nil
                  go_simp
                  obtain ⟨q0, q1, q2, q3, q4, q5, q6, q7, q8, q9, q10, q11, q12, q13, q14, q15, q16, q17, q18, q19⟩ := id hHeld
                  have hr := HI.out _ q16 q17
                  clear q0 q1 q2 q3 q4 q5 q6 q7 q8 q9 q10 q11 q12 q13 q14 q15 q16 q17 q18 q19
                  rw [hck] at hr
                  refine hr.mono ?_
                  clear hr
                  rintro e w7 ⟨rfl, hb7⟩
                  go_wp2_with fail
                  refine hK.out _ _ (by obtain ⟨q0, q1, q2, q3, q4, q5, q6, q7, q8, q9, q10, q11, q12, q13, q14, q15, q16, q17, q18, q19⟩ := hHeld; exact ⟨held_cell hb7 q0, held_cell hb7 q1, held_cell hb7 q2, held_cell hb7 q3, held_cell hb7 q4, held_cell hb7 q5, held_cell hb7 q6, held_cell hb7 q7, held_cell hb7 q8, held_cell hb7 q9, held_cell hb7 q10, held_cell hb7 q11, held_cell hb7 q12, held_cell hb7 q13, held_cell hb7 q14, held_cell hb7 q15, (q16).below hb7, (q17).below hb7, (q18).then hb7, (q19).then hb7⟩) (fun hHeld => ?_)
                  clear hK K
                  (try simp only [Act.put, List.setIfInBounds_toArray, List.set_cons_zero, List.set_cons_succ])
                  refine wpAnyH_take (i := 11) (oi := ⟨some 58, _, _, _, _, _⟩) (v := ?_) rfl (by kernel_rfl) (by kernel_rfl) (by kernel_rfl) (fun _ _ _ h => h) (Or.inl ⟨by rfl, ?_⟩) (by assumption) ?_
                  rotate_left
                  · (intro w hSw; (try dsimp only at hSw); go_simp; try (with_reducible rfl))
                  (try simp only [Act.put, List.setIfInBounds_toArray, List.set_cons_zero, List.set_cons_succ])
                  refine wpAnyH_take (i := 12) (oi := ⟨some 70, _, _, _, _, _⟩) (v := ?_) rfl (by kernel_rfl) (by kernel_rfl) (by kernel_rfl) (fun _ _ _ h => h) (Or.inl ⟨by rfl, ?_⟩) (by assumption) ?_
                  rotate_left
                  · (intro w hSw; (try dsimp only at hSw); go_simp; try (with_reducible rfl))
                  (try simp only [Act.put, List.setIfInBounds_toArray, List.set_cons_zero, List.set_cons_succ])
                  refine wpAnyH_take (i := 13) (oi := ⟨some 71, _, _, _, _, _⟩) (v := ?_) rfl (by kernel_rfl) (by kernel_rfl) (by kernel_rfl) (fun _ _ _ h => h) (Or.inl ⟨by rfl, ?_⟩) (by assumption) ?_
                  rotate_left
                  · (intro w hSw; (try dsimp only at hSw); go_simp; try (with_reducible rfl))
                  (try simp only [Act.put, List.setIfInBounds_toArray, List.set_cons_zero, List.set_cons_succ])
                  refine wpAnyH_take (i := 14) (oi := ⟨some 7, _, _, _, _, _⟩) (v := ?_) rfl (by kernel_rfl) (by kernel_rfl) (by kernel_rfl) (fun _ _ _ h => h) (Or.inl ⟨by rfl, ?_⟩) (by assumption) ?_
                  rotate_left
                  · (intro w hSw; (try dsimp only at hSw); go_simp; try (with_reducible rfl))
                  (try simp only [Act.put, List.setIfInBounds_toArray, List.set_cons_zero, List.set_cons_succ])
                  refine wpAnyH_take (i := 15) (oi := ⟨some 8, _, _, _, _, _⟩) (v := ?_) rfl (by kernel_rfl) (by kernel_rfl) (by kernel_rfl) (fun _ _ _ h => h) (Or.inl ⟨by rfl, ?_⟩) (by assumption) ?_
                  rotate_left
                  · (intro w hSw; (try dsimp only at hSw); go_simp; try (with_reducible rfl))
                  (try simp only [Act.put, List.setIfInBounds_toArray, List.set_cons_zero, List.set_cons_succ])
                  refine wpAnyH_done (by kernel_rfl) ?_ _
                  have hH := hHeld.2.2.2.2.2.2.2.2.2.2.2.2.2.2.2.2.2.2
                  clear hHeld
                  go_wp2
                  go_ret2
                  exact ⟨(by simp only [HE.out, HX.out] <;> rfl), hH.1.below⟩
                · have hq1 : (q != 0) = true := by simpa using hq
                  clear hz
                  go_wp2
                  refine wp_region_held_drew (S := (fun W => W.cell? ⟨w.heap.size, 0, none⟩ = some (.int .u8 a.k) ∧ W.cell? ⟨w.heap.size, 1, none⟩ = some (.string a.s) ∧ W.cell? ⟨w.heap.size, 2, none⟩ = some (.int .i64 a.n) ∧ W.cell? ⟨w.heap.size, 3, none⟩ = some (.slice (some ⟨p, o, none⟩) a.l.length c) ∧ W.cell? ⟨w.heap.size + 1, 0, none⟩ = some (.int .u8 b.k) ∧ W.cell? ⟨w.heap.size + 1, 1, none⟩ = some (.string b.s) ∧ W.cell? ⟨w.heap.size + 1, 2, none⟩ = some (.int .i64 b.n) ∧ W.cell? ⟨w.heap.size + 1, 3, none⟩ = some (.slice (some ⟨p', o', none⟩) b.l.length c') ∧ W.cell? ⟨p, o + j * 4, none⟩ = some (.int .u8 a.l[j].k) ∧ W.cell? ⟨p, o + j * 4 + 1, none⟩ = some (.string a.l[j].s) ∧ W.cell? ⟨p, o + j * 4 + 2, none⟩ = some (.int .i64 a.l[j].n) ∧ W.cell? ⟨p, o + j * 4 + 3, none⟩ = some (.slice gA a.l[j].l.length gc) ∧ W.cell? ⟨p', o' + j * 4, none⟩ = some (.int .u8 b.l[j].k) ∧ W.cell? ⟨p', o' + j * 4 + 1, none⟩ = some (.string b.l[j].s) ∧ W.cell? ⟨p', o' + j * 4 + 2, none⟩ = some (.int .i64 b.l[j].n) ∧ W.cell? ⟨p', o' + j * 4 + 3, none⟩ = some (.slice hA b.l[j].l.length hc) ∧ Kd.tm.S W (fun _ => True) a.l[j].l (.slice gA a.l[j].l.length gc) ∧ Kd.tm.S W (fun _ => True) b.l[j].l (.slice hA b.l[j].l.length hc) ∧ Bx w (fun _ => True) w.heap.size a (.slice (some ⟨p, o, none⟩) a.l.length c) W ∧ Bx w (fun _ => True) (w.heap.size + 1) b (.slice (some ⟨p', o', none⟩) b.l.length c') W)) (by kernel_rfl) ?_ (fun hHeld => ?_)
                  · exact ⟨e0, e1, e2, e3, f0, f1, f2, f3, y0, y1, y2, y3, z0, z1, z2, z3, y4.below (Below.refl _ _).drew, z4.below (Below.refl _ _).drew, x1.drew, x2.drew⟩
                  change wpAnyH _ .any _ _ _ 16 (Array.replicate 16 false) _ _
                  refine wpAnyH_take (i := 0) (oi := ⟨some 59, _, _, _, _, _⟩) (v := ?_) rfl (by kernel_rfl) (by kernel_rfl) (by kernel_rfl) (fun _ _ _ h => h) (Or.inl ⟨by rfl, ?_⟩) (by assumption) ?_
                  rotate_left
                  · (intro w hSw; (try dsimp only at hSw); go_simp; try (with_reducible rfl))
                  (try simp only [Act.put, List.setIfInBounds_toArray, List.set_cons_zero, List.set_cons_succ])
                  refine wpAnyH_take (i := 1) (oi := ⟨some 60, _, _, _, _, _⟩) (v := ?_) rfl (by kernel_rfl) (by kernel_rfl) (by kernel_rfl) (fun _ _ _ h => h) (Or.inl ⟨by rfl, ?_⟩) (by assumption) ?_
                  rotate_left
                  · (intro w hSw; (try dsimp only at hSw); go_simp; try (with_reducible rfl))
                  (try simp only [Act.put, List.setIfInBounds_toArray, List.set_cons_zero, List.set_cons_succ])
                  refine wpAnyH_take (i := 2) (oi := ⟨some 61, _, _, _, _, _⟩) (v := ?_) rfl (by kernel_rfl) (by kernel_rfl) (by kernel_rfl) (fun _ _ _ h => h) (Or.inl ⟨by rfl, ?_⟩) (by assumption) ?_
                  rotate_left
                  · (intro w hSw; (try dsimp only at hSw); go_simp; try (with_reducible rfl))
                  (try simp only [Act.put, List.setIfInBounds_toArray, List.set_cons_zero, List.set_cons_succ])
                  refine wpAnyH_take (i := 3) (oi := ⟨some 62, _, _, _, _, _⟩) (v := ?_) rfl (by kernel_rfl) (by kernel_rfl) (by kernel_rfl) (fun _ _ _ h => h) (Or.inl ⟨by rfl, ?_⟩) (by assumption) ?_
                  rotate_left
                  · (intro w hSw; (try dsimp only at hSw); go_simp; try (with_reducible rfl))
                  (try simp only [Act.put, List.setIfInBounds_toArray, List.set_cons_zero, List.set_cons_succ])
                  refine wpAnyH_take (i := 4) (oi := ⟨some 63, _, _, _, _, _⟩) (v := ?_) rfl (by kernel_rfl) (by kernel_rfl) (by kernel_rfl) (fun _ _ _ h => h) (Or.inl ⟨by rfl, ?_⟩) (by assumption) ?_
                  rotate_left
                  · (intro w hSw; (try dsimp only at hSw); go_simp; try (with_reducible rfl))
                  (try simp only [Act.put, List.setIfInBounds_toArray, List.set_cons_zero, List.set_cons_succ])
                  refine wpAnyH_take (i := 5) (oi := ⟨some 64, _, _, _, _, _⟩) (v := ?_) rfl (by kernel_rfl) (by kernel_rfl) (by kernel_rfl) (fun _ _ _ h => h) (Or.inl ⟨by rfl, ?_⟩) (by assumption) ?_
                  rotate_left
                  · (intro w hSw; (try dsimp only at hSw); go_simp; try (with_reducible rfl))
                  (try simp only [Act.put, List.setIfInBounds_toArray, List.set_cons_zero, List.set_cons_succ])
                  refine wpAnyH_take (i := 6) (oi := ⟨some 65, _, _, _, _, _⟩) (v := ?_) rfl (by kernel_rfl) (by kernel_rfl) (by kernel_rfl) (fun _ _ _ h => h) (Or.inl ⟨by rfl, ?_⟩) (by assumption) ?_
                  rotate_left
                  · (intro w hSw; (try dsimp only at hSw); go_simp; try (with_reducible rfl))
                  (try simp only [Act.put, List.setIfInBounds_toArray, List.set_cons_zero, List.set_cons_succ])
                  refine wpAnyH_take (i := 7) (oi := ⟨some 66, _, _, _, _, _⟩) (v := ?_) rfl (by kernel_rfl) (by kernel_rfl) (by kernel_rfl) (fun _ _ _ h => h) (Or.inl ⟨by rfl, ?_⟩) (by assumption) ?_
                  rotate_left
                  · (intro w hSw; (try dsimp only at hSw); go_simp; try (with_reducible rfl))
                  (try simp only [Act.put, List.setIfInBounds_toArray, List.set_cons_zero, List.set_cons_succ])
                  refine wpAnyH_take (i := 8) (oi := ⟨some 67, _, _, _, _, _⟩) (v := ?_) rfl (by kernel_rfl) (by kernel_rfl) (by kernel_rfl) (fun _ _ _ h => h) (Or.inl ⟨by rfl, ?_⟩) (by assumption) ?_
                  rotate_left
                  · (intro w hSw; (try dsimp only at hSw); go_simp; try (with_reducible rfl))
                  (try simp only [Act.put, List.setIfInBounds_toArray, List.set_cons_zero, List.set_cons_succ])
                  refine wpAnyH_take (i := 9) (oi := ⟨some 68, _, _, _, _, _⟩) (v := ?_) rfl (by kernel_rfl) (by kernel_rfl) (by kernel_rfl) (fun _ _ _ h => h) (Or.inl ⟨by rfl, ?_⟩) (by assumption) ?_
                  rotate_left
                  · (intro w hSw; (try dsimp only at hSw); go_simp; try (with_reducible rfl))
                  (try simp only [Act.put, List.setIfInBounds_toArray, List.set_cons_zero, List.set_cons_succ])
                  refine wpAnyH_ready (rs := [10]) (by kernel_rfl) (by simp) ?_
                  refine AllReadyH.cons (o := ⟨some 69, _, _, _, _, _⟩) rfl (fun K hK => ?_) AllReadyH.nil
                  go_simp
                  obtain ⟨q0, q1, q2, q3, q4, q5, q6, q7, q8, q9, q10, q11, q12, q13, q14, q15, q16, q17, q18, q19⟩ := id hHeld
                  have hr := HI.out _ q16 q17
                  clear q0 q1 q2 q3 q4 q5 q6 q7 q8 q9 q10 q11 q12 q13 q14 q15 q16 q17 q18 q19
                  rw [hck] at hr
                  refine hr.mono ?_
                  clear hr
                  rintro e w7 ⟨rfl, hb7⟩
                  go_wp2_with fail
                  refine hK.out _ _ (by obtain ⟨q0, q1, q2, q3, q4, q5, q6, q7, q8, q9, q10, q11, q12, q13, q14, q15, q16, q17, q18, q19⟩ := hHeld; exact ⟨held_cell hb7 q0, held_cell hb7 q1, held_cell hb7 q2, held_cell hb7 q3, held_cell hb7 q4, held_cell hb7 q5, held_cell hb7 q6, held_cell hb7 q7, held_cell hb7 q8, held_cell hb7 q9, held_cell hb7 q10, held_cell hb7 q11, held_cell hb7 q12, held_cell hb7 q13, held_cell hb7 q14, held_cell hb7 q15, (q16).below hb7, (q17).below hb7, (q18).then hb7, (q19).then hb7⟩) (fun hHeld => ?_)
                  clear hK K
                  (try simp only [Act.put, List.setIfInBounds_toArray, List.set_cons_zero, List.set_cons_succ])
                  refine wpAnyH_take (i := 11) (oi := ⟨some 58, _, _, _, _, _⟩) (v := ?_) rfl (by kernel_rfl) (by kernel_rfl) (by kernel_rfl) (fun _ _ _ h => h) (Or.inl ⟨by rfl, ?_⟩) (by assumption) ?_
                  rotate_left
                  · (intro w hSw; (try dsimp only at hSw); go_simp; try (with_reducible rfl))
                  (try simp only [Act.put, List.setIfInBounds_toArray, List.set_cons_zero, List.set_cons_succ])
                  refine wpAnyH_take (i := 12) (oi := ⟨some 70, _, _, _, _, _⟩) (v := ?_) rfl (by kernel_rfl) (by kernel_rfl) (by kernel_rfl) (fun _ _ _ h => h) (Or.inl ⟨by rfl, ?_⟩) (by assumption) ?_
                  rotate_left
                  · (intro w hSw; (try dsimp only at hSw); go_simp; try (with_reducible rfl))
                  (try simp only [Act.put, List.setIfInBounds_toArray, List.set_cons_zero, List.set_cons_succ])
                  refine wpAnyH_take (i := 13) (oi := ⟨some 71, _, _, _, _, _⟩) (v := ?_) rfl (by kernel_rfl) (by kernel_rfl) (by kernel_rfl) (fun _ _ _ h => h) (Or.inl ⟨by rfl, ?_⟩) (by assumption) ?_
                  rotate_left
                  · (intro w hSw; (try dsimp only at hSw); go_simp; try (with_reducible rfl))
                  (try simp only [Act.put, List.setIfInBounds_toArray, List.set_cons_zero, List.set_cons_succ])
                  refine wpAnyH_take (i := 14) (oi := ⟨some 7, _, _, _, _, _⟩) (v := ?_) rfl (by kernel_rfl) (by kernel_rfl) (by kernel_rfl) (fun _ _ _ h => h) (Or.inl ⟨by rfl, ?_⟩) (by assumption) ?_
                  rotate_left
                  · (intro w hSw; (try dsimp only at hSw); go_simp; try (with_reducible rfl))
                  (try simp only [Act.put, List.setIfInBounds_toArray, List.set_cons_zero, List.set_cons_succ])
                  refine wpAnyH_take (i := 15) (oi := ⟨some 8, _, _, _, _, _⟩) (v := ?_) rfl (by kernel_rfl) (by kernel_rfl) (by kernel_rfl) (fun _ _ _ h => h) (Or.inl ⟨by rfl, ?_⟩) (by assumption) ?_
                  rotate_left
                  · (intro w hSw; (try dsimp only at hSw); go_simp; try (with_reducible rfl))
                  (try simp only [Act.put, List.setIfInBounds_toArray, List.set_cons_zero, List.set_cons_succ])
                  refine wpAnyH_done (by kernel_rfl) ?_ _
                  have hH := hHeld.2.2.2.2.2.2.2.2.2.2.2.2.2.2.2.2.2.2
                  clear hHeld
                  go_wp2
                  go_ret2
                  exact ⟨(by simp only [HE.out, HX.out] <;> rfl), hH.1.below⟩
            · have hlz : ¬ (j : Int) < a.l.length := by omega
              have HX : Hid (rordL a.l b.l = (0, true)) := Lib.hid (rordL_end hlen.out (fun i h1 h2 => h0.out i (by omega) h1 h2))
              obtain ⟨e0, e1, e2, e3, -⟩ := x1.held
              obtain ⟨f0, f1, f2, f3, -⟩ := x2.held
              clear h0
              go_wp2
              go_ret2
              exact ⟨(by simp only [HE.out, HX.out] <;> rfl), x1.below⟩
        · have HE : Hid (rordT a b = (refT a b, true)) := Lib.hid (by rw [hE0, if_pos (.inr (.inr (.inr e4)))])
          have e4' : ((a.l.length : Int) != b.l.length) = true := by simp; omega
          have e3'' : (a.s.toList != b.s.toList) = false := by simp [e3]
          clear hE0 e1 e2 e3 e4 hnv ih
          go_enter Tryd.func9, Tryd.ntmps9
          go_wp2_with (go_at_call 29; refine (HC.out _ x1 x2).mono ?_; clear HC; rintro e w5 ⟨rfl, hb5⟩)
          go_ret2
          exact ⟨(by simp only [HE.out] <;> rfl), (x1.then hb5).below⟩
      · have HE : Hid (rordT a b = (refT a b, true)) := Lib.hid (by rw [hE0, if_pos (.inr (.inr (.inl e3)))])
        have e3' : (a.s.toList == b.s.toList) = false := toList_ne e3
        have e3'' : (a.s.toList != b.s.toList) = true := by simp [bne, e3']
        clear hE0 e1 e2 e3 hnv ih
        go_enter Tryd.func9, Tryd.ntmps9
        go_wp2_with (go_at_call 29; refine (HC.out _ x1 x2).mono ?_; clear HC; rintro e w5 ⟨rfl, hb5⟩)
        go_ret2
        exact ⟨(by simp only [HE.out] <;> rfl), (x1.then hb5).below⟩
    · have HE : Hid (rordT a b = (refT a b, true)) := Lib.hid (by rw [hE0, if_pos (.inr (.inl e2))])
      have e2' : (a.k != 4) = true := by simpa using e2
      clear hE0 e1 e2 ih
      rcases hnv with k1 | ⟨k1, k2⟩
      · have k1' : (a.k == 1) = false := by simpa using k1
        clear k1
        go_enter Tryd.func9, Tryd.ntmps9
        go_wp2_with (go_at_call 29; refine (HC.out _ x1 x2).mono ?_; clear HC; rintro e w5 ⟨rfl, hb5⟩)
        go_ret2
        exact ⟨(by simp only [HE.out] <;> rfl), (x1.then hb5).below⟩
      · have k1' : (a.k == 1) = true := by simpa using k1
        have k2' : (b.k == 1) = false := by simpa using k2
        clear k1 k2
        go_enter Tryd.func9, Tryd.ntmps9
        go_wp2_with (go_at_call 29; refine (HC.out _ x1 x2).mono ?_; clear HC; rintro e w5 ⟨rfl, hb5⟩)
        go_ret2
        exact ⟨(by simp only [HE.out] <;> rfl), (x1.then hb5).below⟩
  · have HE : Hid (rordT a b = (refT a b, true)) := Lib.hid (by rw [hE0, if_pos (.inl e1)])
    have e1' : (a.k != b.k) = true := by simpa using e1
    clear hE0 e1 ih
    rcases hnv with k1 | ⟨k1, k2⟩
    · have k1' : (a.k == 1) = false := by simpa using k1
      clear k1
      go_enter Tryd.func9, Tryd.ntmps9
      go_wp2_with (go_at_call 29; refine (HC.out _ x1 x2).mono ?_; clear HC; rintro e w5 ⟨rfl, hb5⟩)
      go_ret2
      exact ⟨(by simp only [HE.out] <;> rfl), (x1.then hb5).below⟩
    · have k1' : (a.k == 1) = true := by simpa using k1
      have k2' : (b.k == 1) = false := by simpa using k2
      clear k1 k2
      go_enter Tryd.func9, Tryd.ntmps9
      go_wp2_with (go_at_call 29; refine (HC.out _ x1 x2).mono ?_; clear HC; rintro e w5 ⟨rfl, hb5⟩)
      go_ret2
      exact ⟨(by simp only [HE.out] <;> rfl), (x1.then hb5).below⟩
end Go.Proofs.YtgcbanljifalnaaDoor
/- The law BuiltinOrder, walked. Conditions: the arguments read; what they are made of is in its bounds; the library's table of blanks is laid as its text says. -/
namespace Go.Proofs.YtgcbanljifalnaaDoor
open Go.RowKit
/-- The terms in their boxes, the table. -/
structure L4 (w : World) (a b : Tm) (u u' : Value) (W : World) : Prop where
  b0 : Below w.heap.size w W
  a : Bt W w.heap.size a u
  b : Bt W (w.heap.size + 1) b u'
  tab : Tab W
section
variable {w W W' : World} {a b : Tm} {u u' : Value}
theorem L4.then (h : L4 w a b u u' W) (hb : Below W.heap.size W W') : L4 w a b u u' W' :=
  ⟨below_then h.b0 h.b0.size hb, h.a.below hb, h.b.below hb, tab_below h.tab hb⟩
theorem L4.cells (h : L4 w a b u u' W) : W.cell? ⟨w.heap.size, 0, none⟩ = some (.int .u8 a.k) ∧ W.cell? ⟨w.heap.size, 1, none⟩ = some (.string a.s) ∧ W.cell? ⟨w.heap.size, 2, none⟩ = some (.int .i64 a.n) ∧ W.cell? ⟨w.heap.size, 3, none⟩ = some u ∧ W.cell? ⟨w.heap.size + 1, 0, none⟩ = some (.int .u8 b.k) ∧ W.cell? ⟨w.heap.size + 1, 1, none⟩ = some (.string b.s) ∧ W.cell? ⟨w.heap.size + 1, 2, none⟩ = some (.int .i64 b.n) ∧ W.cell? ⟨w.heap.size + 1, 3, none⟩ = some u' :=
  ⟨h.a.cells.1, h.a.cells.2.1, h.a.cells.2.2.1, h.a.cells.2.2.2, h.b.cells.1, h.b.cells.2.1, h.b.cells.2.2.1, h.b.cells.2.2.2⟩
theorem L4.new {ok ok' : Nat → Prop} (ha : Kd.tm.S w ok a.l u) (hb : Kd.tm.S w ok' b.l u') (hT : Tab w) : L4 w a b u u' ((w.alloc (.cells #[.int .u8 a.k, .string a.s, .int .i64 a.n, u] 24)).alloc (.cells #[.int .u8 b.k, .string b.s, .int .i64 b.n, u'] 24)) := by
  have h1 := (Below.refl w.heap.size w).alloc (Nat.le_refl _) (.cells #[.int .u8 a.k, .string a.s, .int .i64 a.n, u] 24)
  have h2 := (Below.refl _ (w.alloc (.cells #[.int .u8 a.k, .string a.s, .int .i64 a.n, u] 24))).alloc (Nat.le_refl _) (.cells #[.int .u8 b.k, .string b.s, .int .i64 b.n, u'] 24)
  have h3 := below_then h1 (by simp) h2
  have hn := Bt.new (W := w.alloc (.cells #[.int .u8 a.k, .string a.s, .int .i64 a.n, u] 24)) (hb.below h1)
  rw [World.size_alloc] at hn
  exact ⟨h3, (Bt.new ha).below h2, hn, tab_below hT h3⟩
end
theorem good_shp4 {t : Tm} (h : t.good = true) : t.shp = true := by
  simp only [Tm.good, Bool.and_eq_true] at h
  exact h.2
set_option maxRecDepth 100000 in
set_option maxHeartbeats 8000000 in
theorem BuiltinOrder_c (a b : Tm) (v v' : Value) (w : World) (ok : Nat → Prop) (hv : TmV w ok a v) (hv' : TmV w ok b v') (ha : a.Wf) (hb : b.Wf) (hT : Tab w) :
    Calls Tryd.prog 3 #[v, v'] w fun e w' => e = .returned (.bool true) ∧ Below w.heap.size w w' := by
  obtain ⟨u, rfl, hS⟩ := hv
  obtain ⟨u', rfl, hS'⟩ := hv'
  obtain ⟨A, c, rfl⟩ := hS.form
  obtain ⟨A', c', rfl⟩ := hS'.form
  have hwf : WfL [a, b] := by simp [WfL, ha, hb]
  have HG := Lib.hid (fun W (hW : Below w.heap.size w W) => Great_c [a, b] _ _ _ (lit2 (w := w) (W := W) (ok := ok) (hS.below hW) (hS'.below hW) hW) hwf)
  have H0 := Lib.hid (L4.new hS hS' hT)
  have HW := Lib.hid (fun W (h : L4 w a b (.slice A a.l.length c) (.slice A' b.l.length c') W) => wakes14_c W h.tab)
  clear hS hS' hT
  cases hgr : great [a, b] with
  | true =>
    rw [hgr] at HG
    clear hgr hwf ha hb
    go_enter Tryd.func3, Tryd.ntmps3
    go_wp2_with (first
      | (go_at_call 5; have hq := HG.out _ H0.out.b0; rw [World.size_alloc, World.size_alloc] at hq; refine hq.mono ?_; clear hq HG; rintro e w1 ⟨rfl, hb1⟩; replace H0 := Lib.hid ((H0.out.then ((Below.refl _ _).alloc (Nat.le_refl _) _)).then hb1); clear hb1; (try clear c0 c1 c2 c3 d0 d1 d2 d3); obtain ⟨c0, c1, c2, c3, d0, d1, d2, d3⟩ := H0.out.cells)
      | (go_at_call 7; refine (HW.out _ H0.out).mono ?_; rintro e w5 ⟨rfl, hb5⟩; replace H0 := Lib.hid (H0.out.then hb5); clear hb5 HW; (try clear c0 c1 c2 c3 d0 d1 d2 d3); obtain ⟨c0, c1, c2, c3, d0, d1, d2, d3⟩ := H0.out.cells))
    go_ret
    exact ⟨rfl, H0.out.b0⟩
  | false =>
    rw [hgr] at HG
    have hsz := great_siz hgr
    simp only [sizL] at hsz
    have HA := Lib.hid (fun W (h : L4 w a b (.slice A a.l.length c) (.slice A' b.l.length c') W) => refGood_c a _ W _ h.a.tmv (by omega) ha)
    have HB := Lib.hid (fun W (h : L4 w a b (.slice A a.l.length c) (.slice A' b.l.length c') W) => refGood_c b _ W _ h.b.tmv (by omega) hb)
    cases hga : a.good with
    | false =>
      rw [hga] at HA
      clear hga ha hb hgr hsz hwf HB
      go_enter Tryd.func3, Tryd.ntmps3
      go_wp2_with (first
        | (go_at_call 5; have hq := HG.out _ H0.out.b0; rw [World.size_alloc, World.size_alloc] at hq; refine hq.mono ?_; clear hq HG; rintro e w1 ⟨rfl, hb1⟩; replace H0 := Lib.hid ((H0.out.then ((Below.refl _ _).alloc (Nat.le_refl _) _)).then hb1); clear hb1; (try clear c0 c1 c2 c3 d0 d1 d2 d3); obtain ⟨c0, c1, c2, c3, d0, d1, d2, d3⟩ := H0.out.cells)
        | (go_at_call 6; refine (HA.out _ H0.out).mono ?_; rintro e w3 ⟨rfl, hb3⟩; replace H0 := Lib.hid (H0.out.then hb3); clear hb3 HA; (try clear c0 c1 c2 c3 d0 d1 d2 d3); obtain ⟨c0, c1, c2, c3, d0, d1, d2, d3⟩ := H0.out.cells)
        | (go_at_call 7; refine (HW.out _ H0.out).mono ?_; rintro e w5 ⟨rfl, hb5⟩; replace H0 := Lib.hid (H0.out.then hb5); clear hb5 HW; (try clear c0 c1 c2 c3 d0 d1 d2 d3); obtain ⟨c0, c1, c2, c3, d0, d1, d2, d3⟩ := H0.out.cells))
      go_ret
      exact ⟨rfl, H0.out.b0⟩
    | true =>
      rw [hga] at HA
      cases hgb : b.good with
      | false =>
        rw [hgb] at HB
        clear hga hgb ha hb hgr hsz hwf
        go_enter Tryd.func3, Tryd.ntmps3
        go_wp2_with (first
          | (go_at_call 5; have hq := HG.out _ H0.out.b0; rw [World.size_alloc, World.size_alloc] at hq; refine hq.mono ?_; clear hq HG; rintro e w1 ⟨rfl, hb1⟩; replace H0 := Lib.hid ((H0.out.then ((Below.refl _ _).alloc (Nat.le_refl _) _)).then hb1); clear hb1; (try clear c0 c1 c2 c3 d0 d1 d2 d3); obtain ⟨c0, c1, c2, c3, d0, d1, d2, d3⟩ := H0.out.cells)
          | (go_at_call 6; refine (HA.out _ H0.out).mono ?_; rintro e w3 ⟨rfl, hb3⟩; replace H0 := Lib.hid (H0.out.then hb3); clear hb3 HA; (try clear c0 c1 c2 c3 d0 d1 d2 d3); obtain ⟨c0, c1, c2, c3, d0, d1, d2, d3⟩ := H0.out.cells)
          | (go_at_call 6; refine (HB.out _ H0.out).mono ?_; rintro e w4 ⟨rfl, hb4⟩; replace H0 := Lib.hid (H0.out.then hb4); clear hb4 HB; (try clear c0 c1 c2 c3 d0 d1 d2 d3); obtain ⟨c0, c1, c2, c3, d0, d1, d2, d3⟩ := H0.out.cells)
          | (go_at_call 7; refine (HW.out _ H0.out).mono ?_; rintro e w5 ⟨rfl, hb5⟩; replace H0 := Lib.hid (H0.out.then hb5); clear hb5 HW; (try clear c0 c1 c2 c3 d0 d1 d2 d3); obtain ⟨c0, c1, c2, c3, d0, d1, d2, d3⟩ := H0.out.cells))
        go_ret
        exact ⟨rfl, H0.out.b0⟩
      | true =>
        rw [hgb] at HB
        have href := ord_ref a b (good_shp4 hga) (good_shp4 hgb)
        have HO1 := Lib.hid (fun W (h : L4 w a b (.slice A a.l.length c) (.slice A' b.l.length c') W) => ord_c a b W _ _ _ _ h.a.tmv h.b.tmv)
        have HO2 := Lib.hid (fun W (h : L4 w a b (.slice A a.l.length c) (.slice A' b.l.length c') W) => rord_c a b W _ _ _ _ h.a.tmv h.b.tmv ha hb)
        rw [← href] at HO2
        clear href hga hgb ha hb hgr hsz hwf
        generalize ordT a b = ck at HO1 HO2
        obtain ⟨x, k⟩ := ck
        simp only at HO1 HO2
        have he : ∀ x : Int, (x == x) = true := fun x => by simp
        cases k
        all_goals
          go_enter Tryd.func3, Tryd.ntmps3
          go_wp2_with (first
            | (go_at_call 5; have hq := HG.out _ H0.out.b0; rw [World.size_alloc, World.size_alloc] at hq; refine hq.mono ?_; clear hq HG; rintro e w1 ⟨rfl, hb1⟩; replace H0 := Lib.hid ((H0.out.then ((Below.refl _ _).alloc (Nat.le_refl _) _)).then hb1); clear hb1; (try clear c0 c1 c2 c3 d0 d1 d2 d3); obtain ⟨c0, c1, c2, c3, d0, d1, d2, d3⟩ := H0.out.cells)
            | (go_at_call 6; refine (HA.out _ H0.out).mono ?_; rintro e w3 ⟨rfl, hb3⟩; replace H0 := Lib.hid (H0.out.then hb3); clear hb3 HA; (try clear c0 c1 c2 c3 d0 d1 d2 d3); obtain ⟨c0, c1, c2, c3, d0, d1, d2, d3⟩ := H0.out.cells)
            | (go_at_call 6; refine (HB.out _ H0.out).mono ?_; rintro e w4 ⟨rfl, hb4⟩; replace H0 := Lib.hid (H0.out.then hb4); clear hb4 HB; (try clear c0 c1 c2 c3 d0 d1 d2 d3); obtain ⟨c0, c1, c2, c3, d0, d1, d2, d3⟩ := H0.out.cells)
            | (go_at_call 8; refine (HO1.out _ H0.out).mono ?_; rintro e w6 ⟨rfl, hb6⟩; replace H0 := Lib.hid (H0.out.then hb6); clear hb6 HO1; (try clear c0 c1 c2 c3 d0 d1 d2 d3); obtain ⟨c0, c1, c2, c3, d0, d1, d2, d3⟩ := H0.out.cells)
            | (go_at_call 9; refine (HO2.out _ H0.out).mono ?_; rintro e w7 ⟨rfl, hb7⟩; replace H0 := Lib.hid (H0.out.then hb7); clear hb7 HO2; (try clear c0 c1 c2 c3 d0 d1 d2 d3); obtain ⟨c0, c1, c2, c3, d0, d1, d2, d3⟩ := H0.out.cells)
            | (go_at_call 7; refine (HW.out _ H0.out).mono ?_; rintro e w5 ⟨rfl, hb5⟩; replace H0 := Lib.hid (H0.out.then hb5); clear hb5 HW; (try clear c0 c1 c2 c3 d0 d1 d2 d3); obtain ⟨c0, c1, c2, c3, d0, d1, d2, d3⟩ := H0.out.cells))
          go_ret
          exact ⟨rfl, H0.out.b0⟩
end Go.Proofs.YtgcbanljifalnaaDoor

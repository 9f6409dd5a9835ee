/- Walks of layer 2's reference: the order by definition. Conditions: the arguments read; what they are made of is in its bounds. -/
import Derived.Test.YtdflckjnpgbjlaaWm
set_option linter.unusedVariables false
set_option maxRecDepth 20000
set_option linter.unusedSimpArgs false
namespace Go.Proofs.Ytdflckjnpgbjlaa
open Go.RowKit
attribute [local go_sem ↓] Go.wp_at_zero Go.wp_at_succ
mutual
/-- The order by definition. -/
def refT : Tm → Tm → Int
  | ⟨k, s, n, l⟩, ⟨k', s', n', l'⟩ => if k ≠ k' then cmpI k k' else if k = 1 ∨ k = 2 then cmpI n n' else if k = 3 then cmpS s s' else if l.length ≠ l'.length then cmpI l.length l'.length else if s ≠ s' then cmpS s s' else refL l l'
def refL : List Tm → List Tm → Int
  | t :: ts, u :: us => orI (refT t u) (refL ts us)
  | _, _ => 0
end
theorem refL_at : ∀ {l m : List Tm} {j : Nat} (hj : j < l.length) (hj' : j < m.length), (∀ i, ∀ (h : i < j), refT (l[i]'(by omega)) (m[i]'(by omega)) = 0) → refT l[j] m[j] ≠ 0 → refL l m = refT l[j] m[j]
  | t :: ts, u :: us, 0, _, _, _, h => by simp only [List.getElem_cons_zero] at h ⊢; simp [refL, orI, h]
  | t :: ts, u :: us, j + 1, hj, hj', h0, h => by
    simp only [List.getElem_cons_succ] at h ⊢
    have h00 : refT t u = 0 := h0 0 (by omega)
    simp only [refL, orI, h00, ne_eq, not_true_eq_false, if_false]
    exact refL_at (by simpa using hj) (by simpa using hj') (fun i hi => by have := h0 (i + 1) (by omega); simpa using this) h
theorem refL_end : ∀ {l m : List Tm}, (∀ i, ∀ (h : i < l.length) (h' : i < m.length), refT l[i] m[i] = 0) → refL l m = 0
  | [], [], _ => by simp [refL]
  | [], _ :: _, _ => by simp [refL]
  | _ :: _, [], _ => by simp [refL]
  | t :: ts, u :: us, h => by
    have h00 : refT t u = 0 := h 0 (by simp) (by simp)
    have := refL_end (l := ts) (m := us) (fun i hi hi' => by have := h (i + 1) (by simpa using hi) (by simpa using hi'); simpa using this)
    simp only [refL, orI, h00, ne_eq, not_true_eq_false, if_false, this]
set_option maxRecDepth 100000 in
set_option maxHeartbeats 8000000 in
theorem refCompare_c (t : Tm) : ∀ (u : Tm) (w : World) (ok ok' : Nat → Prop) (v v' : Value), TmV w ok t v → TmV w ok' u v' → t.Wf → u.Wf → Calls Try.prog 48 #[v, v'] w fun e w' => e = .returned (.int .i64 (refT t u)) ∧ Below w.heap.size w w' := by
  refine Tm.ind (p := fun t => ∀ (u : Tm) (w : World) (ok ok' : Nat → Prop) (v v' : Value), TmV w ok t v → TmV w ok' u v' → t.Wf → u.Wf → Calls Try.prog 48 #[v, v'] w fun e w' => e = .returned (.int .i64 (refT t u)) ∧ Below w.heap.size w w') ?_ t
  intro a ih b w ok ok' v v' hv hv' hwa hwb
  obtain ⟨u, rfl, hs⟩ := hv
  obtain ⟨u', rfl, hs'⟩ := hv'
  have hT : ∀ O1 O2, O1 = Obj.cells #[.int .u8 a.k, .string a.s, .int .i64 a.n, u] 24 → O2 = Obj.cells #[.int .u8 b.k, .string b.s, .int .i64 b.n, u'] 24 → TwoB w.heap.size (w.heap.size + 1) a b ok ok' u u' ((w.alloc O1).alloc O2) := fun O1 O2 h1 h2 =>
    ⟨by rw [← h1]; exact (Below.heap_alloc _ _ _ (by simp)).trans (heap_new w _), by have := heap_new (w.alloc O1) O2; rw [World.size_alloc] at this; rw [this, h2], hs.below (((Below.refl _ w).alloc (Nat.le_refl _) O1).alloc (by simp) O2), hs'.below (((Below.refl _ w).alloc (Nat.le_refl _) O1).alloc (by simp) O2)⟩
  have hT := hT _ _ rfl rfl
  have hst : ∀ O1 O2, Below w.heap.size w ((w.alloc O1).alloc O2) := fun O1 O2 => ((Below.refl _ w).alloc (Nat.le_refl _) O1).alloc (by simp) O2
  obtain ⟨A, c, rfl⟩ := hs.form
  obtain ⟨A', c', rfl⟩ := hs'.form
  obtain ⟨k, s, n, l⟩ := a
  obtain ⟨k', s', n', l'⟩ := b
  simp only at hT ih hs hs' ⊢
  have wa := hwa.parts
  have wb := hwb.parts
  simp only at wa wb
  have wk := wa.1
  have wk' := wb.1
  have hss := wa.2.2.1
  have hss' := wb.2.2.1
  clear hs hs' hwa hwb
  by_cases hk : k = k'
  · subst hk
    by_cases h12 : k = 1 ∨ k = 2
    · have HX := Lib.hid (show refT ⟨k, s, n, l⟩ ⟨k, s', n', l'⟩ = cmpI n n' by simp [refT, h12])
      clear ih hT
      rcases h12 with rfl | rfl
      all_goals
        go_enter Try.func48, Try.ntmps48
        go_wp2_with (go_at_call 82; refine (num_c _ _ _).mono ?_; rintro e w1 ⟨rfl, rfl⟩)
        go_ret
        exact ⟨ret_int HX.out.symm, hst _ _⟩
    · have k1 : ¬ k = 1 := fun e => h12 (.inl e)
      have k2 : ¬ k = 2 := fun e => h12 (.inr e)
      have k1' : (k == 1) = false := by simpa using k1
      have k2' : (k == 2) = false := by simpa using k2
      by_cases k3 : k = 3
      · subst k3
        have HX := Lib.hid (show refT ⟨3, s, n, l⟩ ⟨3, s', n', l'⟩ = cmpS s s' by simp [refT])
        clear ih hT
        go_enter Try.func48, Try.ntmps48
        go_wp2_with (go_at_call 83; refine (texts_c _ _ _ hss hss').mono ?_; rintro e w1 ⟨rfl, hb1⟩)
        go_ret
        exact ⟨ret_int HX.out.symm, below_then (hst _ _) (by simp; omega) hb1⟩
      · have k3' : (k == 3) = false := by simpa using k3
        by_cases hlen : l.length = l'.length
        · by_cases hst' : s = s'
          · subst hst'
            have HX := Lib.hid (show refT ⟨k, s, n, l⟩ ⟨k, s, n', l'⟩ = refL l l' by simp [refT, h12, k3, hlen])
            have hle : ((l.length : Int) != l'.length) = false := by rw [hlen]; simp
            have hLEN := Lib.hid hlen
            clear h12 k1 k2 k3 wk wk' hss hss' hlen
            go_enter Try.func48, Try.ntmps48
            obtain ⟨c0, c1, c2, c3, -⟩ := box4 hT.c
            obtain ⟨d0, d1, d2, d3, -⟩ := box4 hT.d
            go_wp2
            go_loopw [5] (fun i wr => ∃ j : Nat, j ≤ l.length ∧ i = .int .i64 j ∧ Hid (∀ i, ∀ (h : i < j) (h1 : i < l.length) (h2 : i < l'.length), refT l[i] l'[i] = 0) ∧ TwoB w.heap.size (w.heap.size + 1) ⟨k, s, n, l⟩ ⟨k, s, n', l'⟩ ok ok' (.slice A l.length c) (.slice A' l'.length c') wr ∧ Below w.heap.size w wr) (fun i _ => l.length - (intOf i).toNat)
            case atStart => exact ⟨0, Nat.zero_le _, rfl, Lib.hid (fun i h => by omega), hT, hst _ _⟩
            case round =>
              clear hT c0 c1 c2 c3 d0 d1 d2 d3
              obtain ⟨j, hj, rfl, hn, hT, hb⟩ := hrel
              obtain ⟨c0, c1, c2, c3, -⟩ := box4 hT.c
              obtain ⟨d0, d1, d2, d3, -⟩ := box4 hT.d
              by_cases hlt : j < l.length
              · have hlt' : j < l'.length := by have := hLEN.out; omega
                obtain ⟨_, _, ea, hal, hac, hAa⟩ := hT.s
                injection ea with e1 e2 e3
                subst e1 e3
                clear e2
                obtain ⟨_, _, eb, hbl, hbc, hAb⟩ := hT.s'
                injection eb with e1 e2 e3
                subst e1 e3
                clear e2
                unfold maxLen at hac hbc
                simp only at hAa hAb hal hbl
                obtain ⟨ba, oa, ua, rfl, -, hloa, k0, k1, k2, k3, k4⟩ := tm_elem hAa hlt
                obtain ⟨bb, ob, ub, rfl, -, hlob, n0, n1, n2, n3, n4⟩ := tm_elem hAb hlt'
                obtain ⟨uA, uc, rfl⟩ := k4.form
                obtain ⟨uB, ud, rfl⟩ := n4.form
                have HC := Lib.hid (fun W (h1 : Kd.tm.S W ok l[j].l (.slice uA l[j].l.length uc)) (h2 : Kd.tm.S W ok' l'[j].l (.slice uB l'[j].l.length ud)) => ih l[j] (List.getElem_mem hlt) l'[j] W ok ok' _ _ ⟨_, rfl, h1⟩ ⟨_, rfl, h2⟩ (WfL_at wa.2.2.2 hlt) (WfL_at wb.2.2.2 hlt'))
                have HS : Hid (refT l[j] l'[j] = 0 → ∀ i, ∀ (h : i < j + 1) (h1 : i < l.length) (h2 : i < l'.length), refT l[i] l'[i] = 0) := Lib.hid (fun h i hi h1 h2 => by
                  rcases Nat.lt_or_ge i j with hij | hij
                  · exact hn.out i hij h1 h2
                  · have : i = j := by omega
                    subst this; exact h)
                have HF : Hid (refT l[j] l'[j] ≠ 0 → refL l l' = refT l[j] l'[j]) := Lib.hid (fun h => refL_at hlt hlt' (fun i hi => hn.out i hi _ _) h)
                have q1 : (j : Int) < l.length := by omega
                have q2 : (j : Int) < l'.length := by omega
                have q3 : (j : Int) < c := by omega
                have q4 : (j : Int) < c' := by omega
                have hTb := Lib.hid hT
                have hbH := Lib.hid hb
                have HXX := Lib.hid ih
                clear ih hAa hAb hn hT wa wb
                generalize refT l[j] l'[j] = x at HC HS HF
                generalize l[j] = t at k0 k1 k2 k3 k4 HC
                generalize l'[j] = u at n0 n1 n2 n3 n4 HC
                by_cases hx : x = 0
                · have hx' : (x != 0) = false := by simpa using hx
                  go_wp2
                  refine wp_region_held_drew (S := (fun W => W.cell? ⟨w.heap.size, 3, none⟩ = some (.slice (some ⟨ba, oa, none⟩) l.length c) ∧ W.cell? ⟨w.heap.size + 1, 3, none⟩ = some (.slice (some ⟨bb, ob, none⟩) l'.length c') ∧ W.cell? ⟨ba, oa + j * 4, none⟩ = some (.int .u8 t.k) ∧ W.cell? ⟨ba, oa + j * 4 + 1, none⟩ = some (.string t.s) ∧ W.cell? ⟨ba, oa + j * 4 + 2, none⟩ = some (.int .i64 t.n) ∧ W.cell? ⟨ba, oa + j * 4 + 3, none⟩ = some (.slice uA t.l.length uc) ∧ W.cell? ⟨bb, ob + j * 4, none⟩ = some (.int .u8 u.k) ∧ W.cell? ⟨bb, ob + j * 4 + 1, none⟩ = some (.string u.s) ∧ W.cell? ⟨bb, ob + j * 4 + 2, none⟩ = some (.int .i64 u.n) ∧ W.cell? ⟨bb, ob + j * 4 + 3, none⟩ = some (.slice uB u.l.length ud) ∧ TwoB w.heap.size (w.heap.size + 1) ⟨k, s, n, l⟩ ⟨k, s, n', l'⟩ ok ok' (.slice (some ⟨ba, oa, none⟩) l.length c) (.slice (some ⟨bb, ob, none⟩) l'.length c') W ∧ Below w.heap.size w W)) (by kernel_rfl) ?_ (fun hHeld => ?_)
                  · exact ⟨c3, d3, k0, k1, k2, k3, n0, n1, n2, n3, hTb.out.then (Below.refl _ _).drew, hbH.out.drew⟩
                  change wpAnyH _ .any _ _ _ 12 (Array.replicate 12 false) _ _
                  refine wpAnyH_take (i := 0) (oi := ⟨some 67, _, _, _, _, _⟩) (v := ?_) rfl (by kernel_rfl) (by kernel_rfl) (by kernel_rfl) (fun _ _ _ h => h) (Or.inl ⟨by rfl, ?_⟩) (by assumption) ?_
                  rotate_left
                  · (intro w hSw; (try dsimp only at hSw); go_simp; try (with_reducible rfl))
                  (try simp only [Act.put, List.setIfInBounds_toArray, List.set_cons_zero, List.set_cons_succ])
                  refine wpAnyH_take (i := 1) (oi := ⟨some 68, _, _, _, _, _⟩) (v := ?_) rfl (by kernel_rfl) (by kernel_rfl) (by kernel_rfl) (fun _ _ _ h => h) (Or.inl ⟨by rfl, ?_⟩) (by assumption) ?_
                  rotate_left
                  · (intro w hSw; (try dsimp only at hSw); go_simp; try (with_reducible rfl))
                  (try simp only [Act.put, List.setIfInBounds_toArray, List.set_cons_zero, List.set_cons_succ])
                  refine wpAnyH_take (i := 2) (oi := ⟨some 69, _, _, _, _, _⟩) (v := ?_) rfl (by kernel_rfl) (by kernel_rfl) (by kernel_rfl) (fun _ _ _ h => h) (Or.inl ⟨by rfl, ?_⟩) (by assumption) ?_
                  rotate_left
                  · (intro w hSw; (try dsimp only at hSw); go_simp; try (with_reducible rfl))
                  (try simp only [Act.put, List.setIfInBounds_toArray, List.set_cons_zero, List.set_cons_succ])
                  refine wpAnyH_take (i := 3) (oi := ⟨some 70, _, _, _, _, _⟩) (v := ?_) rfl (by kernel_rfl) (by kernel_rfl) (by kernel_rfl) (fun _ _ _ h => h) (Or.inl ⟨by rfl, ?_⟩) (by assumption) ?_
                  rotate_left
                  · (intro w hSw; (try dsimp only at hSw); go_simp; try (with_reducible rfl))
                  (try simp only [Act.put, List.setIfInBounds_toArray, List.set_cons_zero, List.set_cons_succ])
                  refine wpAnyH_take (i := 4) (oi := ⟨some 71, _, _, _, _, _⟩) (v := ?_) rfl (by kernel_rfl) (by kernel_rfl) (by kernel_rfl) (fun _ _ _ h => h) (Or.inl ⟨by rfl, ?_⟩) (by assumption) ?_
                  rotate_left
                  · (intro w hSw; (try dsimp only at hSw); go_simp; try (with_reducible rfl))
                  (try simp only [Act.put, List.setIfInBounds_toArray, List.set_cons_zero, List.set_cons_succ])
                  refine wpAnyH_take (i := 5) (oi := ⟨some 72, _, _, _, _, _⟩) (v := ?_) rfl (by kernel_rfl) (by kernel_rfl) (by kernel_rfl) (fun _ _ _ h => h) (Or.inl ⟨by rfl, ?_⟩) (by assumption) ?_
                  rotate_left
                  · (intro w hSw; (try dsimp only at hSw); go_simp; try (with_reducible rfl))
                  (try simp only [Act.put, List.setIfInBounds_toArray, List.set_cons_zero, List.set_cons_succ])
                  refine wpAnyH_take (i := 6) (oi := ⟨some 73, _, _, _, _, _⟩) (v := ?_) rfl (by kernel_rfl) (by kernel_rfl) (by kernel_rfl) (fun _ _ _ h => h) (Or.inl ⟨by rfl, ?_⟩) (by assumption) ?_
                  rotate_left
                  · (intro w hSw; (try dsimp only at hSw); go_simp; try (with_reducible rfl))
                  (try simp only [Act.put, List.setIfInBounds_toArray, List.set_cons_zero, List.set_cons_succ])
                  refine wpAnyH_take (i := 7) (oi := ⟨some 74, _, _, _, _, _⟩) (v := ?_) rfl (by kernel_rfl) (by kernel_rfl) (by kernel_rfl) (fun _ _ _ h => h) (Or.inl ⟨by rfl, ?_⟩) (by assumption) ?_
                  rotate_left
                  · (intro w hSw; (try dsimp only at hSw); go_simp; try (with_reducible rfl))
                  (try simp only [Act.put, List.setIfInBounds_toArray, List.set_cons_zero, List.set_cons_succ])
                  refine wpAnyH_take (i := 8) (oi := ⟨some 75, _, _, _, _, _⟩) (v := ?_) rfl (by kernel_rfl) (by kernel_rfl) (by kernel_rfl) (fun _ _ _ h => h) (Or.inl ⟨by rfl, ?_⟩) (by assumption) ?_
                  rotate_left
                  · (intro w hSw; (try dsimp only at hSw); go_simp; try (with_reducible rfl))
                  (try simp only [Act.put, List.setIfInBounds_toArray, List.set_cons_zero, List.set_cons_succ])
                  refine wpAnyH_take (i := 9) (oi := ⟨some 76, _, _, _, _, _⟩) (v := ?_) rfl (by kernel_rfl) (by kernel_rfl) (by kernel_rfl) (fun _ _ _ h => h) (Or.inl ⟨by rfl, ?_⟩) (by assumption) ?_
                  rotate_left
                  · (intro w hSw; (try dsimp only at hSw); go_simp; try (with_reducible rfl))
                  (try simp only [Act.put, List.setIfInBounds_toArray, List.set_cons_zero, List.set_cons_succ])
                  refine wpAnyH_ready (rs := [10]) (by kernel_rfl) (by simp) ?_
                  refine AllReadyH.cons (o := ⟨some 77, _, _, _, _, _⟩) rfl (fun K hK => ?_) AllReadyH.nil
                  go_simp
                  refine (HC.out _ (by have := k4.below (Below.refl _ wr).drew; exact this) (by have := n4.below (Below.refl _ wr).drew; exact this)).mono ?_
                  rintro e w9 ⟨rfl, hb9⟩
                  go_wp2_with fail
                  refine hK.out _ _ (by obtain ⟨q0, q1, q2, q3, q4, q5, q6, q7, q8, q9, qR, qB⟩ := hHeld; exact ⟨held_cell hb9 q0, held_cell hb9 q1, held_cell hb9 q2, held_cell hb9 q3, held_cell hb9 q4, held_cell hb9 q5, held_cell hb9 q6, held_cell hb9 q7, held_cell hb9 q8, held_cell hb9 q9, qR.then hb9, below_then qB qB.size hb9⟩) (fun hHeld => ?_)
                  clear hK K
                  (try simp only [Act.put, List.setIfInBounds_toArray, List.set_cons_zero, List.set_cons_succ])
                  refine wpAnyH_take (i := 11) (oi := ⟨some 6, _, _, _, _, _⟩) (v := ?_) rfl (by kernel_rfl) (by kernel_rfl) (by kernel_rfl) (fun _ _ _ h => h) (Or.inl ⟨by rfl, ?_⟩) (by assumption) ?_
                  rotate_left
                  · (intro w hSw; (try dsimp only at hSw); go_simp; try (with_reducible rfl))
                  (try simp only [Act.put, List.setIfInBounds_toArray, List.set_cons_zero, List.set_cons_succ])
                  refine wpAnyH_done (by kernel_rfl) ?_ _
                  have hH := hHeld
                  clear hHeld
                  go_wp2
                  go_roundw
                  case rel => exact ⟨j + 1, by omega, by go_num, Lib.hid (HS.out hx), hH.2.2.2.2.2.2.2.2.2.2.1, hH.2.2.2.2.2.2.2.2.2.2.2⟩
                  case measure => simp [intOf]; omega
                · have hx' : (x != 0) = true := by simpa using hx
                  go_wp2
                  refine wp_region_held_drew (S := (fun W => W.cell? ⟨w.heap.size, 3, none⟩ = some (.slice (some ⟨ba, oa, none⟩) l.length c) ∧ W.cell? ⟨w.heap.size + 1, 3, none⟩ = some (.slice (some ⟨bb, ob, none⟩) l'.length c') ∧ W.cell? ⟨ba, oa + j * 4, none⟩ = some (.int .u8 t.k) ∧ W.cell? ⟨ba, oa + j * 4 + 1, none⟩ = some (.string t.s) ∧ W.cell? ⟨ba, oa + j * 4 + 2, none⟩ = some (.int .i64 t.n) ∧ W.cell? ⟨ba, oa + j * 4 + 3, none⟩ = some (.slice uA t.l.length uc) ∧ W.cell? ⟨bb, ob + j * 4, none⟩ = some (.int .u8 u.k) ∧ W.cell? ⟨bb, ob + j * 4 + 1, none⟩ = some (.string u.s) ∧ W.cell? ⟨bb, ob + j * 4 + 2, none⟩ = some (.int .i64 u.n) ∧ W.cell? ⟨bb, ob + j * 4 + 3, none⟩ = some (.slice uB u.l.length ud) ∧ TwoB w.heap.size (w.heap.size + 1) ⟨k, s, n, l⟩ ⟨k, s, n', l'⟩ ok ok' (.slice (some ⟨ba, oa, none⟩) l.length c) (.slice (some ⟨bb, ob, none⟩) l'.length c') W ∧ Below w.heap.size w W)) (by kernel_rfl) ?_ (fun hHeld => ?_)
                  · exact ⟨c3, d3, k0, k1, k2, k3, n0, n1, n2, n3, hTb.out.then (Below.refl _ _).drew, hbH.out.drew⟩
                  change wpAnyH _ .any _ _ _ 12 (Array.replicate 12 false) _ _
                  refine wpAnyH_take (i := 0) (oi := ⟨some 67, _, _, _, _, _⟩) (v := ?_) rfl (by kernel_rfl) (by kernel_rfl) (by kernel_rfl) (fun _ _ _ h => h) (Or.inl ⟨by rfl, ?_⟩) (by assumption) ?_
                  rotate_left
                  · (intro w hSw; (try dsimp only at hSw); go_simp; try (with_reducible rfl))
                  (try simp only [Act.put, List.setIfInBounds_toArray, List.set_cons_zero, List.set_cons_succ])
                  refine wpAnyH_take (i := 1) (oi := ⟨some 68, _, _, _, _, _⟩) (v := ?_) rfl (by kernel_rfl) (by kernel_rfl) (by kernel_rfl) (fun _ _ _ h => h) (Or.inl ⟨by rfl, ?_⟩) (by assumption) ?_
                  rotate_left
                  · (intro w hSw; (try dsimp only at hSw); go_simp; try (with_reducible rfl))
                  (try simp only [Act.put, List.setIfInBounds_toArray, List.set_cons_zero, List.set_cons_succ])
                  refine wpAnyH_take (i := 2) (oi := ⟨some 69, _, _, _, _, _⟩) (v := ?_) rfl (by kernel_rfl) (by kernel_rfl) (by kernel_rfl) (fun _ _ _ h => h) (Or.inl ⟨by rfl, ?_⟩) (by assumption) ?_
                  rotate_left
                  · (intro w hSw; (try dsimp only at hSw); go_simp; try (with_reducible rfl))
                  (try simp only [Act.put, List.setIfInBounds_toArray, List.set_cons_zero, List.set_cons_succ])
                  refine wpAnyH_take (i := 3) (oi := ⟨some 70, _, _, _, _, _⟩) (v := ?_) rfl (by kernel_rfl) (by kernel_rfl) (by kernel_rfl) (fun _ _ _ h => h) (Or.inl ⟨by rfl, ?_⟩) (by assumption) ?_
                  rotate_left
                  · (intro w hSw; (try dsimp only at hSw); go_simp; try (with_reducible rfl))
                  (try simp only [Act.put, List.setIfInBounds_toArray, List.set_cons_zero, List.set_cons_succ])
                  refine wpAnyH_take (i := 4) (oi := ⟨some 71, _, _, _, _, _⟩) (v := ?_) rfl (by kernel_rfl) (by kernel_rfl) (by kernel_rfl) (fun _ _ _ h => h) (Or.inl ⟨by rfl, ?_⟩) (by assumption) ?_
                  rotate_left
                  · (intro w hSw; (try dsimp only at hSw); go_simp; try (with_reducible rfl))
                  (try simp only [Act.put, List.setIfInBounds_toArray, List.set_cons_zero, List.set_cons_succ])
                  refine wpAnyH_take (i := 5) (oi := ⟨some 72, _, _, _, _, _⟩) (v := ?_) rfl (by kernel_rfl) (by kernel_rfl) (by kernel_rfl) (fun _ _ _ h => h) (Or.inl ⟨by rfl, ?_⟩) (by assumption) ?_
                  rotate_left
                  · (intro w hSw; (try dsimp only at hSw); go_simp; try (with_reducible rfl))
                  (try simp only [Act.put, List.setIfInBounds_toArray, List.set_cons_zero, List.set_cons_succ])
                  refine wpAnyH_take (i := 6) (oi := ⟨some 73, _, _, _, _, _⟩) (v := ?_) rfl (by kernel_rfl) (by kernel_rfl) (by kernel_rfl) (fun _ _ _ h => h) (Or.inl ⟨by rfl, ?_⟩) (by assumption) ?_
                  rotate_left
                  · (intro w hSw; (try dsimp only at hSw); go_simp; try (with_reducible rfl))
                  (try simp only [Act.put, List.setIfInBounds_toArray, List.set_cons_zero, List.set_cons_succ])
                  refine wpAnyH_take (i := 7) (oi := ⟨some 74, _, _, _, _, _⟩) (v := ?_) rfl (by kernel_rfl) (by kernel_rfl) (by kernel_rfl) (fun _ _ _ h => h) (Or.inl ⟨by rfl, ?_⟩) (by assumption) ?_
                  rotate_left
                  · (intro w hSw; (try dsimp only at hSw); go_simp; try (with_reducible rfl))
                  (try simp only [Act.put, List.setIfInBounds_toArray, List.set_cons_zero, List.set_cons_succ])
                  refine wpAnyH_take (i := 8) (oi := ⟨some 75, _, _, _, _, _⟩) (v := ?_) rfl (by kernel_rfl) (by kernel_rfl) (by kernel_rfl) (fun _ _ _ h => h) (Or.inl ⟨by rfl, ?_⟩) (by assumption) ?_
                  rotate_left
                  · (intro w hSw; (try dsimp only at hSw); go_simp; try (with_reducible rfl))
                  (try simp only [Act.put, List.setIfInBounds_toArray, List.set_cons_zero, List.set_cons_succ])
                  refine wpAnyH_take (i := 9) (oi := ⟨some 76, _, _, _, _, _⟩) (v := ?_) rfl (by kernel_rfl) (by kernel_rfl) (by kernel_rfl) (fun _ _ _ h => h) (Or.inl ⟨by rfl, ?_⟩) (by assumption) ?_
                  rotate_left
                  · (intro w hSw; (try dsimp only at hSw); go_simp; try (with_reducible rfl))
                  (try simp only [Act.put, List.setIfInBounds_toArray, List.set_cons_zero, List.set_cons_succ])
                  refine wpAnyH_ready (rs := [10]) (by kernel_rfl) (by simp) ?_
                  refine AllReadyH.cons (o := ⟨some 77, _, _, _, _, _⟩) rfl (fun K hK => ?_) AllReadyH.nil
                  go_simp
                  refine (HC.out _ (by have := k4.below (Below.refl _ wr).drew; exact this) (by have := n4.below (Below.refl _ wr).drew; exact this)).mono ?_
                  rintro e w9 ⟨rfl, hb9⟩
                  go_wp2_with fail
                  refine hK.out _ _ (by obtain ⟨q0, q1, q2, q3, q4, q5, q6, q7, q8, q9, qR, qB⟩ := hHeld; exact ⟨held_cell hb9 q0, held_cell hb9 q1, held_cell hb9 q2, held_cell hb9 q3, held_cell hb9 q4, held_cell hb9 q5, held_cell hb9 q6, held_cell hb9 q7, held_cell hb9 q8, held_cell hb9 q9, qR.then hb9, below_then qB qB.size hb9⟩) (fun hHeld => ?_)
                  clear hK K
                  (try simp only [Act.put, List.setIfInBounds_toArray, List.set_cons_zero, List.set_cons_succ])
                  refine wpAnyH_take (i := 11) (oi := ⟨some 6, _, _, _, _, _⟩) (v := ?_) rfl (by kernel_rfl) (by kernel_rfl) (by kernel_rfl) (fun _ _ _ h => h) (Or.inl ⟨by rfl, ?_⟩) (by assumption) ?_
                  rotate_left
                  · (intro w hSw; (try dsimp only at hSw); go_simp; try (with_reducible rfl))
                  (try simp only [Act.put, List.setIfInBounds_toArray, List.set_cons_zero, List.set_cons_succ])
                  refine wpAnyH_done (by kernel_rfl) ?_ _
                  have hH := hHeld
                  clear hHeld
                  go_wp2
                  go_ret
                  exact ⟨ret_int (by rw [HX.out]; exact (HF.out hx).symm), hH.2.2.2.2.2.2.2.2.2.2.2⟩
              · have HF : Hid (refL l l' = 0) := Lib.hid (refL_end (fun i h1 h2 => hn.out i (by omega) h1 h2))
                clear ih hn hT
                go_wp2
                go_ret
                exact ⟨ret_int (by rw [HX.out]; exact HF.out.symm), hb⟩
          · have HX := Lib.hid (show refT ⟨k, s, n, l⟩ ⟨k, s', n', l'⟩ = cmpS s s' by simp [refT, h12, k3, hlen, hst'])
            have hle : ((l.length : Int) != l'.length) = false := by rw [hlen]; simp
            have hne := toList_ne hst'
            clear ih hT
            go_enter Try.func48, Try.ntmps48
            go_wp2_with (go_at_call 83; refine (texts_c _ _ _ hss hss').mono ?_; rintro e w1 ⟨rfl, hb1⟩)
            go_ret
            exact ⟨ret_int HX.out.symm, below_then (hst _ _) (by simp; omega) hb1⟩
        · have HX := Lib.hid (show refT ⟨k, s, n, l⟩ ⟨k, s', n', l'⟩ = cmpI l.length l'.length by simp [refT, h12, k3, hlen])
          have hle : ((l.length : Int) != l'.length) = true := by rw [bne_iff_ne]; omega
          clear ih hT
          go_enter Try.func48, Try.ntmps48
          go_wp2_with (go_at_call 82; refine (num_c _ _ _).mono ?_; rintro e w1 ⟨rfl, rfl⟩)
          go_ret
          exact ⟨ret_int HX.out.symm, hst _ _⟩
  · have HX := Lib.hid (show refT ⟨k, s, n, l⟩ ⟨k', s', n', l'⟩ = cmpI k k' by simp [refT, hk])
    have hk2 : (k != k') = true := by rw [bne_iff_ne]; exact hk
    have hw1 : IntKind.i64.wrap k = k := by rw [IntKind.wrap_i64]; omega
    have hw2 : IntKind.i64.wrap k' = k' := by rw [IntKind.wrap_i64]; omega
    clear ih hT
    go_enter Try.func48, Try.ntmps48
    go_wp2_with (go_at_call 82; refine (num_c _ _ _).mono ?_; rintro e w1 ⟨rfl, rfl⟩)
    go_ret
    exact ⟨ret_int HX.out.symm, hst _ _⟩
end Go.Proofs.Ytdflckjnpgbjlaa

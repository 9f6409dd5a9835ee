/- The law UnifyTurns, walked. Conditions: the arguments read; what they are made of is in its bounds. -/
import Derived.Test.YtdflckjnpgbjlaaUc
set_option linter.unusedVariables false
set_option maxRecDepth 20000
set_option linter.unusedSimpArgs false
namespace Go.Proofs.Ytdflckjnpgbjlaa
open Go.RowKit

/-- Two terms, each in a box: what is known along a law's walk. -/
structure Kt (w : World) (s t : Tm) (us ut : Value) (W : World) : Prop where
  b0 : Below w.heap.size w W
  x1 : W.heap[w.heap.size]? = some (.cells #[.int .u8 s.k, .string s.s, .int .i64 s.n, us] 24 (0, 0))
  x2 : W.heap[w.heap.size + 1]? = some (.cells #[.int .u8 t.k, .string t.s, .int .i64 t.n, ut] 24 (0, 0))
  s1 : Kd.tm.S W (fun _ => True) s.l us
  s2 : Kd.tm.S W (fun _ => True) t.l ut
section
variable {w W W' : World} {s t : Tm} {us ut : Value}
theorem Kt.then (h : Kt w s t us ut W) (hb : Below W.heap.size W W') : Kt w s t us ut W' :=
  ⟨below_then h.b0 h.b0.size hb, block_below hb (Array.getElem?_eq_some_iff.1 h.x1).1 h.x1, block_below hb (Array.getElem?_eq_some_iff.1 h.x2).1 h.x2, h.s1.below hb, h.s2.below hb⟩
theorem Kt.cells (h : Kt w s t us ut W) : W.cell? ⟨w.heap.size, 0, none⟩ = some (.int .u8 s.k) ∧ W.cell? ⟨w.heap.size, 1, none⟩ = some (.string s.s) ∧ W.cell? ⟨w.heap.size, 2, none⟩ = some (.int .i64 s.n) ∧ W.cell? ⟨w.heap.size, 3, none⟩ = some us ∧
    W.cell? ⟨w.heap.size + 1, 0, none⟩ = some (.int .u8 t.k) ∧ W.cell? ⟨w.heap.size + 1, 1, none⟩ = some (.string t.s) ∧ W.cell? ⟨w.heap.size + 1, 2, none⟩ = some (.int .i64 t.n) ∧ W.cell? ⟨w.heap.size + 1, 3, none⟩ = some ut :=
  ⟨(box4 h.x1).1, (box4 h.x1).2.1, (box4 h.x1).2.2.1, (box4 h.x1).2.2.2.1, (box4 h.x2).1, (box4 h.x2).2.1, (box4 h.x2).2.2.1, (box4 h.x2).2.2.2.1⟩
end
set_option maxRecDepth 100000 in
set_option maxHeartbeats 16000000 in
theorem turns_full_full {w W3 : World} {s t : Tm} {us ut : Value} {n3 : Nat}
    (HG : Hid (Calls Try.prog 15 #[.slice (some ⟨w.heap.size + 1 + 1, 0, none⟩) 2 2] W3 fun e w' => e = .returned (.bool false) ∧ Below W3.heap.size W3 w'))
    (HK : Hid (Kt w s t us ut W3))
    (HW3 : Hid (W3 = (((w.alloc (.cells #[.int .u8 s.k, .string s.s, .int .i64 s.n, us] 24)).alloc (.cells #[.int .u8 t.k, .string t.s, .int .i64 t.n, ut] 24)).alloc (.cells #[.int .u8 s.k, .string s.s, .int .i64 s.n, us, .int .u8 t.k, .string t.s, .int .i64 t.n, ut] 24))))
    (WS : Hid s.Wf) (WT : Hid t.Wf) (ZS : Hid (s.siz ≤ 1000000)) (ZT : Hid (t.siz ≤ 1000000)) (HG1 : Hid (s.good = true)) (HG2 : Hid (t.good = true)) (HO3 : Hid (un 4098 0 [] [(s, s)] = .yes [] n3))
    (HO1 : Hid (un 4098 0 [] [(s, t)] = .full)) (HO2 : Hid (un 4098 0 [] [(t, s)] = .full)) :
    Calls Try.prog 3 #[.agg #[.int .u8 s.k, .string s.s, .int .i64 s.n, us], .agg #[.int .u8 t.k, .string t.s, .int .i64 t.n, ut]] w fun e w' => e = .returned (.bool true) ∧ Below w.heap.size w w' := by
  have m1 : Hid (0 = 0) := Lib.hid rfl
  go_enter Try.func3, Try.ntmps3
  go_wp2_with (first
    | (rw [← HW3.out]; go_at_call 15; refine HG.out.mono ?_; clear HG HW3; rintro e w1 ⟨rfl, hb1⟩; have h := HK.out.then hb1; clear hb1; obtain ⟨c0, c1, c2, c3, d0, d1, d2, d3⟩ := h.cells)
    | (go_at_call 16; have hx := m1.out; clear hx m1; have hq := refGood_c s _ _ _ ⟨_, rfl, h.s1⟩ ZS.out WS.out; rw [HG1.out] at hq; refine hq.mono ?_; clear hq; rintro e w1 ⟨rfl, hb1⟩; replace h := h.then hb1; clear hb1 c0 c1 c2 c3 d0 d1 d2 d3; obtain ⟨c0, c1, c2, c3, d0, d1, d2, d3⟩ := h.cells)
    | (go_at_call 16; have hq := refGood_c t _ _ _ ⟨_, rfl, h.s2⟩ ZT.out WT.out; rw [HG2.out] at hq; refine hq.mono ?_; clear hq; rintro e w1 ⟨rfl, hb1⟩; replace h := h.then hb1; clear hb1 c0 c1 c2 c3 d0 d1 d2 d3; obtain ⟨c0, c1, c2, c3, d0, d1, d2, d3⟩ := h.cells))
  clear c0 c1 c2 c3 d0 d1 d2 d3
  refine wp_region_held_drew (S := (fun W => W.cell? ⟨w.heap.size, 0, none⟩ = some (.int .u8 s.k) ∧ W.cell? ⟨w.heap.size, 1, none⟩ = some (.string s.s) ∧ W.cell? ⟨w.heap.size, 2, none⟩ = some (.int .i64 s.n) ∧ W.cell? ⟨w.heap.size, 3, none⟩ = some us ∧ W.cell? ⟨w.heap.size + 1, 0, none⟩ = some (.int .u8 t.k) ∧ W.cell? ⟨w.heap.size + 1, 1, none⟩ = some (.string t.s) ∧ W.cell? ⟨w.heap.size + 1, 2, none⟩ = some (.int .i64 t.n) ∧ W.cell? ⟨w.heap.size + 1, 3, none⟩ = some ut)) (by kernel_rfl) ?_ (fun hHeld => ?_)
  · exact (h.then (Below.refl _ _).drew).cells
  change wpAnyH _ .any _ _ _ 11 (Array.replicate 11 false) _ _
  refine wpAnyH_take (i := 1) (oi := ⟨some 34, _, _, _, _, _⟩) (v := ?_) rfl (by kernel_rfl) (by kernel_rfl) (by kernel_rfl) (fun _ _ _ h => h) (Or.inl ⟨by rfl, ?_⟩) (by assumption) ?_
  rotate_left
  · (intro w hSw; (try dsimp only at hSw); go_simp; try (with_reducible rfl))
  (try simp only [Act.put, List.setIfInBounds_toArray, List.set_cons_zero, List.set_cons_succ])
  refine wpAnyH_take (i := 2) (oi := ⟨some 35, _, _, _, _, _⟩) (v := ?_) rfl (by kernel_rfl) (by kernel_rfl) (by kernel_rfl) (fun _ _ _ h => h) (Or.inl ⟨by rfl, ?_⟩) (by assumption) ?_
  rotate_left
  · (intro w hSw; (try dsimp only at hSw); go_simp; try (with_reducible rfl))
  (try simp only [Act.put, List.setIfInBounds_toArray, List.set_cons_zero, List.set_cons_succ])
  replace h := h.then (Below.refl _ _).drew
  refine wpAnyH_ready (rs := [0]) (by kernel_rfl) (by simp) ?_
  refine AllReadyH.cons (o := ⟨some 33, _, _, _, _, _⟩) rfl (fun K hK => ?_) AllReadyH.nil
  go_simp
  go_at_call 19
  refine (New_c _ (fun _ => True)).mono ?_
  rintro e w4 ⟨⟨q, c, rfl, hn, -, -⟩, hb1⟩
  replace h := h.then hb1
  clear hb1
  go_wp2_with fail
  refine hK.out _ _ h.cells (fun hHeld => ?_)
  clear hK K
  (try simp only [Act.put, List.setIfInBounds_toArray, List.set_cons_zero, List.set_cons_succ])
  refine wpAnyH_ready (rs := [3]) (by kernel_rfl) (by simp) ?_
  refine AllReadyH.cons (o := ⟨some 36, _, _, _, _, _⟩) rfl (fun K hK => ?_) AllReadyH.nil
  go_simp
  go_at_call 18
  have hq := Unify_c [] q c s t _ _ _ _ _ _ hn ⟨_, rfl, h.s1⟩ ⟨_, rfl, h.s2⟩ WS.out WT.out ZS.out ZT.out K5.sm0 (by simp)
  rw [HO1.out] at hq
  refine hq.mono ?_
  clear hq hn
  rintro e w5 ⟨rfl, hb1⟩
  replace h := h.then hb1
  clear hb1
  go_wp2_with fail
  refine hK.out _ _ h.cells (fun hHeld => ?_)
  clear hK K
  (try simp only [Act.put, List.setIfInBounds_toArray, List.set_cons_zero, List.set_cons_succ])
  refine wpAnyH_take (i := 4) (oi := ⟨some 32, _, _, _, _, _⟩) (v := ?_) rfl (by kernel_rfl) (by kernel_rfl) (by kernel_rfl) (fun _ _ _ h => h) (Or.inl ⟨by rfl, ?_⟩) (by assumption) ?_
  rotate_left
  · (intro w hSw; (try dsimp only at hSw); go_simp; try (with_reducible rfl))
  (try simp only [Act.put, List.setIfInBounds_toArray, List.set_cons_zero, List.set_cons_succ])
  refine wpAnyH_take (i := 5) (oi := ⟨some 37, _, _, _, _, _⟩) (v := ?_) rfl (by kernel_rfl) (by kernel_rfl) (by kernel_rfl) (fun _ _ _ h => h) (Or.inl ⟨by rfl, ?_⟩) (by assumption) ?_
  rotate_left
  · (intro w hSw; (try dsimp only at hSw); go_simp; try (with_reducible rfl))
  (try simp only [Act.put, List.setIfInBounds_toArray, List.set_cons_zero, List.set_cons_succ])
  refine wpAnyH_take (i := 6) (oi := ⟨some 38, _, _, _, _, _⟩) (v := ?_) rfl (by kernel_rfl) (by kernel_rfl) (by kernel_rfl) (fun _ _ _ h => h) (Or.inl ⟨by rfl, ?_⟩) (by assumption) ?_
  rotate_left
  · (intro w hSw; (try dsimp only at hSw); go_simp; try (with_reducible rfl))
  (try simp only [Act.put, List.setIfInBounds_toArray, List.set_cons_zero, List.set_cons_succ])
  refine wpAnyH_take (i := 7) (oi := ⟨some 39, _, _, _, _, _⟩) (v := ?_) rfl (by kernel_rfl) (by kernel_rfl) (by kernel_rfl) (fun _ _ _ h => h) (Or.inl ⟨by rfl, ?_⟩) (by assumption) ?_
  rotate_left
  · (intro w hSw; (try dsimp only at hSw); go_simp; try (with_reducible rfl))
  (try simp only [Act.put, List.setIfInBounds_toArray, List.set_cons_zero, List.set_cons_succ])
  refine wpAnyH_take (i := 8) (oi := ⟨some 5, _, _, _, _, _⟩) (v := ?_) rfl (by kernel_rfl) (by kernel_rfl) (by kernel_rfl) (fun _ _ _ h => h) (Or.inl ⟨by rfl, ?_⟩) (by assumption) ?_
  rotate_left
  · (intro w hSw; (try dsimp only at hSw); go_simp; try (with_reducible rfl))
  (try simp only [Act.put, List.setIfInBounds_toArray, List.set_cons_zero, List.set_cons_succ])
  refine wpAnyH_take (i := 9) (oi := ⟨some 6, _, _, _, _, _⟩) (v := ?_) rfl (by kernel_rfl) (by kernel_rfl) (by kernel_rfl) (fun _ _ _ h => h) (Or.inl ⟨by rfl, ?_⟩) (by assumption) ?_
  rotate_left
  · (intro w hSw; (try dsimp only at hSw); go_simp; try (with_reducible rfl))
  (try simp only [Act.put, List.setIfInBounds_toArray, List.set_cons_zero, List.set_cons_succ])
  refine wpAnyH_take (i := 10) (oi := ⟨some 7, _, _, _, _, _⟩) (v := ?_) rfl (by kernel_rfl) (by kernel_rfl) (by kernel_rfl) (fun _ _ _ h => h) (Or.inl ⟨by rfl, ?_⟩) (by assumption) ?_
  rotate_left
  · (intro w hSw; (try dsimp only at hSw); go_simp; try (with_reducible rfl))
  (try simp only [Act.put, List.setIfInBounds_toArray, List.set_cons_zero, List.set_cons_succ])
  refine wpAnyH_done (by kernel_rfl) ?_ _
  go_wp2
  refine wp_region_held_drew (S := (fun W => W.cell? ⟨w.heap.size, 0, none⟩ = some (.int .u8 s.k) ∧ W.cell? ⟨w.heap.size, 1, none⟩ = some (.string s.s) ∧ W.cell? ⟨w.heap.size, 2, none⟩ = some (.int .i64 s.n) ∧ W.cell? ⟨w.heap.size, 3, none⟩ = some us ∧ W.cell? ⟨w.heap.size + 1, 0, none⟩ = some (.int .u8 t.k) ∧ W.cell? ⟨w.heap.size + 1, 1, none⟩ = some (.string t.s) ∧ W.cell? ⟨w.heap.size + 1, 2, none⟩ = some (.int .i64 t.n) ∧ W.cell? ⟨w.heap.size + 1, 3, none⟩ = some ut)) (by kernel_rfl) ?_ (fun hHeld => ?_)
  · exact (h.then (Below.refl _ _).drew).cells
  change wpAnyH _ .any _ _ _ 11 (Array.replicate 11 false) _ _
  refine wpAnyH_take (i := 1) (oi := ⟨some 42, _, _, _, _, _⟩) (v := ?_) rfl (by kernel_rfl) (by kernel_rfl) (by kernel_rfl) (fun _ _ _ h => h) (Or.inl ⟨by rfl, ?_⟩) (by assumption) ?_
  rotate_left
  · (intro w hSw; (try dsimp only at hSw); go_simp; try (with_reducible rfl))
  (try simp only [Act.put, List.setIfInBounds_toArray, List.set_cons_zero, List.set_cons_succ])
  refine wpAnyH_take (i := 2) (oi := ⟨some 43, _, _, _, _, _⟩) (v := ?_) rfl (by kernel_rfl) (by kernel_rfl) (by kernel_rfl) (fun _ _ _ h => h) (Or.inl ⟨by rfl, ?_⟩) (by assumption) ?_
  rotate_left
  · (intro w hSw; (try dsimp only at hSw); go_simp; try (with_reducible rfl))
  (try simp only [Act.put, List.setIfInBounds_toArray, List.set_cons_zero, List.set_cons_succ])
  replace h := h.then (Below.refl _ _).drew
  refine wpAnyH_ready (rs := [0]) (by kernel_rfl) (by simp) ?_
  refine AllReadyH.cons (o := ⟨some 41, _, _, _, _, _⟩) rfl (fun K hK => ?_) AllReadyH.nil
  go_simp
  go_at_call 19
  refine (New_c _ (fun _ => True)).mono ?_
  rintro e w4 ⟨⟨q, c, rfl, hn, -, -⟩, hb1⟩
  replace h := h.then hb1
  clear hb1
  go_wp2_with fail
  refine hK.out _ _ h.cells (fun hHeld => ?_)
  clear hK K
  (try simp only [Act.put, List.setIfInBounds_toArray, List.set_cons_zero, List.set_cons_succ])
  refine wpAnyH_ready (rs := [3]) (by kernel_rfl) (by simp) ?_
  refine AllReadyH.cons (o := ⟨some 44, _, _, _, _, _⟩) rfl (fun K hK => ?_) AllReadyH.nil
  go_simp
  go_at_call 18
  have hq := Unify_c [] q c t s _ _ _ _ _ _ hn ⟨_, rfl, h.s2⟩ ⟨_, rfl, h.s1⟩ WT.out WS.out ZT.out ZS.out K5.sm0 (by simp)
  rw [HO2.out] at hq
  refine hq.mono ?_
  clear hq hn
  rintro e w5 ⟨rfl, hb1⟩
  replace h := h.then hb1
  clear hb1
  go_wp2_with fail
  refine hK.out _ _ h.cells (fun hHeld => ?_)
  clear hK K
  (try simp only [Act.put, List.setIfInBounds_toArray, List.set_cons_zero, List.set_cons_succ])
  refine wpAnyH_take (i := 4) (oi := ⟨some 40, _, _, _, _, _⟩) (v := ?_) rfl (by kernel_rfl) (by kernel_rfl) (by kernel_rfl) (fun _ _ _ h => h) (Or.inl ⟨by rfl, ?_⟩) (by assumption) ?_
  rotate_left
  · (intro w hSw; (try dsimp only at hSw); go_simp; try (with_reducible rfl))
  (try simp only [Act.put, List.setIfInBounds_toArray, List.set_cons_zero, List.set_cons_succ])
  refine wpAnyH_take (i := 5) (oi := ⟨some 45, _, _, _, _, _⟩) (v := ?_) rfl (by kernel_rfl) (by kernel_rfl) (by kernel_rfl) (fun _ _ _ h => h) (Or.inl ⟨by rfl, ?_⟩) (by assumption) ?_
  rotate_left
  · (intro w hSw; (try dsimp only at hSw); go_simp; try (with_reducible rfl))
  (try simp only [Act.put, List.setIfInBounds_toArray, List.set_cons_zero, List.set_cons_succ])
  refine wpAnyH_take (i := 6) (oi := ⟨some 46, _, _, _, _, _⟩) (v := ?_) rfl (by kernel_rfl) (by kernel_rfl) (by kernel_rfl) (fun _ _ _ h => h) (Or.inl ⟨by rfl, ?_⟩) (by assumption) ?_
  rotate_left
  · (intro w hSw; (try dsimp only at hSw); go_simp; try (with_reducible rfl))
  (try simp only [Act.put, List.setIfInBounds_toArray, List.set_cons_zero, List.set_cons_succ])
  refine wpAnyH_take (i := 7) (oi := ⟨some 47, _, _, _, _, _⟩) (v := ?_) rfl (by kernel_rfl) (by kernel_rfl) (by kernel_rfl) (fun _ _ _ h => h) (Or.inl ⟨by rfl, ?_⟩) (by assumption) ?_
  rotate_left
  · (intro w hSw; (try dsimp only at hSw); go_simp; try (with_reducible rfl))
  (try simp only [Act.put, List.setIfInBounds_toArray, List.set_cons_zero, List.set_cons_succ])
  refine wpAnyH_take (i := 8) (oi := ⟨some 8, _, _, _, _, _⟩) (v := ?_) rfl (by kernel_rfl) (by kernel_rfl) (by kernel_rfl) (fun _ _ _ h => h) (Or.inl ⟨by rfl, ?_⟩) (by assumption) ?_
  rotate_left
  · (intro w hSw; (try dsimp only at hSw); go_simp; try (with_reducible rfl))
  (try simp only [Act.put, List.setIfInBounds_toArray, List.set_cons_zero, List.set_cons_succ])
  refine wpAnyH_take (i := 9) (oi := ⟨some 9, _, _, _, _, _⟩) (v := ?_) rfl (by kernel_rfl) (by kernel_rfl) (by kernel_rfl) (fun _ _ _ h => h) (Or.inl ⟨by rfl, ?_⟩) (by assumption) ?_
  rotate_left
  · (intro w hSw; (try dsimp only at hSw); go_simp; try (with_reducible rfl))
  (try simp only [Act.put, List.setIfInBounds_toArray, List.set_cons_zero, List.set_cons_succ])
  refine wpAnyH_take (i := 10) (oi := ⟨some 10, _, _, _, _, _⟩) (v := ?_) rfl (by kernel_rfl) (by kernel_rfl) (by kernel_rfl) (fun _ _ _ h => h) (Or.inl ⟨by rfl, ?_⟩) (by assumption) ?_
  rotate_left
  · (intro w hSw; (try dsimp only at hSw); go_simp; try (with_reducible rfl))
  (try simp only [Act.put, List.setIfInBounds_toArray, List.set_cons_zero, List.set_cons_succ])
  refine wpAnyH_done (by kernel_rfl) ?_ _
  go_wp2
  refine wp_region_held_drew (S := (fun W => W.cell? ⟨w.heap.size, 0, none⟩ = some (.int .u8 s.k) ∧ W.cell? ⟨w.heap.size, 1, none⟩ = some (.string s.s) ∧ W.cell? ⟨w.heap.size, 2, none⟩ = some (.int .i64 s.n) ∧ W.cell? ⟨w.heap.size, 3, none⟩ = some us ∧ W.cell? ⟨w.heap.size + 1, 0, none⟩ = some (.int .u8 t.k) ∧ W.cell? ⟨w.heap.size + 1, 1, none⟩ = some (.string t.s) ∧ W.cell? ⟨w.heap.size + 1, 2, none⟩ = some (.int .i64 t.n) ∧ W.cell? ⟨w.heap.size + 1, 3, none⟩ = some ut)) (by kernel_rfl) ?_ (fun hHeld => ?_)
  · exact (h.then (Below.refl _ _).drew).cells
  change wpAnyH _ .any _ _ _ 11 (Array.replicate 11 false) _ _
  refine wpAnyH_take (i := 1) (oi := ⟨some 50, _, _, _, _, _⟩) (v := ?_) rfl (by kernel_rfl) (by kernel_rfl) (by kernel_rfl) (fun _ _ _ h => h) (Or.inl ⟨by rfl, ?_⟩) (by assumption) ?_
  rotate_left
  · (intro w hSw; (try dsimp only at hSw); go_simp; try (with_reducible rfl))
  (try simp only [Act.put, List.setIfInBounds_toArray, List.set_cons_zero, List.set_cons_succ])
  refine wpAnyH_take (i := 2) (oi := ⟨some 51, _, _, _, _, _⟩) (v := ?_) rfl (by kernel_rfl) (by kernel_rfl) (by kernel_rfl) (fun _ _ _ h => h) (Or.inl ⟨by rfl, ?_⟩) (by assumption) ?_
  rotate_left
  · (intro w hSw; (try dsimp only at hSw); go_simp; try (with_reducible rfl))
  (try simp only [Act.put, List.setIfInBounds_toArray, List.set_cons_zero, List.set_cons_succ])
  replace h := h.then (Below.refl _ _).drew
  refine wpAnyH_ready (rs := [0]) (by kernel_rfl) (by simp) ?_
  refine AllReadyH.cons (o := ⟨some 49, _, _, _, _, _⟩) rfl (fun K hK => ?_) AllReadyH.nil
  go_simp
  go_at_call 19
  refine (New_c _ (fun _ => True)).mono ?_
  rintro e w4 ⟨⟨q, c, rfl, hn, -, -⟩, hb1⟩
  replace h := h.then hb1
  clear hb1
  go_wp2_with fail
  refine hK.out _ _ h.cells (fun hHeld => ?_)
  clear hK K
  (try simp only [Act.put, List.setIfInBounds_toArray, List.set_cons_zero, List.set_cons_succ])
  refine wpAnyH_ready (rs := [3]) (by kernel_rfl) (by simp) ?_
  refine AllReadyH.cons (o := ⟨some 52, _, _, _, _, _⟩) rfl (fun K hK => ?_) AllReadyH.nil
  go_simp
  go_at_call 18
  have hq := Unify_c [] q c s s _ _ _ _ _ _ hn ⟨_, rfl, h.s1⟩ ⟨_, rfl, h.s1⟩ WS.out WS.out ZS.out ZS.out K5.sm0 (by simp)
  rw [HO3.out] at hq
  refine hq.mono ?_
  clear hq hn
  rintro e w5 ⟨⟨p3, b3, rfl, hs3⟩, hb1⟩
  replace h := h.then hb1
  clear hb1
  go_wp2_with fail
  refine hK.out _ _ h.cells (fun hHeld => ?_)
  clear hK K
  (try simp only [Act.put, List.setIfInBounds_toArray, List.set_cons_zero, List.set_cons_succ])
  refine wpAnyH_take (i := 4) (oi := ⟨some 48, _, _, _, _, _⟩) (v := ?_) rfl (by kernel_rfl) (by kernel_rfl) (by kernel_rfl) (fun _ _ _ h => h) (Or.inl ⟨by rfl, ?_⟩) (by assumption) ?_
  rotate_left
  · (intro w hSw; (try dsimp only at hSw); go_simp; try (with_reducible rfl))
  (try simp only [Act.put, List.setIfInBounds_toArray, List.set_cons_zero, List.set_cons_succ])
  refine wpAnyH_take (i := 5) (oi := ⟨some 53, _, _, _, _, _⟩) (v := ?_) rfl (by kernel_rfl) (by kernel_rfl) (by kernel_rfl) (fun _ _ _ h => h) (Or.inl ⟨by rfl, ?_⟩) (by assumption) ?_
  rotate_left
  · (intro w hSw; (try dsimp only at hSw); go_simp; try (with_reducible rfl))
  (try simp only [Act.put, List.setIfInBounds_toArray, List.set_cons_zero, List.set_cons_succ])
  refine wpAnyH_take (i := 6) (oi := ⟨some 54, _, _, _, _, _⟩) (v := ?_) rfl (by kernel_rfl) (by kernel_rfl) (by kernel_rfl) (fun _ _ _ h => h) (Or.inl ⟨by rfl, ?_⟩) (by assumption) ?_
  rotate_left
  · (intro w hSw; (try dsimp only at hSw); go_simp; try (with_reducible rfl))
  (try simp only [Act.put, List.setIfInBounds_toArray, List.set_cons_zero, List.set_cons_succ])
  refine wpAnyH_take (i := 7) (oi := ⟨some 55, _, _, _, _, _⟩) (v := ?_) rfl (by kernel_rfl) (by kernel_rfl) (by kernel_rfl) (fun _ _ _ h => h) (Or.inl ⟨by rfl, ?_⟩) (by assumption) ?_
  rotate_left
  · (intro w hSw; (try dsimp only at hSw); go_simp; try (with_reducible rfl))
  (try simp only [Act.put, List.setIfInBounds_toArray, List.set_cons_zero, List.set_cons_succ])
  refine wpAnyH_take (i := 8) (oi := ⟨some 11, _, _, _, _, _⟩) (v := ?_) rfl (by kernel_rfl) (by kernel_rfl) (by kernel_rfl) (fun _ _ _ h => h) (Or.inl ⟨by rfl, ?_⟩) (by assumption) ?_
  rotate_left
  · (intro w hSw; (try dsimp only at hSw); go_simp; try (with_reducible rfl))
  (try simp only [Act.put, List.setIfInBounds_toArray, List.set_cons_zero, List.set_cons_succ])
  refine wpAnyH_take (i := 9) (oi := ⟨some 12, _, _, _, _, _⟩) (v := ?_) rfl (by kernel_rfl) (by kernel_rfl) (by kernel_rfl) (fun _ _ _ h => h) (Or.inl ⟨by rfl, ?_⟩) (by assumption) ?_
  rotate_left
  · (intro w hSw; (try dsimp only at hSw); go_simp; try (with_reducible rfl))
  (try simp only [Act.put, List.setIfInBounds_toArray, List.set_cons_zero, List.set_cons_succ])
  refine wpAnyH_take (i := 10) (oi := ⟨some 13, _, _, _, _, _⟩) (v := ?_) rfl (by kernel_rfl) (by kernel_rfl) (by kernel_rfl) (fun _ _ _ h => h) (Or.inl ⟨by rfl, ?_⟩) (by assumption) ?_
  rotate_left
  · (intro w hSw; (try dsimp only at hSw); go_simp; try (with_reducible rfl))
  (try simp only [Act.put, List.setIfInBounds_toArray, List.set_cons_zero, List.set_cons_succ])
  refine wpAnyH_done (by kernel_rfl) ?_ _
  obtain ⟨c0, c1, c2, c3, d0, d1, d2, d3⟩ := h.cells
  go_wp2_with (first
    | (go_at_call_has 20 (Value.pointer (some ⟨p3, 0, none⟩)); refine (sLen_c [] p3 b3 _ _ hs3).mono ?_; rintro e w6 ⟨rfl, hb1⟩; replace h := h.then hb1; replace hs3 := hs3.below hb1; clear hb1 c0 c1 c2 c3 d0 d1 d2 d3; obtain ⟨c0, c1, c2, c3, d0, d1, d2, d3⟩ := h.cells)
    | (go_at_call 17; refine (wakes04_c _).mono ?_; rintro e w8 ⟨rfl, hb1⟩; replace h := h.then hb1; replace hs3 := hs3.below hb1))
  go_ret
  exact ⟨rfl, h.b0⟩
set_option maxRecDepth 100000 in
set_option maxHeartbeats 16000000 in
theorem turns_full_no {w W3 : World} {s t : Tm} {us ut : Value} {n3 : Nat}
    (HG : Hid (Calls Try.prog 15 #[.slice (some ⟨w.heap.size + 1 + 1, 0, none⟩) 2 2] W3 fun e w' => e = .returned (.bool false) ∧ Below W3.heap.size W3 w'))
    (HK : Hid (Kt w s t us ut W3))
    (HW3 : Hid (W3 = (((w.alloc (.cells #[.int .u8 s.k, .string s.s, .int .i64 s.n, us] 24)).alloc (.cells #[.int .u8 t.k, .string t.s, .int .i64 t.n, ut] 24)).alloc (.cells #[.int .u8 s.k, .string s.s, .int .i64 s.n, us, .int .u8 t.k, .string t.s, .int .i64 t.n, ut] 24))))
    (WS : Hid s.Wf) (WT : Hid t.Wf) (ZS : Hid (s.siz ≤ 1000000)) (ZT : Hid (t.siz ≤ 1000000)) (HG1 : Hid (s.good = true)) (HG2 : Hid (t.good = true)) (HO3 : Hid (un 4098 0 [] [(s, s)] = .yes [] n3))
    (HO1 : Hid (un 4098 0 [] [(s, t)] = .full)) (HO2 : Hid (un 4098 0 [] [(t, s)] = .no)) :
    Calls Try.prog 3 #[.agg #[.int .u8 s.k, .string s.s, .int .i64 s.n, us], .agg #[.int .u8 t.k, .string t.s, .int .i64 t.n, ut]] w fun e w' => e = .returned (.bool true) ∧ Below w.heap.size w w' := by
  have m1 : Hid (0 = 0) := Lib.hid rfl
  go_enter Try.func3, Try.ntmps3
  go_wp2_with (first
    | (rw [← HW3.out]; go_at_call 15; refine HG.out.mono ?_; clear HG HW3; rintro e w1 ⟨rfl, hb1⟩; have h := HK.out.then hb1; clear hb1; obtain ⟨c0, c1, c2, c3, d0, d1, d2, d3⟩ := h.cells)
    | (go_at_call 16; have hx := m1.out; clear hx m1; have hq := refGood_c s _ _ _ ⟨_, rfl, h.s1⟩ ZS.out WS.out; rw [HG1.out] at hq; refine hq.mono ?_; clear hq; rintro e w1 ⟨rfl, hb1⟩; replace h := h.then hb1; clear hb1 c0 c1 c2 c3 d0 d1 d2 d3; obtain ⟨c0, c1, c2, c3, d0, d1, d2, d3⟩ := h.cells)
    | (go_at_call 16; have hq := refGood_c t _ _ _ ⟨_, rfl, h.s2⟩ ZT.out WT.out; rw [HG2.out] at hq; refine hq.mono ?_; clear hq; rintro e w1 ⟨rfl, hb1⟩; replace h := h.then hb1; clear hb1 c0 c1 c2 c3 d0 d1 d2 d3; obtain ⟨c0, c1, c2, c3, d0, d1, d2, d3⟩ := h.cells))
  clear c0 c1 c2 c3 d0 d1 d2 d3
  refine wp_region_held_drew (S := (fun W => W.cell? ⟨w.heap.size, 0, none⟩ = some (.int .u8 s.k) ∧ W.cell? ⟨w.heap.size, 1, none⟩ = some (.string s.s) ∧ W.cell? ⟨w.heap.size, 2, none⟩ = some (.int .i64 s.n) ∧ W.cell? ⟨w.heap.size, 3, none⟩ = some us ∧ W.cell? ⟨w.heap.size + 1, 0, none⟩ = some (.int .u8 t.k) ∧ W.cell? ⟨w.heap.size + 1, 1, none⟩ = some (.string t.s) ∧ W.cell? ⟨w.heap.size + 1, 2, none⟩ = some (.int .i64 t.n) ∧ W.cell? ⟨w.heap.size + 1, 3, none⟩ = some ut)) (by kernel_rfl) ?_ (fun hHeld => ?_)
  · exact (h.then (Below.refl _ _).drew).cells
  change wpAnyH _ .any _ _ _ 11 (Array.replicate 11 false) _ _
  refine wpAnyH_take (i := 1) (oi := ⟨some 34, _, _, _, _, _⟩) (v := ?_) rfl (by kernel_rfl) (by kernel_rfl) (by kernel_rfl) (fun _ _ _ h => h) (Or.inl ⟨by rfl, ?_⟩) (by assumption) ?_
  rotate_left
  · (intro w hSw; (try dsimp only at hSw); go_simp; try (with_reducible rfl))
  (try simp only [Act.put, List.setIfInBounds_toArray, List.set_cons_zero, List.set_cons_succ])
  refine wpAnyH_take (i := 2) (oi := ⟨some 35, _, _, _, _, _⟩) (v := ?_) rfl (by kernel_rfl) (by kernel_rfl) (by kernel_rfl) (fun _ _ _ h => h) (Or.inl ⟨by rfl, ?_⟩) (by assumption) ?_
  rotate_left
  · (intro w hSw; (try dsimp only at hSw); go_simp; try (with_reducible rfl))
  (try simp only [Act.put, List.setIfInBounds_toArray, List.set_cons_zero, List.set_cons_succ])
  replace h := h.then (Below.refl _ _).drew
  refine wpAnyH_ready (rs := [0]) (by kernel_rfl) (by simp) ?_
  refine AllReadyH.cons (o := ⟨some 33, _, _, _, _, _⟩) rfl (fun K hK => ?_) AllReadyH.nil
  go_simp
  go_at_call 19
  refine (New_c _ (fun _ => True)).mono ?_
  rintro e w4 ⟨⟨q, c, rfl, hn, -, -⟩, hb1⟩
  replace h := h.then hb1
  clear hb1
  go_wp2_with fail
  refine hK.out _ _ h.cells (fun hHeld => ?_)
  clear hK K
  (try simp only [Act.put, List.setIfInBounds_toArray, List.set_cons_zero, List.set_cons_succ])
  refine wpAnyH_ready (rs := [3]) (by kernel_rfl) (by simp) ?_
  refine AllReadyH.cons (o := ⟨some 36, _, _, _, _, _⟩) rfl (fun K hK => ?_) AllReadyH.nil
  go_simp
  go_at_call 18
  have hq := Unify_c [] q c s t _ _ _ _ _ _ hn ⟨_, rfl, h.s1⟩ ⟨_, rfl, h.s2⟩ WS.out WT.out ZS.out ZT.out K5.sm0 (by simp)
  rw [HO1.out] at hq
  refine hq.mono ?_
  clear hq hn
  rintro e w5 ⟨rfl, hb1⟩
  replace h := h.then hb1
  clear hb1
  go_wp2_with fail
  refine hK.out _ _ h.cells (fun hHeld => ?_)
  clear hK K
  (try simp only [Act.put, List.setIfInBounds_toArray, List.set_cons_zero, List.set_cons_succ])
  refine wpAnyH_take (i := 4) (oi := ⟨some 32, _, _, _, _, _⟩) (v := ?_) rfl (by kernel_rfl) (by kernel_rfl) (by kernel_rfl) (fun _ _ _ h => h) (Or.inl ⟨by rfl, ?_⟩) (by assumption) ?_
  rotate_left
  · (intro w hSw; (try dsimp only at hSw); go_simp; try (with_reducible rfl))
  (try simp only [Act.put, List.setIfInBounds_toArray, List.set_cons_zero, List.set_cons_succ])
  refine wpAnyH_take (i := 5) (oi := ⟨some 37, _, _, _, _, _⟩) (v := ?_) rfl (by kernel_rfl) (by kernel_rfl) (by kernel_rfl) (fun _ _ _ h => h) (Or.inl ⟨by rfl, ?_⟩) (by assumption) ?_
  rotate_left
  · (intro w hSw; (try dsimp only at hSw); go_simp; try (with_reducible rfl))
  (try simp only [Act.put, List.setIfInBounds_toArray, List.set_cons_zero, List.set_cons_succ])
  refine wpAnyH_take (i := 6) (oi := ⟨some 38, _, _, _, _, _⟩) (v := ?_) rfl (by kernel_rfl) (by kernel_rfl) (by kernel_rfl) (fun _ _ _ h => h) (Or.inl ⟨by rfl, ?_⟩) (by assumption) ?_
  rotate_left
  · (intro w hSw; (try dsimp only at hSw); go_simp; try (with_reducible rfl))
  (try simp only [Act.put, List.setIfInBounds_toArray, List.set_cons_zero, List.set_cons_succ])
  refine wpAnyH_take (i := 7) (oi := ⟨some 39, _, _, _, _, _⟩) (v := ?_) rfl (by kernel_rfl) (by kernel_rfl) (by kernel_rfl) (fun _ _ _ h => h) (Or.inl ⟨by rfl, ?_⟩) (by assumption) ?_
  rotate_left
  · (intro w hSw; (try dsimp only at hSw); go_simp; try (with_reducible rfl))
  (try simp only [Act.put, List.setIfInBounds_toArray, List.set_cons_zero, List.set_cons_succ])
  refine wpAnyH_take (i := 8) (oi := ⟨some 5, _, _, _, _, _⟩) (v := ?_) rfl (by kernel_rfl) (by kernel_rfl) (by kernel_rfl) (fun _ _ _ h => h) (Or.inl ⟨by rfl, ?_⟩) (by assumption) ?_
  rotate_left
  · (intro w hSw; (try dsimp only at hSw); go_simp; try (with_reducible rfl))
  (try simp only [Act.put, List.setIfInBounds_toArray, List.set_cons_zero, List.set_cons_succ])
  refine wpAnyH_take (i := 9) (oi := ⟨some 6, _, _, _, _, _⟩) (v := ?_) rfl (by kernel_rfl) (by kernel_rfl) (by kernel_rfl) (fun _ _ _ h => h) (Or.inl ⟨by rfl, ?_⟩) (by assumption) ?_
  rotate_left
  · (intro w hSw; (try dsimp only at hSw); go_simp; try (with_reducible rfl))
  (try simp only [Act.put, List.setIfInBounds_toArray, List.set_cons_zero, List.set_cons_succ])
  refine wpAnyH_take (i := 10) (oi := ⟨some 7, _, _, _, _, _⟩) (v := ?_) rfl (by kernel_rfl) (by kernel_rfl) (by kernel_rfl) (fun _ _ _ h => h) (Or.inl ⟨by rfl, ?_⟩) (by assumption) ?_
  rotate_left
  · (intro w hSw; (try dsimp only at hSw); go_simp; try (with_reducible rfl))
  (try simp only [Act.put, List.setIfInBounds_toArray, List.set_cons_zero, List.set_cons_succ])
  refine wpAnyH_done (by kernel_rfl) ?_ _
  go_wp2
  refine wp_region_held_drew (S := (fun W => W.cell? ⟨w.heap.size, 0, none⟩ = some (.int .u8 s.k) ∧ W.cell? ⟨w.heap.size, 1, none⟩ = some (.string s.s) ∧ W.cell? ⟨w.heap.size, 2, none⟩ = some (.int .i64 s.n) ∧ W.cell? ⟨w.heap.size, 3, none⟩ = some us ∧ W.cell? ⟨w.heap.size + 1, 0, none⟩ = some (.int .u8 t.k) ∧ W.cell? ⟨w.heap.size + 1, 1, none⟩ = some (.string t.s) ∧ W.cell? ⟨w.heap.size + 1, 2, none⟩ = some (.int .i64 t.n) ∧ W.cell? ⟨w.heap.size + 1, 3, none⟩ = some ut)) (by kernel_rfl) ?_ (fun hHeld => ?_)
  · exact (h.then (Below.refl _ _).drew).cells
  change wpAnyH _ .any _ _ _ 11 (Array.replicate 11 false) _ _
  refine wpAnyH_take (i := 1) (oi := ⟨some 42, _, _, _, _, _⟩) (v := ?_) rfl (by kernel_rfl) (by kernel_rfl) (by kernel_rfl) (fun _ _ _ h => h) (Or.inl ⟨by rfl, ?_⟩) (by assumption) ?_
  rotate_left
  · (intro w hSw; (try dsimp only at hSw); go_simp; try (with_reducible rfl))
  (try simp only [Act.put, List.setIfInBounds_toArray, List.set_cons_zero, List.set_cons_succ])
  refine wpAnyH_take (i := 2) (oi := ⟨some 43, _, _, _, _, _⟩) (v := ?_) rfl (by kernel_rfl) (by kernel_rfl) (by kernel_rfl) (fun _ _ _ h => h) (Or.inl ⟨by rfl, ?_⟩) (by assumption) ?_
  rotate_left
  · (intro w hSw; (try dsimp only at hSw); go_simp; try (with_reducible rfl))
  (try simp only [Act.put, List.setIfInBounds_toArray, List.set_cons_zero, List.set_cons_succ])
  replace h := h.then (Below.refl _ _).drew
  refine wpAnyH_ready (rs := [0]) (by kernel_rfl) (by simp) ?_
  refine AllReadyH.cons (o := ⟨some 41, _, _, _, _, _⟩) rfl (fun K hK => ?_) AllReadyH.nil
  go_simp
  go_at_call 19
  refine (New_c _ (fun _ => True)).mono ?_
  rintro e w4 ⟨⟨q, c, rfl, hn, -, -⟩, hb1⟩
  replace h := h.then hb1
  clear hb1
  go_wp2_with fail
  refine hK.out _ _ h.cells (fun hHeld => ?_)
  clear hK K
  (try simp only [Act.put, List.setIfInBounds_toArray, List.set_cons_zero, List.set_cons_succ])
  refine wpAnyH_ready (rs := [3]) (by kernel_rfl) (by simp) ?_
  refine AllReadyH.cons (o := ⟨some 44, _, _, _, _, _⟩) rfl (fun K hK => ?_) AllReadyH.nil
  go_simp
  go_at_call 18
  have hq := Unify_c [] q c t s _ _ _ _ _ _ hn ⟨_, rfl, h.s2⟩ ⟨_, rfl, h.s1⟩ WT.out WS.out ZT.out ZS.out K5.sm0 (by simp)
  rw [HO2.out] at hq
  refine hq.mono ?_
  clear hq hn
  rintro e w5 ⟨rfl, hb1⟩
  replace h := h.then hb1
  clear hb1
  go_wp2_with fail
  refine hK.out _ _ h.cells (fun hHeld => ?_)
  clear hK K
  (try simp only [Act.put, List.setIfInBounds_toArray, List.set_cons_zero, List.set_cons_succ])
  refine wpAnyH_take (i := 4) (oi := ⟨some 40, _, _, _, _, _⟩) (v := ?_) rfl (by kernel_rfl) (by kernel_rfl) (by kernel_rfl) (fun _ _ _ h => h) (Or.inl ⟨by rfl, ?_⟩) (by assumption) ?_
  rotate_left
  · (intro w hSw; (try dsimp only at hSw); go_simp; try (with_reducible rfl))
  (try simp only [Act.put, List.setIfInBounds_toArray, List.set_cons_zero, List.set_cons_succ])
  refine wpAnyH_take (i := 5) (oi := ⟨some 45, _, _, _, _, _⟩) (v := ?_) rfl (by kernel_rfl) (by kernel_rfl) (by kernel_rfl) (fun _ _ _ h => h) (Or.inl ⟨by rfl, ?_⟩) (by assumption) ?_
  rotate_left
  · (intro w hSw; (try dsimp only at hSw); go_simp; try (with_reducible rfl))
  (try simp only [Act.put, List.setIfInBounds_toArray, List.set_cons_zero, List.set_cons_succ])
  refine wpAnyH_take (i := 6) (oi := ⟨some 46, _, _, _, _, _⟩) (v := ?_) rfl (by kernel_rfl) (by kernel_rfl) (by kernel_rfl) (fun _ _ _ h => h) (Or.inl ⟨by rfl, ?_⟩) (by assumption) ?_
  rotate_left
  · (intro w hSw; (try dsimp only at hSw); go_simp; try (with_reducible rfl))
  (try simp only [Act.put, List.setIfInBounds_toArray, List.set_cons_zero, List.set_cons_succ])
  refine wpAnyH_take (i := 7) (oi := ⟨some 47, _, _, _, _, _⟩) (v := ?_) rfl (by kernel_rfl) (by kernel_rfl) (by kernel_rfl) (fun _ _ _ h => h) (Or.inl ⟨by rfl, ?_⟩) (by assumption) ?_
  rotate_left
  · (intro w hSw; (try dsimp only at hSw); go_simp; try (with_reducible rfl))
  (try simp only [Act.put, List.setIfInBounds_toArray, List.set_cons_zero, List.set_cons_succ])
  refine wpAnyH_take (i := 8) (oi := ⟨some 8, _, _, _, _, _⟩) (v := ?_) rfl (by kernel_rfl) (by kernel_rfl) (by kernel_rfl) (fun _ _ _ h => h) (Or.inl ⟨by rfl, ?_⟩) (by assumption) ?_
  rotate_left
  · (intro w hSw; (try dsimp only at hSw); go_simp; try (with_reducible rfl))
  (try simp only [Act.put, List.setIfInBounds_toArray, List.set_cons_zero, List.set_cons_succ])
  refine wpAnyH_take (i := 9) (oi := ⟨some 9, _, _, _, _, _⟩) (v := ?_) rfl (by kernel_rfl) (by kernel_rfl) (by kernel_rfl) (fun _ _ _ h => h) (Or.inl ⟨by rfl, ?_⟩) (by assumption) ?_
  rotate_left
  · (intro w hSw; (try dsimp only at hSw); go_simp; try (with_reducible rfl))
  (try simp only [Act.put, List.setIfInBounds_toArray, List.set_cons_zero, List.set_cons_succ])
  refine wpAnyH_take (i := 10) (oi := ⟨some 10, _, _, _, _, _⟩) (v := ?_) rfl (by kernel_rfl) (by kernel_rfl) (by kernel_rfl) (fun _ _ _ h => h) (Or.inl ⟨by rfl, ?_⟩) (by assumption) ?_
  rotate_left
  · (intro w hSw; (try dsimp only at hSw); go_simp; try (with_reducible rfl))
  (try simp only [Act.put, List.setIfInBounds_toArray, List.set_cons_zero, List.set_cons_succ])
  refine wpAnyH_done (by kernel_rfl) ?_ _
  go_wp2
  refine wp_region_held_drew (S := (fun W => W.cell? ⟨w.heap.size, 0, none⟩ = some (.int .u8 s.k) ∧ W.cell? ⟨w.heap.size, 1, none⟩ = some (.string s.s) ∧ W.cell? ⟨w.heap.size, 2, none⟩ = some (.int .i64 s.n) ∧ W.cell? ⟨w.heap.size, 3, none⟩ = some us ∧ W.cell? ⟨w.heap.size + 1, 0, none⟩ = some (.int .u8 t.k) ∧ W.cell? ⟨w.heap.size + 1, 1, none⟩ = some (.string t.s) ∧ W.cell? ⟨w.heap.size + 1, 2, none⟩ = some (.int .i64 t.n) ∧ W.cell? ⟨w.heap.size + 1, 3, none⟩ = some ut)) (by kernel_rfl) ?_ (fun hHeld => ?_)
  · exact (h.then (Below.refl _ _).drew).cells
  change wpAnyH _ .any _ _ _ 11 (Array.replicate 11 false) _ _
  refine wpAnyH_take (i := 1) (oi := ⟨some 50, _, _, _, _, _⟩) (v := ?_) rfl (by kernel_rfl) (by kernel_rfl) (by kernel_rfl) (fun _ _ _ h => h) (Or.inl ⟨by rfl, ?_⟩) (by assumption) ?_
  rotate_left
  · (intro w hSw; (try dsimp only at hSw); go_simp; try (with_reducible rfl))
  (try simp only [Act.put, List.setIfInBounds_toArray, List.set_cons_zero, List.set_cons_succ])
  refine wpAnyH_take (i := 2) (oi := ⟨some 51, _, _, _, _, _⟩) (v := ?_) rfl (by kernel_rfl) (by kernel_rfl) (by kernel_rfl) (fun _ _ _ h => h) (Or.inl ⟨by rfl, ?_⟩) (by assumption) ?_
  rotate_left
  · (intro w hSw; (try dsimp only at hSw); go_simp; try (with_reducible rfl))
  (try simp only [Act.put, List.setIfInBounds_toArray, List.set_cons_zero, List.set_cons_succ])
  replace h := h.then (Below.refl _ _).drew
  refine wpAnyH_ready (rs := [0]) (by kernel_rfl) (by simp) ?_
  refine AllReadyH.cons (o := ⟨some 49, _, _, _, _, _⟩) rfl (fun K hK => ?_) AllReadyH.nil
  go_simp
  go_at_call 19
  refine (New_c _ (fun _ => True)).mono ?_
  rintro e w4 ⟨⟨q, c, rfl, hn, -, -⟩, hb1⟩
  replace h := h.then hb1
  clear hb1
  go_wp2_with fail
  refine hK.out _ _ h.cells (fun hHeld => ?_)
  clear hK K
  (try simp only [Act.put, List.setIfInBounds_toArray, List.set_cons_zero, List.set_cons_succ])
  refine wpAnyH_ready (rs := [3]) (by kernel_rfl) (by simp) ?_
  refine AllReadyH.cons (o := ⟨some 52, _, _, _, _, _⟩) rfl (fun K hK => ?_) AllReadyH.nil
  go_simp
  go_at_call 18
  have hq := Unify_c [] q c s s _ _ _ _ _ _ hn ⟨_, rfl, h.s1⟩ ⟨_, rfl, h.s1⟩ WS.out WS.out ZS.out ZS.out K5.sm0 (by simp)
  rw [HO3.out] at hq
  refine hq.mono ?_
  clear hq hn
  rintro e w5 ⟨⟨p3, b3, rfl, hs3⟩, hb1⟩
  replace h := h.then hb1
  clear hb1
  go_wp2_with fail
  refine hK.out _ _ h.cells (fun hHeld => ?_)
  clear hK K
  (try simp only [Act.put, List.setIfInBounds_toArray, List.set_cons_zero, List.set_cons_succ])
  refine wpAnyH_take (i := 4) (oi := ⟨some 48, _, _, _, _, _⟩) (v := ?_) rfl (by kernel_rfl) (by kernel_rfl) (by kernel_rfl) (fun _ _ _ h => h) (Or.inl ⟨by rfl, ?_⟩) (by assumption) ?_
  rotate_left
  · (intro w hSw; (try dsimp only at hSw); go_simp; try (with_reducible rfl))
  (try simp only [Act.put, List.setIfInBounds_toArray, List.set_cons_zero, List.set_cons_succ])
  refine wpAnyH_take (i := 5) (oi := ⟨some 53, _, _, _, _, _⟩) (v := ?_) rfl (by kernel_rfl) (by kernel_rfl) (by kernel_rfl) (fun _ _ _ h => h) (Or.inl ⟨by rfl, ?_⟩) (by assumption) ?_
  rotate_left
  · (intro w hSw; (try dsimp only at hSw); go_simp; try (with_reducible rfl))
  (try simp only [Act.put, List.setIfInBounds_toArray, List.set_cons_zero, List.set_cons_succ])
  refine wpAnyH_take (i := 6) (oi := ⟨some 54, _, _, _, _, _⟩) (v := ?_) rfl (by kernel_rfl) (by kernel_rfl) (by kernel_rfl) (fun _ _ _ h => h) (Or.inl ⟨by rfl, ?_⟩) (by assumption) ?_
  rotate_left
  · (intro w hSw; (try dsimp only at hSw); go_simp; try (with_reducible rfl))
  (try simp only [Act.put, List.setIfInBounds_toArray, List.set_cons_zero, List.set_cons_succ])
  refine wpAnyH_take (i := 7) (oi := ⟨some 55, _, _, _, _, _⟩) (v := ?_) rfl (by kernel_rfl) (by kernel_rfl) (by kernel_rfl) (fun _ _ _ h => h) (Or.inl ⟨by rfl, ?_⟩) (by assumption) ?_
  rotate_left
  · (intro w hSw; (try dsimp only at hSw); go_simp; try (with_reducible rfl))
  (try simp only [Act.put, List.setIfInBounds_toArray, List.set_cons_zero, List.set_cons_succ])
  refine wpAnyH_take (i := 8) (oi := ⟨some 11, _, _, _, _, _⟩) (v := ?_) rfl (by kernel_rfl) (by kernel_rfl) (by kernel_rfl) (fun _ _ _ h => h) (Or.inl ⟨by rfl, ?_⟩) (by assumption) ?_
  rotate_left
  · (intro w hSw; (try dsimp only at hSw); go_simp; try (with_reducible rfl))
  (try simp only [Act.put, List.setIfInBounds_toArray, List.set_cons_zero, List.set_cons_succ])
  refine wpAnyH_take (i := 9) (oi := ⟨some 12, _, _, _, _, _⟩) (v := ?_) rfl (by kernel_rfl) (by kernel_rfl) (by kernel_rfl) (fun _ _ _ h => h) (Or.inl ⟨by rfl, ?_⟩) (by assumption) ?_
  rotate_left
  · (intro w hSw; (try dsimp only at hSw); go_simp; try (with_reducible rfl))
  (try simp only [Act.put, List.setIfInBounds_toArray, List.set_cons_zero, List.set_cons_succ])
  refine wpAnyH_take (i := 10) (oi := ⟨some 13, _, _, _, _, _⟩) (v := ?_) rfl (by kernel_rfl) (by kernel_rfl) (by kernel_rfl) (fun _ _ _ h => h) (Or.inl ⟨by rfl, ?_⟩) (by assumption) ?_
  rotate_left
  · (intro w hSw; (try dsimp only at hSw); go_simp; try (with_reducible rfl))
  (try simp only [Act.put, List.setIfInBounds_toArray, List.set_cons_zero, List.set_cons_succ])
  refine wpAnyH_done (by kernel_rfl) ?_ _
  obtain ⟨c0, c1, c2, c3, d0, d1, d2, d3⟩ := h.cells
  go_wp2_with (first
    | (go_at_call_has 20 (Value.pointer (some ⟨p3, 0, none⟩)); refine (sLen_c [] p3 b3 _ _ hs3).mono ?_; rintro e w6 ⟨rfl, hb1⟩; replace h := h.then hb1; replace hs3 := hs3.below hb1; clear hb1 c0 c1 c2 c3 d0 d1 d2 d3; obtain ⟨c0, c1, c2, c3, d0, d1, d2, d3⟩ := h.cells)
    | (go_at_call 17; refine (wakes04_c _).mono ?_; rintro e w8 ⟨rfl, hb1⟩; replace h := h.then hb1; replace hs3 := hs3.below hb1))
  go_ret
  exact ⟨rfl, h.b0⟩
set_option maxRecDepth 100000 in
set_option maxHeartbeats 16000000 in
theorem turns_full_yes {w W3 : World} {s t : Tm} {us ut : Value} {n3 : Nat} {l2 : Bs} {n2 : Nat}
    (HG : Hid (Calls Try.prog 15 #[.slice (some ⟨w.heap.size + 1 + 1, 0, none⟩) 2 2] W3 fun e w' => e = .returned (.bool false) ∧ Below W3.heap.size W3 w'))
    (HK : Hid (Kt w s t us ut W3))
    (HW3 : Hid (W3 = (((w.alloc (.cells #[.int .u8 s.k, .string s.s, .int .i64 s.n, us] 24)).alloc (.cells #[.int .u8 t.k, .string t.s, .int .i64 t.n, ut] 24)).alloc (.cells #[.int .u8 s.k, .string s.s, .int .i64 s.n, us, .int .u8 t.k, .string t.s, .int .i64 t.n, ut] 24))))
    (WS : Hid s.Wf) (WT : Hid t.Wf) (ZS : Hid (s.siz ≤ 1000000)) (ZT : Hid (t.siz ≤ 1000000)) (HG1 : Hid (s.good = true)) (HG2 : Hid (t.good = true)) (HO3 : Hid (un 4098 0 [] [(s, s)] = .yes [] n3))
    (HO1 : Hid (un 4098 0 [] [(s, t)] = .full)) (HO2 : Hid (un 4098 0 [] [(t, s)] = .yes l2 n2)) :
    Calls Try.prog 3 #[.agg #[.int .u8 s.k, .string s.s, .int .i64 s.n, us], .agg #[.int .u8 t.k, .string t.s, .int .i64 t.n, ut]] w fun e w' => e = .returned (.bool true) ∧ Below w.heap.size w w' := by
  have m1 : Hid (0 = 0) := Lib.hid rfl
  go_enter Try.func3, Try.ntmps3
  go_wp2_with (first
    | (rw [← HW3.out]; go_at_call 15; refine HG.out.mono ?_; clear HG HW3; rintro e w1 ⟨rfl, hb1⟩; have h := HK.out.then hb1; clear hb1; obtain ⟨c0, c1, c2, c3, d0, d1, d2, d3⟩ := h.cells)
    | (go_at_call 16; have hx := m1.out; clear hx m1; have hq := refGood_c s _ _ _ ⟨_, rfl, h.s1⟩ ZS.out WS.out; rw [HG1.out] at hq; refine hq.mono ?_; clear hq; rintro e w1 ⟨rfl, hb1⟩; replace h := h.then hb1; clear hb1 c0 c1 c2 c3 d0 d1 d2 d3; obtain ⟨c0, c1, c2, c3, d0, d1, d2, d3⟩ := h.cells)
    | (go_at_call 16; have hq := refGood_c t _ _ _ ⟨_, rfl, h.s2⟩ ZT.out WT.out; rw [HG2.out] at hq; refine hq.mono ?_; clear hq; rintro e w1 ⟨rfl, hb1⟩; replace h := h.then hb1; clear hb1 c0 c1 c2 c3 d0 d1 d2 d3; obtain ⟨c0, c1, c2, c3, d0, d1, d2, d3⟩ := h.cells))
  clear c0 c1 c2 c3 d0 d1 d2 d3
  refine wp_region_held_drew (S := (fun W => W.cell? ⟨w.heap.size, 0, none⟩ = some (.int .u8 s.k) ∧ W.cell? ⟨w.heap.size, 1, none⟩ = some (.string s.s) ∧ W.cell? ⟨w.heap.size, 2, none⟩ = some (.int .i64 s.n) ∧ W.cell? ⟨w.heap.size, 3, none⟩ = some us ∧ W.cell? ⟨w.heap.size + 1, 0, none⟩ = some (.int .u8 t.k) ∧ W.cell? ⟨w.heap.size + 1, 1, none⟩ = some (.string t.s) ∧ W.cell? ⟨w.heap.size + 1, 2, none⟩ = some (.int .i64 t.n) ∧ W.cell? ⟨w.heap.size + 1, 3, none⟩ = some ut)) (by kernel_rfl) ?_ (fun hHeld => ?_)
  · exact (h.then (Below.refl _ _).drew).cells
  change wpAnyH _ .any _ _ _ 11 (Array.replicate 11 false) _ _
  refine wpAnyH_take (i := 1) (oi := ⟨some 34, _, _, _, _, _⟩) (v := ?_) rfl (by kernel_rfl) (by kernel_rfl) (by kernel_rfl) (fun _ _ _ h => h) (Or.inl ⟨by rfl, ?_⟩) (by assumption) ?_
  rotate_left
  · (intro w hSw; (try dsimp only at hSw); go_simp; try (with_reducible rfl))
  (try simp only [Act.put, List.setIfInBounds_toArray, List.set_cons_zero, List.set_cons_succ])
  refine wpAnyH_take (i := 2) (oi := ⟨some 35, _, _, _, _, _⟩) (v := ?_) rfl (by kernel_rfl) (by kernel_rfl) (by kernel_rfl) (fun _ _ _ h => h) (Or.inl ⟨by rfl, ?_⟩) (by assumption) ?_
  rotate_left
  · (intro w hSw; (try dsimp only at hSw); go_simp; try (with_reducible rfl))
  (try simp only [Act.put, List.setIfInBounds_toArray, List.set_cons_zero, List.set_cons_succ])
  replace h := h.then (Below.refl _ _).drew
  refine wpAnyH_ready (rs := [0]) (by kernel_rfl) (by simp) ?_
  refine AllReadyH.cons (o := ⟨some 33, _, _, _, _, _⟩) rfl (fun K hK => ?_) AllReadyH.nil
  go_simp
  go_at_call 19
  refine (New_c _ (fun _ => True)).mono ?_
  rintro e w4 ⟨⟨q, c, rfl, hn, -, -⟩, hb1⟩
  replace h := h.then hb1
  clear hb1
  go_wp2_with fail
  refine hK.out _ _ h.cells (fun hHeld => ?_)
  clear hK K
  (try simp only [Act.put, List.setIfInBounds_toArray, List.set_cons_zero, List.set_cons_succ])
  refine wpAnyH_ready (rs := [3]) (by kernel_rfl) (by simp) ?_
  refine AllReadyH.cons (o := ⟨some 36, _, _, _, _, _⟩) rfl (fun K hK => ?_) AllReadyH.nil
  go_simp
  go_at_call 18
  have hq := Unify_c [] q c s t _ _ _ _ _ _ hn ⟨_, rfl, h.s1⟩ ⟨_, rfl, h.s2⟩ WS.out WT.out ZS.out ZT.out K5.sm0 (by simp)
  rw [HO1.out] at hq
  refine hq.mono ?_
  clear hq hn
  rintro e w5 ⟨rfl, hb1⟩
  replace h := h.then hb1
  clear hb1
  go_wp2_with fail
  refine hK.out _ _ h.cells (fun hHeld => ?_)
  clear hK K
  (try simp only [Act.put, List.setIfInBounds_toArray, List.set_cons_zero, List.set_cons_succ])
  refine wpAnyH_take (i := 4) (oi := ⟨some 32, _, _, _, _, _⟩) (v := ?_) rfl (by kernel_rfl) (by kernel_rfl) (by kernel_rfl) (fun _ _ _ h => h) (Or.inl ⟨by rfl, ?_⟩) (by assumption) ?_
  rotate_left
  · (intro w hSw; (try dsimp only at hSw); go_simp; try (with_reducible rfl))
  (try simp only [Act.put, List.setIfInBounds_toArray, List.set_cons_zero, List.set_cons_succ])
  refine wpAnyH_take (i := 5) (oi := ⟨some 37, _, _, _, _, _⟩) (v := ?_) rfl (by kernel_rfl) (by kernel_rfl) (by kernel_rfl) (fun _ _ _ h => h) (Or.inl ⟨by rfl, ?_⟩) (by assumption) ?_
  rotate_left
  · (intro w hSw; (try dsimp only at hSw); go_simp; try (with_reducible rfl))
  (try simp only [Act.put, List.setIfInBounds_toArray, List.set_cons_zero, List.set_cons_succ])
  refine wpAnyH_take (i := 6) (oi := ⟨some 38, _, _, _, _, _⟩) (v := ?_) rfl (by kernel_rfl) (by kernel_rfl) (by kernel_rfl) (fun _ _ _ h => h) (Or.inl ⟨by rfl, ?_⟩) (by assumption) ?_
  rotate_left
  · (intro w hSw; (try dsimp only at hSw); go_simp; try (with_reducible rfl))
  (try simp only [Act.put, List.setIfInBounds_toArray, List.set_cons_zero, List.set_cons_succ])
  refine wpAnyH_take (i := 7) (oi := ⟨some 39, _, _, _, _, _⟩) (v := ?_) rfl (by kernel_rfl) (by kernel_rfl) (by kernel_rfl) (fun _ _ _ h => h) (Or.inl ⟨by rfl, ?_⟩) (by assumption) ?_
  rotate_left
  · (intro w hSw; (try dsimp only at hSw); go_simp; try (with_reducible rfl))
  (try simp only [Act.put, List.setIfInBounds_toArray, List.set_cons_zero, List.set_cons_succ])
  refine wpAnyH_take (i := 8) (oi := ⟨some 5, _, _, _, _, _⟩) (v := ?_) rfl (by kernel_rfl) (by kernel_rfl) (by kernel_rfl) (fun _ _ _ h => h) (Or.inl ⟨by rfl, ?_⟩) (by assumption) ?_
  rotate_left
  · (intro w hSw; (try dsimp only at hSw); go_simp; try (with_reducible rfl))
  (try simp only [Act.put, List.setIfInBounds_toArray, List.set_cons_zero, List.set_cons_succ])
  refine wpAnyH_take (i := 9) (oi := ⟨some 6, _, _, _, _, _⟩) (v := ?_) rfl (by kernel_rfl) (by kernel_rfl) (by kernel_rfl) (fun _ _ _ h => h) (Or.inl ⟨by rfl, ?_⟩) (by assumption) ?_
  rotate_left
  · (intro w hSw; (try dsimp only at hSw); go_simp; try (with_reducible rfl))
  (try simp only [Act.put, List.setIfInBounds_toArray, List.set_cons_zero, List.set_cons_succ])
  refine wpAnyH_take (i := 10) (oi := ⟨some 7, _, _, _, _, _⟩) (v := ?_) rfl (by kernel_rfl) (by kernel_rfl) (by kernel_rfl) (fun _ _ _ h => h) (Or.inl ⟨by rfl, ?_⟩) (by assumption) ?_
  rotate_left
  · (intro w hSw; (try dsimp only at hSw); go_simp; try (with_reducible rfl))
  (try simp only [Act.put, List.setIfInBounds_toArray, List.set_cons_zero, List.set_cons_succ])
  refine wpAnyH_done (by kernel_rfl) ?_ _
  go_wp2
  refine wp_region_held_drew (S := (fun W => W.cell? ⟨w.heap.size, 0, none⟩ = some (.int .u8 s.k) ∧ W.cell? ⟨w.heap.size, 1, none⟩ = some (.string s.s) ∧ W.cell? ⟨w.heap.size, 2, none⟩ = some (.int .i64 s.n) ∧ W.cell? ⟨w.heap.size, 3, none⟩ = some us ∧ W.cell? ⟨w.heap.size + 1, 0, none⟩ = some (.int .u8 t.k) ∧ W.cell? ⟨w.heap.size + 1, 1, none⟩ = some (.string t.s) ∧ W.cell? ⟨w.heap.size + 1, 2, none⟩ = some (.int .i64 t.n) ∧ W.cell? ⟨w.heap.size + 1, 3, none⟩ = some ut)) (by kernel_rfl) ?_ (fun hHeld => ?_)
  · exact (h.then (Below.refl _ _).drew).cells
  change wpAnyH _ .any _ _ _ 11 (Array.replicate 11 false) _ _
  refine wpAnyH_take (i := 1) (oi := ⟨some 42, _, _, _, _, _⟩) (v := ?_) rfl (by kernel_rfl) (by kernel_rfl) (by kernel_rfl) (fun _ _ _ h => h) (Or.inl ⟨by rfl, ?_⟩) (by assumption) ?_
  rotate_left
  · (intro w hSw; (try dsimp only at hSw); go_simp; try (with_reducible rfl))
  (try simp only [Act.put, List.setIfInBounds_toArray, List.set_cons_zero, List.set_cons_succ])
  refine wpAnyH_take (i := 2) (oi := ⟨some 43, _, _, _, _, _⟩) (v := ?_) rfl (by kernel_rfl) (by kernel_rfl) (by kernel_rfl) (fun _ _ _ h => h) (Or.inl ⟨by rfl, ?_⟩) (by assumption) ?_
  rotate_left
  · (intro w hSw; (try dsimp only at hSw); go_simp; try (with_reducible rfl))
  (try simp only [Act.put, List.setIfInBounds_toArray, List.set_cons_zero, List.set_cons_succ])
  replace h := h.then (Below.refl _ _).drew
  refine wpAnyH_ready (rs := [0]) (by kernel_rfl) (by simp) ?_
  refine AllReadyH.cons (o := ⟨some 41, _, _, _, _, _⟩) rfl (fun K hK => ?_) AllReadyH.nil
  go_simp
  go_at_call 19
  refine (New_c _ (fun _ => True)).mono ?_
  rintro e w4 ⟨⟨q, c, rfl, hn, -, -⟩, hb1⟩
  replace h := h.then hb1
  clear hb1
  go_wp2_with fail
  refine hK.out _ _ h.cells (fun hHeld => ?_)
  clear hK K
  (try simp only [Act.put, List.setIfInBounds_toArray, List.set_cons_zero, List.set_cons_succ])
  refine wpAnyH_ready (rs := [3]) (by kernel_rfl) (by simp) ?_
  refine AllReadyH.cons (o := ⟨some 44, _, _, _, _, _⟩) rfl (fun K hK => ?_) AllReadyH.nil
  go_simp
  go_at_call 18
  have hq := Unify_c [] q c t s _ _ _ _ _ _ hn ⟨_, rfl, h.s2⟩ ⟨_, rfl, h.s1⟩ WT.out WS.out ZT.out ZS.out K5.sm0 (by simp)
  rw [HO2.out] at hq
  refine hq.mono ?_
  clear hq hn
  rintro e w5 ⟨⟨p2, b2, rfl, hs2⟩, hb1⟩
  replace h := h.then hb1
  clear hb1
  go_wp2_with fail
  refine hK.out _ _ h.cells (fun hHeld => ?_)
  clear hK K
  (try simp only [Act.put, List.setIfInBounds_toArray, List.set_cons_zero, List.set_cons_succ])
  refine wpAnyH_take (i := 4) (oi := ⟨some 40, _, _, _, _, _⟩) (v := ?_) rfl (by kernel_rfl) (by kernel_rfl) (by kernel_rfl) (fun _ _ _ h => h) (Or.inl ⟨by rfl, ?_⟩) (by assumption) ?_
  rotate_left
  · (intro w hSw; (try dsimp only at hSw); go_simp; try (with_reducible rfl))
  (try simp only [Act.put, List.setIfInBounds_toArray, List.set_cons_zero, List.set_cons_succ])
  refine wpAnyH_take (i := 5) (oi := ⟨some 45, _, _, _, _, _⟩) (v := ?_) rfl (by kernel_rfl) (by kernel_rfl) (by kernel_rfl) (fun _ _ _ h => h) (Or.inl ⟨by rfl, ?_⟩) (by assumption) ?_
  rotate_left
  · (intro w hSw; (try dsimp only at hSw); go_simp; try (with_reducible rfl))
  (try simp only [Act.put, List.setIfInBounds_toArray, List.set_cons_zero, List.set_cons_succ])
  refine wpAnyH_take (i := 6) (oi := ⟨some 46, _, _, _, _, _⟩) (v := ?_) rfl (by kernel_rfl) (by kernel_rfl) (by kernel_rfl) (fun _ _ _ h => h) (Or.inl ⟨by rfl, ?_⟩) (by assumption) ?_
  rotate_left
  · (intro w hSw; (try dsimp only at hSw); go_simp; try (with_reducible rfl))
  (try simp only [Act.put, List.setIfInBounds_toArray, List.set_cons_zero, List.set_cons_succ])
  refine wpAnyH_take (i := 7) (oi := ⟨some 47, _, _, _, _, _⟩) (v := ?_) rfl (by kernel_rfl) (by kernel_rfl) (by kernel_rfl) (fun _ _ _ h => h) (Or.inl ⟨by rfl, ?_⟩) (by assumption) ?_
  rotate_left
  · (intro w hSw; (try dsimp only at hSw); go_simp; try (with_reducible rfl))
  (try simp only [Act.put, List.setIfInBounds_toArray, List.set_cons_zero, List.set_cons_succ])
  refine wpAnyH_take (i := 8) (oi := ⟨some 8, _, _, _, _, _⟩) (v := ?_) rfl (by kernel_rfl) (by kernel_rfl) (by kernel_rfl) (fun _ _ _ h => h) (Or.inl ⟨by rfl, ?_⟩) (by assumption) ?_
  rotate_left
  · (intro w hSw; (try dsimp only at hSw); go_simp; try (with_reducible rfl))
  (try simp only [Act.put, List.setIfInBounds_toArray, List.set_cons_zero, List.set_cons_succ])
  refine wpAnyH_take (i := 9) (oi := ⟨some 9, _, _, _, _, _⟩) (v := ?_) rfl (by kernel_rfl) (by kernel_rfl) (by kernel_rfl) (fun _ _ _ h => h) (Or.inl ⟨by rfl, ?_⟩) (by assumption) ?_
  rotate_left
  · (intro w hSw; (try dsimp only at hSw); go_simp; try (with_reducible rfl))
  (try simp only [Act.put, List.setIfInBounds_toArray, List.set_cons_zero, List.set_cons_succ])
  refine wpAnyH_take (i := 10) (oi := ⟨some 10, _, _, _, _, _⟩) (v := ?_) rfl (by kernel_rfl) (by kernel_rfl) (by kernel_rfl) (fun _ _ _ h => h) (Or.inl ⟨by rfl, ?_⟩) (by assumption) ?_
  rotate_left
  · (intro w hSw; (try dsimp only at hSw); go_simp; try (with_reducible rfl))
  (try simp only [Act.put, List.setIfInBounds_toArray, List.set_cons_zero, List.set_cons_succ])
  refine wpAnyH_done (by kernel_rfl) ?_ _
  go_wp2
  refine wp_region_held_drew (S := (fun W => W.cell? ⟨w.heap.size, 0, none⟩ = some (.int .u8 s.k) ∧ W.cell? ⟨w.heap.size, 1, none⟩ = some (.string s.s) ∧ W.cell? ⟨w.heap.size, 2, none⟩ = some (.int .i64 s.n) ∧ W.cell? ⟨w.heap.size, 3, none⟩ = some us ∧ W.cell? ⟨w.heap.size + 1, 0, none⟩ = some (.int .u8 t.k) ∧ W.cell? ⟨w.heap.size + 1, 1, none⟩ = some (.string t.s) ∧ W.cell? ⟨w.heap.size + 1, 2, none⟩ = some (.int .i64 t.n) ∧ W.cell? ⟨w.heap.size + 1, 3, none⟩ = some ut)) (by kernel_rfl) ?_ (fun hHeld => ?_)
  · exact (h.then (Below.refl _ _).drew).cells
  change wpAnyH _ .any _ _ _ 11 (Array.replicate 11 false) _ _
  refine wpAnyH_take (i := 1) (oi := ⟨some 50, _, _, _, _, _⟩) (v := ?_) rfl (by kernel_rfl) (by kernel_rfl) (by kernel_rfl) (fun _ _ _ h => h) (Or.inl ⟨by rfl, ?_⟩) (by assumption) ?_
  rotate_left
  · (intro w hSw; (try dsimp only at hSw); go_simp; try (with_reducible rfl))
  (try simp only [Act.put, List.setIfInBounds_toArray, List.set_cons_zero, List.set_cons_succ])
  refine wpAnyH_take (i := 2) (oi := ⟨some 51, _, _, _, _, _⟩) (v := ?_) rfl (by kernel_rfl) (by kernel_rfl) (by kernel_rfl) (fun _ _ _ h => h) (Or.inl ⟨by rfl, ?_⟩) (by assumption) ?_
  rotate_left
  · (intro w hSw; (try dsimp only at hSw); go_simp; try (with_reducible rfl))
  (try simp only [Act.put, List.setIfInBounds_toArray, List.set_cons_zero, List.set_cons_succ])
  replace h := h.then (Below.refl _ _).drew
  replace hs2 := hs2.below (Below.refl _ _).drew
  refine wpAnyH_ready (rs := [0]) (by kernel_rfl) (by simp) ?_
  refine AllReadyH.cons (o := ⟨some 49, _, _, _, _, _⟩) rfl (fun K hK => ?_) AllReadyH.nil
  go_simp
  go_at_call 19
  refine (New_c _ (fun _ => True)).mono ?_
  rintro e w4 ⟨⟨q, c, rfl, hn, -, -⟩, hb1⟩
  replace h := h.then hb1
  replace hs2 := hs2.below hb1
  clear hb1
  go_wp2_with fail
  refine hK.out _ _ h.cells (fun hHeld => ?_)
  clear hK K
  (try simp only [Act.put, List.setIfInBounds_toArray, List.set_cons_zero, List.set_cons_succ])
  refine wpAnyH_ready (rs := [3]) (by kernel_rfl) (by simp) ?_
  refine AllReadyH.cons (o := ⟨some 52, _, _, _, _, _⟩) rfl (fun K hK => ?_) AllReadyH.nil
  go_simp
  go_at_call 18
  have hq := Unify_c [] q c s s _ _ _ _ _ _ hn ⟨_, rfl, h.s1⟩ ⟨_, rfl, h.s1⟩ WS.out WS.out ZS.out ZS.out K5.sm0 (by simp)
  rw [HO3.out] at hq
  refine hq.mono ?_
  clear hq hn
  rintro e w5 ⟨⟨p3, b3, rfl, hs3⟩, hb1⟩
  replace h := h.then hb1
  replace hs2 := hs2.below hb1
  clear hb1
  go_wp2_with fail
  refine hK.out _ _ h.cells (fun hHeld => ?_)
  clear hK K
  (try simp only [Act.put, List.setIfInBounds_toArray, List.set_cons_zero, List.set_cons_succ])
  refine wpAnyH_take (i := 4) (oi := ⟨some 48, _, _, _, _, _⟩) (v := ?_) rfl (by kernel_rfl) (by kernel_rfl) (by kernel_rfl) (fun _ _ _ h => h) (Or.inl ⟨by rfl, ?_⟩) (by assumption) ?_
  rotate_left
  · (intro w hSw; (try dsimp only at hSw); go_simp; try (with_reducible rfl))
  (try simp only [Act.put, List.setIfInBounds_toArray, List.set_cons_zero, List.set_cons_succ])
  refine wpAnyH_take (i := 5) (oi := ⟨some 53, _, _, _, _, _⟩) (v := ?_) rfl (by kernel_rfl) (by kernel_rfl) (by kernel_rfl) (fun _ _ _ h => h) (Or.inl ⟨by rfl, ?_⟩) (by assumption) ?_
  rotate_left
  · (intro w hSw; (try dsimp only at hSw); go_simp; try (with_reducible rfl))
  (try simp only [Act.put, List.setIfInBounds_toArray, List.set_cons_zero, List.set_cons_succ])
  refine wpAnyH_take (i := 6) (oi := ⟨some 54, _, _, _, _, _⟩) (v := ?_) rfl (by kernel_rfl) (by kernel_rfl) (by kernel_rfl) (fun _ _ _ h => h) (Or.inl ⟨by rfl, ?_⟩) (by assumption) ?_
  rotate_left
  · (intro w hSw; (try dsimp only at hSw); go_simp; try (with_reducible rfl))
  (try simp only [Act.put, List.setIfInBounds_toArray, List.set_cons_zero, List.set_cons_succ])
  refine wpAnyH_take (i := 7) (oi := ⟨some 55, _, _, _, _, _⟩) (v := ?_) rfl (by kernel_rfl) (by kernel_rfl) (by kernel_rfl) (fun _ _ _ h => h) (Or.inl ⟨by rfl, ?_⟩) (by assumption) ?_
  rotate_left
  · (intro w hSw; (try dsimp only at hSw); go_simp; try (with_reducible rfl))
  (try simp only [Act.put, List.setIfInBounds_toArray, List.set_cons_zero, List.set_cons_succ])
  refine wpAnyH_take (i := 8) (oi := ⟨some 11, _, _, _, _, _⟩) (v := ?_) rfl (by kernel_rfl) (by kernel_rfl) (by kernel_rfl) (fun _ _ _ h => h) (Or.inl ⟨by rfl, ?_⟩) (by assumption) ?_
  rotate_left
  · (intro w hSw; (try dsimp only at hSw); go_simp; try (with_reducible rfl))
  (try simp only [Act.put, List.setIfInBounds_toArray, List.set_cons_zero, List.set_cons_succ])
  refine wpAnyH_take (i := 9) (oi := ⟨some 12, _, _, _, _, _⟩) (v := ?_) rfl (by kernel_rfl) (by kernel_rfl) (by kernel_rfl) (fun _ _ _ h => h) (Or.inl ⟨by rfl, ?_⟩) (by assumption) ?_
  rotate_left
  · (intro w hSw; (try dsimp only at hSw); go_simp; try (with_reducible rfl))
  (try simp only [Act.put, List.setIfInBounds_toArray, List.set_cons_zero, List.set_cons_succ])
  refine wpAnyH_take (i := 10) (oi := ⟨some 13, _, _, _, _, _⟩) (v := ?_) rfl (by kernel_rfl) (by kernel_rfl) (by kernel_rfl) (fun _ _ _ h => h) (Or.inl ⟨by rfl, ?_⟩) (by assumption) ?_
  rotate_left
  · (intro w hSw; (try dsimp only at hSw); go_simp; try (with_reducible rfl))
  (try simp only [Act.put, List.setIfInBounds_toArray, List.set_cons_zero, List.set_cons_succ])
  refine wpAnyH_done (by kernel_rfl) ?_ _
  obtain ⟨c0, c1, c2, c3, d0, d1, d2, d3⟩ := h.cells
  go_wp2_with (first
    | (go_at_call_has 20 (Value.pointer (some ⟨p3, 0, none⟩)); refine (sLen_c [] p3 b3 _ _ hs3).mono ?_; rintro e w6 ⟨rfl, hb1⟩; replace h := h.then hb1; replace hs2 := hs2.below hb1; replace hs3 := hs3.below hb1; clear hb1 c0 c1 c2 c3 d0 d1 d2 d3; obtain ⟨c0, c1, c2, c3, d0, d1, d2, d3⟩ := h.cells)
    | (go_at_call 17; refine (wakes04_c _).mono ?_; rintro e w8 ⟨rfl, hb1⟩; replace h := h.then hb1; replace hs2 := hs2.below hb1; replace hs3 := hs3.below hb1))
  go_ret
  exact ⟨rfl, h.b0⟩
set_option maxRecDepth 100000 in
set_option maxHeartbeats 16000000 in
theorem turns_no_full {w W3 : World} {s t : Tm} {us ut : Value} {n3 : Nat}
    (HG : Hid (Calls Try.prog 15 #[.slice (some ⟨w.heap.size + 1 + 1, 0, none⟩) 2 2] W3 fun e w' => e = .returned (.bool false) ∧ Below W3.heap.size W3 w'))
    (HK : Hid (Kt w s t us ut W3))
    (HW3 : Hid (W3 = (((w.alloc (.cells #[.int .u8 s.k, .string s.s, .int .i64 s.n, us] 24)).alloc (.cells #[.int .u8 t.k, .string t.s, .int .i64 t.n, ut] 24)).alloc (.cells #[.int .u8 s.k, .string s.s, .int .i64 s.n, us, .int .u8 t.k, .string t.s, .int .i64 t.n, ut] 24))))
    (WS : Hid s.Wf) (WT : Hid t.Wf) (ZS : Hid (s.siz ≤ 1000000)) (ZT : Hid (t.siz ≤ 1000000)) (HG1 : Hid (s.good = true)) (HG2 : Hid (t.good = true)) (HO3 : Hid (un 4098 0 [] [(s, s)] = .yes [] n3))
    (HO1 : Hid (un 4098 0 [] [(s, t)] = .no)) (HO2 : Hid (un 4098 0 [] [(t, s)] = .full)) :
    Calls Try.prog 3 #[.agg #[.int .u8 s.k, .string s.s, .int .i64 s.n, us], .agg #[.int .u8 t.k, .string t.s, .int .i64 t.n, ut]] w fun e w' => e = .returned (.bool true) ∧ Below w.heap.size w w' := by
  have m1 : Hid (0 = 0) := Lib.hid rfl
  go_enter Try.func3, Try.ntmps3
  go_wp2_with (first
    | (rw [← HW3.out]; go_at_call 15; refine HG.out.mono ?_; clear HG HW3; rintro e w1 ⟨rfl, hb1⟩; have h := HK.out.then hb1; clear hb1; obtain ⟨c0, c1, c2, c3, d0, d1, d2, d3⟩ := h.cells)
    | (go_at_call 16; have hx := m1.out; clear hx m1; have hq := refGood_c s _ _ _ ⟨_, rfl, h.s1⟩ ZS.out WS.out; rw [HG1.out] at hq; refine hq.mono ?_; clear hq; rintro e w1 ⟨rfl, hb1⟩; replace h := h.then hb1; clear hb1 c0 c1 c2 c3 d0 d1 d2 d3; obtain ⟨c0, c1, c2, c3, d0, d1, d2, d3⟩ := h.cells)
    | (go_at_call 16; have hq := refGood_c t _ _ _ ⟨_, rfl, h.s2⟩ ZT.out WT.out; rw [HG2.out] at hq; refine hq.mono ?_; clear hq; rintro e w1 ⟨rfl, hb1⟩; replace h := h.then hb1; clear hb1 c0 c1 c2 c3 d0 d1 d2 d3; obtain ⟨c0, c1, c2, c3, d0, d1, d2, d3⟩ := h.cells))
  clear c0 c1 c2 c3 d0 d1 d2 d3
  refine wp_region_held_drew (S := (fun W => W.cell? ⟨w.heap.size, 0, none⟩ = some (.int .u8 s.k) ∧ W.cell? ⟨w.heap.size, 1, none⟩ = some (.string s.s) ∧ W.cell? ⟨w.heap.size, 2, none⟩ = some (.int .i64 s.n) ∧ W.cell? ⟨w.heap.size, 3, none⟩ = some us ∧ W.cell? ⟨w.heap.size + 1, 0, none⟩ = some (.int .u8 t.k) ∧ W.cell? ⟨w.heap.size + 1, 1, none⟩ = some (.string t.s) ∧ W.cell? ⟨w.heap.size + 1, 2, none⟩ = some (.int .i64 t.n) ∧ W.cell? ⟨w.heap.size + 1, 3, none⟩ = some ut)) (by kernel_rfl) ?_ (fun hHeld => ?_)
  · exact (h.then (Below.refl _ _).drew).cells
  change wpAnyH _ .any _ _ _ 11 (Array.replicate 11 false) _ _
  refine wpAnyH_take (i := 1) (oi := ⟨some 34, _, _, _, _, _⟩) (v := ?_) rfl (by kernel_rfl) (by kernel_rfl) (by kernel_rfl) (fun _ _ _ h => h) (Or.inl ⟨by rfl, ?_⟩) (by assumption) ?_
  rotate_left
  · (intro w hSw; (try dsimp only at hSw); go_simp; try (with_reducible rfl))
  (try simp only [Act.put, List.setIfInBounds_toArray, List.set_cons_zero, List.set_cons_succ])
  refine wpAnyH_take (i := 2) (oi := ⟨some 35, _, _, _, _, _⟩) (v := ?_) rfl (by kernel_rfl) (by kernel_rfl) (by kernel_rfl) (fun _ _ _ h => h) (Or.inl ⟨by rfl, ?_⟩) (by assumption) ?_
  rotate_left
  · (intro w hSw; (try dsimp only at hSw); go_simp; try (with_reducible rfl))
  (try simp only [Act.put, List.setIfInBounds_toArray, List.set_cons_zero, List.set_cons_succ])
  replace h := h.then (Below.refl _ _).drew
  refine wpAnyH_ready (rs := [0]) (by kernel_rfl) (by simp) ?_
  refine AllReadyH.cons (o := ⟨some 33, _, _, _, _, _⟩) rfl (fun K hK => ?_) AllReadyH.nil
  go_simp
  go_at_call 19
  refine (New_c _ (fun _ => True)).mono ?_
  rintro e w4 ⟨⟨q, c, rfl, hn, -, -⟩, hb1⟩
  replace h := h.then hb1
  clear hb1
  go_wp2_with fail
  refine hK.out _ _ h.cells (fun hHeld => ?_)
  clear hK K
  (try simp only [Act.put, List.setIfInBounds_toArray, List.set_cons_zero, List.set_cons_succ])
  refine wpAnyH_ready (rs := [3]) (by kernel_rfl) (by simp) ?_
  refine AllReadyH.cons (o := ⟨some 36, _, _, _, _, _⟩) rfl (fun K hK => ?_) AllReadyH.nil
  go_simp
  go_at_call 18
  have hq := Unify_c [] q c s t _ _ _ _ _ _ hn ⟨_, rfl, h.s1⟩ ⟨_, rfl, h.s2⟩ WS.out WT.out ZS.out ZT.out K5.sm0 (by simp)
  rw [HO1.out] at hq
  refine hq.mono ?_
  clear hq hn
  rintro e w5 ⟨rfl, hb1⟩
  replace h := h.then hb1
  clear hb1
  go_wp2_with fail
  refine hK.out _ _ h.cells (fun hHeld => ?_)
  clear hK K
  (try simp only [Act.put, List.setIfInBounds_toArray, List.set_cons_zero, List.set_cons_succ])
  refine wpAnyH_take (i := 4) (oi := ⟨some 32, _, _, _, _, _⟩) (v := ?_) rfl (by kernel_rfl) (by kernel_rfl) (by kernel_rfl) (fun _ _ _ h => h) (Or.inl ⟨by rfl, ?_⟩) (by assumption) ?_
  rotate_left
  · (intro w hSw; (try dsimp only at hSw); go_simp; try (with_reducible rfl))
  (try simp only [Act.put, List.setIfInBounds_toArray, List.set_cons_zero, List.set_cons_succ])
  refine wpAnyH_take (i := 5) (oi := ⟨some 37, _, _, _, _, _⟩) (v := ?_) rfl (by kernel_rfl) (by kernel_rfl) (by kernel_rfl) (fun _ _ _ h => h) (Or.inl ⟨by rfl, ?_⟩) (by assumption) ?_
  rotate_left
  · (intro w hSw; (try dsimp only at hSw); go_simp; try (with_reducible rfl))
  (try simp only [Act.put, List.setIfInBounds_toArray, List.set_cons_zero, List.set_cons_succ])
  refine wpAnyH_take (i := 6) (oi := ⟨some 38, _, _, _, _, _⟩) (v := ?_) rfl (by kernel_rfl) (by kernel_rfl) (by kernel_rfl) (fun _ _ _ h => h) (Or.inl ⟨by rfl, ?_⟩) (by assumption) ?_
  rotate_left
  · (intro w hSw; (try dsimp only at hSw); go_simp; try (with_reducible rfl))
  (try simp only [Act.put, List.setIfInBounds_toArray, List.set_cons_zero, List.set_cons_succ])
  refine wpAnyH_take (i := 7) (oi := ⟨some 39, _, _, _, _, _⟩) (v := ?_) rfl (by kernel_rfl) (by kernel_rfl) (by kernel_rfl) (fun _ _ _ h => h) (Or.inl ⟨by rfl, ?_⟩) (by assumption) ?_
  rotate_left
  · (intro w hSw; (try dsimp only at hSw); go_simp; try (with_reducible rfl))
  (try simp only [Act.put, List.setIfInBounds_toArray, List.set_cons_zero, List.set_cons_succ])
  refine wpAnyH_take (i := 8) (oi := ⟨some 5, _, _, _, _, _⟩) (v := ?_) rfl (by kernel_rfl) (by kernel_rfl) (by kernel_rfl) (fun _ _ _ h => h) (Or.inl ⟨by rfl, ?_⟩) (by assumption) ?_
  rotate_left
  · (intro w hSw; (try dsimp only at hSw); go_simp; try (with_reducible rfl))
  (try simp only [Act.put, List.setIfInBounds_toArray, List.set_cons_zero, List.set_cons_succ])
  refine wpAnyH_take (i := 9) (oi := ⟨some 6, _, _, _, _, _⟩) (v := ?_) rfl (by kernel_rfl) (by kernel_rfl) (by kernel_rfl) (fun _ _ _ h => h) (Or.inl ⟨by rfl, ?_⟩) (by assumption) ?_
  rotate_left
  · (intro w hSw; (try dsimp only at hSw); go_simp; try (with_reducible rfl))
  (try simp only [Act.put, List.setIfInBounds_toArray, List.set_cons_zero, List.set_cons_succ])
  refine wpAnyH_take (i := 10) (oi := ⟨some 7, _, _, _, _, _⟩) (v := ?_) rfl (by kernel_rfl) (by kernel_rfl) (by kernel_rfl) (fun _ _ _ h => h) (Or.inl ⟨by rfl, ?_⟩) (by assumption) ?_
  rotate_left
  · (intro w hSw; (try dsimp only at hSw); go_simp; try (with_reducible rfl))
  (try simp only [Act.put, List.setIfInBounds_toArray, List.set_cons_zero, List.set_cons_succ])
  refine wpAnyH_done (by kernel_rfl) ?_ _
  go_wp2
  refine wp_region_held_drew (S := (fun W => W.cell? ⟨w.heap.size, 0, none⟩ = some (.int .u8 s.k) ∧ W.cell? ⟨w.heap.size, 1, none⟩ = some (.string s.s) ∧ W.cell? ⟨w.heap.size, 2, none⟩ = some (.int .i64 s.n) ∧ W.cell? ⟨w.heap.size, 3, none⟩ = some us ∧ W.cell? ⟨w.heap.size + 1, 0, none⟩ = some (.int .u8 t.k) ∧ W.cell? ⟨w.heap.size + 1, 1, none⟩ = some (.string t.s) ∧ W.cell? ⟨w.heap.size + 1, 2, none⟩ = some (.int .i64 t.n) ∧ W.cell? ⟨w.heap.size + 1, 3, none⟩ = some ut)) (by kernel_rfl) ?_ (fun hHeld => ?_)
  · exact (h.then (Below.refl _ _).drew).cells
  change wpAnyH _ .any _ _ _ 11 (Array.replicate 11 false) _ _
  refine wpAnyH_take (i := 1) (oi := ⟨some 42, _, _, _, _, _⟩) (v := ?_) rfl (by kernel_rfl) (by kernel_rfl) (by kernel_rfl) (fun _ _ _ h => h) (Or.inl ⟨by rfl, ?_⟩) (by assumption) ?_
  rotate_left
  · (intro w hSw; (try dsimp only at hSw); go_simp; try (with_reducible rfl))
  (try simp only [Act.put, List.setIfInBounds_toArray, List.set_cons_zero, List.set_cons_succ])
  refine wpAnyH_take (i := 2) (oi := ⟨some 43, _, _, _, _, _⟩) (v := ?_) rfl (by kernel_rfl) (by kernel_rfl) (by kernel_rfl) (fun _ _ _ h => h) (Or.inl ⟨by rfl, ?_⟩) (by assumption) ?_
  rotate_left
  · (intro w hSw; (try dsimp only at hSw); go_simp; try (with_reducible rfl))
  (try simp only [Act.put, List.setIfInBounds_toArray, List.set_cons_zero, List.set_cons_succ])
  replace h := h.then (Below.refl _ _).drew
  refine wpAnyH_ready (rs := [0]) (by kernel_rfl) (by simp) ?_
  refine AllReadyH.cons (o := ⟨some 41, _, _, _, _, _⟩) rfl (fun K hK => ?_) AllReadyH.nil
  go_simp
  go_at_call 19
  refine (New_c _ (fun _ => True)).mono ?_
  rintro e w4 ⟨⟨q, c, rfl, hn, -, -⟩, hb1⟩
  replace h := h.then hb1
  clear hb1
  go_wp2_with fail
  refine hK.out _ _ h.cells (fun hHeld => ?_)
  clear hK K
  (try simp only [Act.put, List.setIfInBounds_toArray, List.set_cons_zero, List.set_cons_succ])
  refine wpAnyH_ready (rs := [3]) (by kernel_rfl) (by simp) ?_
  refine AllReadyH.cons (o := ⟨some 44, _, _, _, _, _⟩) rfl (fun K hK => ?_) AllReadyH.nil
  go_simp
  go_at_call 18
  have hq := Unify_c [] q c t s _ _ _ _ _ _ hn ⟨_, rfl, h.s2⟩ ⟨_, rfl, h.s1⟩ WT.out WS.out ZT.out ZS.out K5.sm0 (by simp)
  rw [HO2.out] at hq
  refine hq.mono ?_
  clear hq hn
  rintro e w5 ⟨rfl, hb1⟩
  replace h := h.then hb1
  clear hb1
  go_wp2_with fail
  refine hK.out _ _ h.cells (fun hHeld => ?_)
  clear hK K
  (try simp only [Act.put, List.setIfInBounds_toArray, List.set_cons_zero, List.set_cons_succ])
  refine wpAnyH_take (i := 4) (oi := ⟨some 40, _, _, _, _, _⟩) (v := ?_) rfl (by kernel_rfl) (by kernel_rfl) (by kernel_rfl) (fun _ _ _ h => h) (Or.inl ⟨by rfl, ?_⟩) (by assumption) ?_
  rotate_left
  · (intro w hSw; (try dsimp only at hSw); go_simp; try (with_reducible rfl))
  (try simp only [Act.put, List.setIfInBounds_toArray, List.set_cons_zero, List.set_cons_succ])
  refine wpAnyH_take (i := 5) (oi := ⟨some 45, _, _, _, _, _⟩) (v := ?_) rfl (by kernel_rfl) (by kernel_rfl) (by kernel_rfl) (fun _ _ _ h => h) (Or.inl ⟨by rfl, ?_⟩) (by assumption) ?_
  rotate_left
  · (intro w hSw; (try dsimp only at hSw); go_simp; try (with_reducible rfl))
  (try simp only [Act.put, List.setIfInBounds_toArray, List.set_cons_zero, List.set_cons_succ])
  refine wpAnyH_take (i := 6) (oi := ⟨some 46, _, _, _, _, _⟩) (v := ?_) rfl (by kernel_rfl) (by kernel_rfl) (by kernel_rfl) (fun _ _ _ h => h) (Or.inl ⟨by rfl, ?_⟩) (by assumption) ?_
  rotate_left
  · (intro w hSw; (try dsimp only at hSw); go_simp; try (with_reducible rfl))
  (try simp only [Act.put, List.setIfInBounds_toArray, List.set_cons_zero, List.set_cons_succ])
  refine wpAnyH_take (i := 7) (oi := ⟨some 47, _, _, _, _, _⟩) (v := ?_) rfl (by kernel_rfl) (by kernel_rfl) (by kernel_rfl) (fun _ _ _ h => h) (Or.inl ⟨by rfl, ?_⟩) (by assumption) ?_
  rotate_left
  · (intro w hSw; (try dsimp only at hSw); go_simp; try (with_reducible rfl))
  (try simp only [Act.put, List.setIfInBounds_toArray, List.set_cons_zero, List.set_cons_succ])
  refine wpAnyH_take (i := 8) (oi := ⟨some 8, _, _, _, _, _⟩) (v := ?_) rfl (by kernel_rfl) (by kernel_rfl) (by kernel_rfl) (fun _ _ _ h => h) (Or.inl ⟨by rfl, ?_⟩) (by assumption) ?_
  rotate_left
  · (intro w hSw; (try dsimp only at hSw); go_simp; try (with_reducible rfl))
  (try simp only [Act.put, List.setIfInBounds_toArray, List.set_cons_zero, List.set_cons_succ])
  refine wpAnyH_take (i := 9) (oi := ⟨some 9, _, _, _, _, _⟩) (v := ?_) rfl (by kernel_rfl) (by kernel_rfl) (by kernel_rfl) (fun _ _ _ h => h) (Or.inl ⟨by rfl, ?_⟩) (by assumption) ?_
  rotate_left
  · (intro w hSw; (try dsimp only at hSw); go_simp; try (with_reducible rfl))
  (try simp only [Act.put, List.setIfInBounds_toArray, List.set_cons_zero, List.set_cons_succ])
  refine wpAnyH_take (i := 10) (oi := ⟨some 10, _, _, _, _, _⟩) (v := ?_) rfl (by kernel_rfl) (by kernel_rfl) (by kernel_rfl) (fun _ _ _ h => h) (Or.inl ⟨by rfl, ?_⟩) (by assumption) ?_
  rotate_left
  · (intro w hSw; (try dsimp only at hSw); go_simp; try (with_reducible rfl))
  (try simp only [Act.put, List.setIfInBounds_toArray, List.set_cons_zero, List.set_cons_succ])
  refine wpAnyH_done (by kernel_rfl) ?_ _
  go_wp2
  refine wp_region_held_drew (S := (fun W => W.cell? ⟨w.heap.size, 0, none⟩ = some (.int .u8 s.k) ∧ W.cell? ⟨w.heap.size, 1, none⟩ = some (.string s.s) ∧ W.cell? ⟨w.heap.size, 2, none⟩ = some (.int .i64 s.n) ∧ W.cell? ⟨w.heap.size, 3, none⟩ = some us ∧ W.cell? ⟨w.heap.size + 1, 0, none⟩ = some (.int .u8 t.k) ∧ W.cell? ⟨w.heap.size + 1, 1, none⟩ = some (.string t.s) ∧ W.cell? ⟨w.heap.size + 1, 2, none⟩ = some (.int .i64 t.n) ∧ W.cell? ⟨w.heap.size + 1, 3, none⟩ = some ut)) (by kernel_rfl) ?_ (fun hHeld => ?_)
  · exact (h.then (Below.refl _ _).drew).cells
  change wpAnyH _ .any _ _ _ 11 (Array.replicate 11 false) _ _
  refine wpAnyH_take (i := 1) (oi := ⟨some 50, _, _, _, _, _⟩) (v := ?_) rfl (by kernel_rfl) (by kernel_rfl) (by kernel_rfl) (fun _ _ _ h => h) (Or.inl ⟨by rfl, ?_⟩) (by assumption) ?_
  rotate_left
  · (intro w hSw; (try dsimp only at hSw); go_simp; try (with_reducible rfl))
  (try simp only [Act.put, List.setIfInBounds_toArray, List.set_cons_zero, List.set_cons_succ])
  refine wpAnyH_take (i := 2) (oi := ⟨some 51, _, _, _, _, _⟩) (v := ?_) rfl (by kernel_rfl) (by kernel_rfl) (by kernel_rfl) (fun _ _ _ h => h) (Or.inl ⟨by rfl, ?_⟩) (by assumption) ?_
  rotate_left
  · (intro w hSw; (try dsimp only at hSw); go_simp; try (with_reducible rfl))
  (try simp only [Act.put, List.setIfInBounds_toArray, List.set_cons_zero, List.set_cons_succ])
  replace h := h.then (Below.refl _ _).drew
  refine wpAnyH_ready (rs := [0]) (by kernel_rfl) (by simp) ?_
  refine AllReadyH.cons (o := ⟨some 49, _, _, _, _, _⟩) rfl (fun K hK => ?_) AllReadyH.nil
  go_simp
  go_at_call 19
  refine (New_c _ (fun _ => True)).mono ?_
  rintro e w4 ⟨⟨q, c, rfl, hn, -, -⟩, hb1⟩
  replace h := h.then hb1
  clear hb1
  go_wp2_with fail
  refine hK.out _ _ h.cells (fun hHeld => ?_)
  clear hK K
  (try simp only [Act.put, List.setIfInBounds_toArray, List.set_cons_zero, List.set_cons_succ])
  refine wpAnyH_ready (rs := [3]) (by kernel_rfl) (by simp) ?_
  refine AllReadyH.cons (o := ⟨some 52, _, _, _, _, _⟩) rfl (fun K hK => ?_) AllReadyH.nil
  go_simp
  go_at_call 18
  have hq := Unify_c [] q c s s _ _ _ _ _ _ hn ⟨_, rfl, h.s1⟩ ⟨_, rfl, h.s1⟩ WS.out WS.out ZS.out ZS.out K5.sm0 (by simp)
  rw [HO3.out] at hq
  refine hq.mono ?_
  clear hq hn
  rintro e w5 ⟨⟨p3, b3, rfl, hs3⟩, hb1⟩
  replace h := h.then hb1
  clear hb1
  go_wp2_with fail
  refine hK.out _ _ h.cells (fun hHeld => ?_)
  clear hK K
  (try simp only [Act.put, List.setIfInBounds_toArray, List.set_cons_zero, List.set_cons_succ])
  refine wpAnyH_take (i := 4) (oi := ⟨some 48, _, _, _, _, _⟩) (v := ?_) rfl (by kernel_rfl) (by kernel_rfl) (by kernel_rfl) (fun _ _ _ h => h) (Or.inl ⟨by rfl, ?_⟩) (by assumption) ?_
  rotate_left
  · (intro w hSw; (try dsimp only at hSw); go_simp; try (with_reducible rfl))
  (try simp only [Act.put, List.setIfInBounds_toArray, List.set_cons_zero, List.set_cons_succ])
  refine wpAnyH_take (i := 5) (oi := ⟨some 53, _, _, _, _, _⟩) (v := ?_) rfl (by kernel_rfl) (by kernel_rfl) (by kernel_rfl) (fun _ _ _ h => h) (Or.inl ⟨by rfl, ?_⟩) (by assumption) ?_
  rotate_left
  · (intro w hSw; (try dsimp only at hSw); go_simp; try (with_reducible rfl))
  (try simp only [Act.put, List.setIfInBounds_toArray, List.set_cons_zero, List.set_cons_succ])
  refine wpAnyH_take (i := 6) (oi := ⟨some 54, _, _, _, _, _⟩) (v := ?_) rfl (by kernel_rfl) (by kernel_rfl) (by kernel_rfl) (fun _ _ _ h => h) (Or.inl ⟨by rfl, ?_⟩) (by assumption) ?_
  rotate_left
  · (intro w hSw; (try dsimp only at hSw); go_simp; try (with_reducible rfl))
  (try simp only [Act.put, List.setIfInBounds_toArray, List.set_cons_zero, List.set_cons_succ])
  refine wpAnyH_take (i := 7) (oi := ⟨some 55, _, _, _, _, _⟩) (v := ?_) rfl (by kernel_rfl) (by kernel_rfl) (by kernel_rfl) (fun _ _ _ h => h) (Or.inl ⟨by rfl, ?_⟩) (by assumption) ?_
  rotate_left
  · (intro w hSw; (try dsimp only at hSw); go_simp; try (with_reducible rfl))
  (try simp only [Act.put, List.setIfInBounds_toArray, List.set_cons_zero, List.set_cons_succ])
  refine wpAnyH_take (i := 8) (oi := ⟨some 11, _, _, _, _, _⟩) (v := ?_) rfl (by kernel_rfl) (by kernel_rfl) (by kernel_rfl) (fun _ _ _ h => h) (Or.inl ⟨by rfl, ?_⟩) (by assumption) ?_
  rotate_left
  · (intro w hSw; (try dsimp only at hSw); go_simp; try (with_reducible rfl))
  (try simp only [Act.put, List.setIfInBounds_toArray, List.set_cons_zero, List.set_cons_succ])
  refine wpAnyH_take (i := 9) (oi := ⟨some 12, _, _, _, _, _⟩) (v := ?_) rfl (by kernel_rfl) (by kernel_rfl) (by kernel_rfl) (fun _ _ _ h => h) (Or.inl ⟨by rfl, ?_⟩) (by assumption) ?_
  rotate_left
  · (intro w hSw; (try dsimp only at hSw); go_simp; try (with_reducible rfl))
  (try simp only [Act.put, List.setIfInBounds_toArray, List.set_cons_zero, List.set_cons_succ])
  refine wpAnyH_take (i := 10) (oi := ⟨some 13, _, _, _, _, _⟩) (v := ?_) rfl (by kernel_rfl) (by kernel_rfl) (by kernel_rfl) (fun _ _ _ h => h) (Or.inl ⟨by rfl, ?_⟩) (by assumption) ?_
  rotate_left
  · (intro w hSw; (try dsimp only at hSw); go_simp; try (with_reducible rfl))
  (try simp only [Act.put, List.setIfInBounds_toArray, List.set_cons_zero, List.set_cons_succ])
  refine wpAnyH_done (by kernel_rfl) ?_ _
  obtain ⟨c0, c1, c2, c3, d0, d1, d2, d3⟩ := h.cells
  go_wp2_with (first
    | (go_at_call_has 20 (Value.pointer (some ⟨p3, 0, none⟩)); refine (sLen_c [] p3 b3 _ _ hs3).mono ?_; rintro e w6 ⟨rfl, hb1⟩; replace h := h.then hb1; replace hs3 := hs3.below hb1; clear hb1 c0 c1 c2 c3 d0 d1 d2 d3; obtain ⟨c0, c1, c2, c3, d0, d1, d2, d3⟩ := h.cells)
    | (go_at_call 17; refine (wakes04_c _).mono ?_; rintro e w8 ⟨rfl, hb1⟩; replace h := h.then hb1; replace hs3 := hs3.below hb1))
  go_ret
  exact ⟨rfl, h.b0⟩
set_option maxRecDepth 100000 in
set_option maxHeartbeats 16000000 in
theorem turns_no_no {w W3 : World} {s t : Tm} {us ut : Value} {n3 : Nat}
    (HG : Hid (Calls Try.prog 15 #[.slice (some ⟨w.heap.size + 1 + 1, 0, none⟩) 2 2] W3 fun e w' => e = .returned (.bool false) ∧ Below W3.heap.size W3 w'))
    (HK : Hid (Kt w s t us ut W3))
    (HW3 : Hid (W3 = (((w.alloc (.cells #[.int .u8 s.k, .string s.s, .int .i64 s.n, us] 24)).alloc (.cells #[.int .u8 t.k, .string t.s, .int .i64 t.n, ut] 24)).alloc (.cells #[.int .u8 s.k, .string s.s, .int .i64 s.n, us, .int .u8 t.k, .string t.s, .int .i64 t.n, ut] 24))))
    (WS : Hid s.Wf) (WT : Hid t.Wf) (ZS : Hid (s.siz ≤ 1000000)) (ZT : Hid (t.siz ≤ 1000000)) (HG1 : Hid (s.good = true)) (HG2 : Hid (t.good = true)) (HO3 : Hid (un 4098 0 [] [(s, s)] = .yes [] n3))
    (HO1 : Hid (un 4098 0 [] [(s, t)] = .no)) (HO2 : Hid (un 4098 0 [] [(t, s)] = .no)) :
    Calls Try.prog 3 #[.agg #[.int .u8 s.k, .string s.s, .int .i64 s.n, us], .agg #[.int .u8 t.k, .string t.s, .int .i64 t.n, ut]] w fun e w' => e = .returned (.bool true) ∧ Below w.heap.size w w' := by
  have m1 : Hid (0 = 0) := Lib.hid rfl
  go_enter Try.func3, Try.ntmps3
  go_wp2_with (first
    | (rw [← HW3.out]; go_at_call 15; refine HG.out.mono ?_; clear HG HW3; rintro e w1 ⟨rfl, hb1⟩; have h := HK.out.then hb1; clear hb1; obtain ⟨c0, c1, c2, c3, d0, d1, d2, d3⟩ := h.cells)
    | (go_at_call 16; have hx := m1.out; clear hx m1; have hq := refGood_c s _ _ _ ⟨_, rfl, h.s1⟩ ZS.out WS.out; rw [HG1.out] at hq; refine hq.mono ?_; clear hq; rintro e w1 ⟨rfl, hb1⟩; replace h := h.then hb1; clear hb1 c0 c1 c2 c3 d0 d1 d2 d3; obtain ⟨c0, c1, c2, c3, d0, d1, d2, d3⟩ := h.cells)
    | (go_at_call 16; have hq := refGood_c t _ _ _ ⟨_, rfl, h.s2⟩ ZT.out WT.out; rw [HG2.out] at hq; refine hq.mono ?_; clear hq; rintro e w1 ⟨rfl, hb1⟩; replace h := h.then hb1; clear hb1 c0 c1 c2 c3 d0 d1 d2 d3; obtain ⟨c0, c1, c2, c3, d0, d1, d2, d3⟩ := h.cells))
  clear c0 c1 c2 c3 d0 d1 d2 d3
  refine wp_region_held_drew (S := (fun W => W.cell? ⟨w.heap.size, 0, none⟩ = some (.int .u8 s.k) ∧ W.cell? ⟨w.heap.size, 1, none⟩ = some (.string s.s) ∧ W.cell? ⟨w.heap.size, 2, none⟩ = some (.int .i64 s.n) ∧ W.cell? ⟨w.heap.size, 3, none⟩ = some us ∧ W.cell? ⟨w.heap.size + 1, 0, none⟩ = some (.int .u8 t.k) ∧ W.cell? ⟨w.heap.size + 1, 1, none⟩ = some (.string t.s) ∧ W.cell? ⟨w.heap.size + 1, 2, none⟩ = some (.int .i64 t.n) ∧ W.cell? ⟨w.heap.size + 1, 3, none⟩ = some ut)) (by kernel_rfl) ?_ (fun hHeld => ?_)
  · exact (h.then (Below.refl _ _).drew).cells
  change wpAnyH _ .any _ _ _ 11 (Array.replicate 11 false) _ _
  refine wpAnyH_take (i := 1) (oi := ⟨some 34, _, _, _, _, _⟩) (v := ?_) rfl (by kernel_rfl) (by kernel_rfl) (by kernel_rfl) (fun _ _ _ h => h) (Or.inl ⟨by rfl, ?_⟩) (by assumption) ?_
  rotate_left
  · (intro w hSw; (try dsimp only at hSw); go_simp; try (with_reducible rfl))
  (try simp only [Act.put, List.setIfInBounds_toArray, List.set_cons_zero, List.set_cons_succ])
  refine wpAnyH_take (i := 2) (oi := ⟨some 35, _, _, _, _, _⟩) (v := ?_) rfl (by kernel_rfl) (by kernel_rfl) (by kernel_rfl) (fun _ _ _ h => h) (Or.inl ⟨by rfl, ?_⟩) (by assumption) ?_
  rotate_left
  · (intro w hSw; (try dsimp only at hSw); go_simp; try (with_reducible rfl))
  (try simp only [Act.put, List.setIfInBounds_toArray, List.set_cons_zero, List.set_cons_succ])
  replace h := h.then (Below.refl _ _).drew
  refine wpAnyH_ready (rs := [0]) (by kernel_rfl) (by simp) ?_
  refine AllReadyH.cons (o := ⟨some 33, _, _, _, _, _⟩) rfl (fun K hK => ?_) AllReadyH.nil
  go_simp
  go_at_call 19
  refine (New_c _ (fun _ => True)).mono ?_
  rintro e w4 ⟨⟨q, c, rfl, hn, -, -⟩, hb1⟩
  replace h := h.then hb1
  clear hb1
  go_wp2_with fail
  refine hK.out _ _ h.cells (fun hHeld => ?_)
  clear hK K
  (try simp only [Act.put, List.setIfInBounds_toArray, List.set_cons_zero, List.set_cons_succ])
  refine wpAnyH_ready (rs := [3]) (by kernel_rfl) (by simp) ?_
  refine AllReadyH.cons (o := ⟨some 36, _, _, _, _, _⟩) rfl (fun K hK => ?_) AllReadyH.nil
  go_simp
  go_at_call 18
  have hq := Unify_c [] q c s t _ _ _ _ _ _ hn ⟨_, rfl, h.s1⟩ ⟨_, rfl, h.s2⟩ WS.out WT.out ZS.out ZT.out K5.sm0 (by simp)
  rw [HO1.out] at hq
  refine hq.mono ?_
  clear hq hn
  rintro e w5 ⟨rfl, hb1⟩
  replace h := h.then hb1
  clear hb1
  go_wp2_with fail
  refine hK.out _ _ h.cells (fun hHeld => ?_)
  clear hK K
  (try simp only [Act.put, List.setIfInBounds_toArray, List.set_cons_zero, List.set_cons_succ])
  refine wpAnyH_take (i := 4) (oi := ⟨some 32, _, _, _, _, _⟩) (v := ?_) rfl (by kernel_rfl) (by kernel_rfl) (by kernel_rfl) (fun _ _ _ h => h) (Or.inl ⟨by rfl, ?_⟩) (by assumption) ?_
  rotate_left
  · (intro w hSw; (try dsimp only at hSw); go_simp; try (with_reducible rfl))
  (try simp only [Act.put, List.setIfInBounds_toArray, List.set_cons_zero, List.set_cons_succ])
  refine wpAnyH_take (i := 5) (oi := ⟨some 37, _, _, _, _, _⟩) (v := ?_) rfl (by kernel_rfl) (by kernel_rfl) (by kernel_rfl) (fun _ _ _ h => h) (Or.inl ⟨by rfl, ?_⟩) (by assumption) ?_
  rotate_left
  · (intro w hSw; (try dsimp only at hSw); go_simp; try (with_reducible rfl))
  (try simp only [Act.put, List.setIfInBounds_toArray, List.set_cons_zero, List.set_cons_succ])
  refine wpAnyH_take (i := 6) (oi := ⟨some 38, _, _, _, _, _⟩) (v := ?_) rfl (by kernel_rfl) (by kernel_rfl) (by kernel_rfl) (fun _ _ _ h => h) (Or.inl ⟨by rfl, ?_⟩) (by assumption) ?_
  rotate_left
  · (intro w hSw; (try dsimp only at hSw); go_simp; try (with_reducible rfl))
  (try simp only [Act.put, List.setIfInBounds_toArray, List.set_cons_zero, List.set_cons_succ])
  refine wpAnyH_take (i := 7) (oi := ⟨some 39, _, _, _, _, _⟩) (v := ?_) rfl (by kernel_rfl) (by kernel_rfl) (by kernel_rfl) (fun _ _ _ h => h) (Or.inl ⟨by rfl, ?_⟩) (by assumption) ?_
  rotate_left
  · (intro w hSw; (try dsimp only at hSw); go_simp; try (with_reducible rfl))
  (try simp only [Act.put, List.setIfInBounds_toArray, List.set_cons_zero, List.set_cons_succ])
  refine wpAnyH_take (i := 8) (oi := ⟨some 5, _, _, _, _, _⟩) (v := ?_) rfl (by kernel_rfl) (by kernel_rfl) (by kernel_rfl) (fun _ _ _ h => h) (Or.inl ⟨by rfl, ?_⟩) (by assumption) ?_
  rotate_left
  · (intro w hSw; (try dsimp only at hSw); go_simp; try (with_reducible rfl))
  (try simp only [Act.put, List.setIfInBounds_toArray, List.set_cons_zero, List.set_cons_succ])
  refine wpAnyH_take (i := 9) (oi := ⟨some 6, _, _, _, _, _⟩) (v := ?_) rfl (by kernel_rfl) (by kernel_rfl) (by kernel_rfl) (fun _ _ _ h => h) (Or.inl ⟨by rfl, ?_⟩) (by assumption) ?_
  rotate_left
  · (intro w hSw; (try dsimp only at hSw); go_simp; try (with_reducible rfl))
  (try simp only [Act.put, List.setIfInBounds_toArray, List.set_cons_zero, List.set_cons_succ])
  refine wpAnyH_take (i := 10) (oi := ⟨some 7, _, _, _, _, _⟩) (v := ?_) rfl (by kernel_rfl) (by kernel_rfl) (by kernel_rfl) (fun _ _ _ h => h) (Or.inl ⟨by rfl, ?_⟩) (by assumption) ?_
  rotate_left
  · (intro w hSw; (try dsimp only at hSw); go_simp; try (with_reducible rfl))
  (try simp only [Act.put, List.setIfInBounds_toArray, List.set_cons_zero, List.set_cons_succ])
  refine wpAnyH_done (by kernel_rfl) ?_ _
  go_wp2
  refine wp_region_held_drew (S := (fun W => W.cell? ⟨w.heap.size, 0, none⟩ = some (.int .u8 s.k) ∧ W.cell? ⟨w.heap.size, 1, none⟩ = some (.string s.s) ∧ W.cell? ⟨w.heap.size, 2, none⟩ = some (.int .i64 s.n) ∧ W.cell? ⟨w.heap.size, 3, none⟩ = some us ∧ W.cell? ⟨w.heap.size + 1, 0, none⟩ = some (.int .u8 t.k) ∧ W.cell? ⟨w.heap.size + 1, 1, none⟩ = some (.string t.s) ∧ W.cell? ⟨w.heap.size + 1, 2, none⟩ = some (.int .i64 t.n) ∧ W.cell? ⟨w.heap.size + 1, 3, none⟩ = some ut)) (by kernel_rfl) ?_ (fun hHeld => ?_)
  · exact (h.then (Below.refl _ _).drew).cells
  change wpAnyH _ .any _ _ _ 11 (Array.replicate 11 false) _ _
  refine wpAnyH_take (i := 1) (oi := ⟨some 42, _, _, _, _, _⟩) (v := ?_) rfl (by kernel_rfl) (by kernel_rfl) (by kernel_rfl) (fun _ _ _ h => h) (Or.inl ⟨by rfl, ?_⟩) (by assumption) ?_
  rotate_left
  · (intro w hSw; (try dsimp only at hSw); go_simp; try (with_reducible rfl))
  (try simp only [Act.put, List.setIfInBounds_toArray, List.set_cons_zero, List.set_cons_succ])
  refine wpAnyH_take (i := 2) (oi := ⟨some 43, _, _, _, _, _⟩) (v := ?_) rfl (by kernel_rfl) (by kernel_rfl) (by kernel_rfl) (fun _ _ _ h => h) (Or.inl ⟨by rfl, ?_⟩) (by assumption) ?_
  rotate_left
  · (intro w hSw; (try dsimp only at hSw); go_simp; try (with_reducible rfl))
  (try simp only [Act.put, List.setIfInBounds_toArray, List.set_cons_zero, List.set_cons_succ])
  replace h := h.then (Below.refl _ _).drew
  refine wpAnyH_ready (rs := [0]) (by kernel_rfl) (by simp) ?_
  refine AllReadyH.cons (o := ⟨some 41, _, _, _, _, _⟩) rfl (fun K hK => ?_) AllReadyH.nil
  go_simp
  go_at_call 19
  refine (New_c _ (fun _ => True)).mono ?_
  rintro e w4 ⟨⟨q, c, rfl, hn, -, -⟩, hb1⟩
  replace h := h.then hb1
  clear hb1
  go_wp2_with fail
  refine hK.out _ _ h.cells (fun hHeld => ?_)
  clear hK K
  (try simp only [Act.put, List.setIfInBounds_toArray, List.set_cons_zero, List.set_cons_succ])
  refine wpAnyH_ready (rs := [3]) (by kernel_rfl) (by simp) ?_
  refine AllReadyH.cons (o := ⟨some 44, _, _, _, _, _⟩) rfl (fun K hK => ?_) AllReadyH.nil
  go_simp
  go_at_call 18
  have hq := Unify_c [] q c t s _ _ _ _ _ _ hn ⟨_, rfl, h.s2⟩ ⟨_, rfl, h.s1⟩ WT.out WS.out ZT.out ZS.out K5.sm0 (by simp)
  rw [HO2.out] at hq
  refine hq.mono ?_
  clear hq hn
  rintro e w5 ⟨rfl, hb1⟩
  replace h := h.then hb1
  clear hb1
  go_wp2_with fail
  refine hK.out _ _ h.cells (fun hHeld => ?_)
  clear hK K
  (try simp only [Act.put, List.setIfInBounds_toArray, List.set_cons_zero, List.set_cons_succ])
  refine wpAnyH_take (i := 4) (oi := ⟨some 40, _, _, _, _, _⟩) (v := ?_) rfl (by kernel_rfl) (by kernel_rfl) (by kernel_rfl) (fun _ _ _ h => h) (Or.inl ⟨by rfl, ?_⟩) (by assumption) ?_
  rotate_left
  · (intro w hSw; (try dsimp only at hSw); go_simp; try (with_reducible rfl))
  (try simp only [Act.put, List.setIfInBounds_toArray, List.set_cons_zero, List.set_cons_succ])
  refine wpAnyH_take (i := 5) (oi := ⟨some 45, _, _, _, _, _⟩) (v := ?_) rfl (by kernel_rfl) (by kernel_rfl) (by kernel_rfl) (fun _ _ _ h => h) (Or.inl ⟨by rfl, ?_⟩) (by assumption) ?_
  rotate_left
  · (intro w hSw; (try dsimp only at hSw); go_simp; try (with_reducible rfl))
  (try simp only [Act.put, List.setIfInBounds_toArray, List.set_cons_zero, List.set_cons_succ])
  refine wpAnyH_take (i := 6) (oi := ⟨some 46, _, _, _, _, _⟩) (v := ?_) rfl (by kernel_rfl) (by kernel_rfl) (by kernel_rfl) (fun _ _ _ h => h) (Or.inl ⟨by rfl, ?_⟩) (by assumption) ?_
  rotate_left
  · (intro w hSw; (try dsimp only at hSw); go_simp; try (with_reducible rfl))
  (try simp only [Act.put, List.setIfInBounds_toArray, List.set_cons_zero, List.set_cons_succ])
  refine wpAnyH_take (i := 7) (oi := ⟨some 47, _, _, _, _, _⟩) (v := ?_) rfl (by kernel_rfl) (by kernel_rfl) (by kernel_rfl) (fun _ _ _ h => h) (Or.inl ⟨by rfl, ?_⟩) (by assumption) ?_
  rotate_left
  · (intro w hSw; (try dsimp only at hSw); go_simp; try (with_reducible rfl))
  (try simp only [Act.put, List.setIfInBounds_toArray, List.set_cons_zero, List.set_cons_succ])
  refine wpAnyH_take (i := 8) (oi := ⟨some 8, _, _, _, _, _⟩) (v := ?_) rfl (by kernel_rfl) (by kernel_rfl) (by kernel_rfl) (fun _ _ _ h => h) (Or.inl ⟨by rfl, ?_⟩) (by assumption) ?_
  rotate_left
  · (intro w hSw; (try dsimp only at hSw); go_simp; try (with_reducible rfl))
  (try simp only [Act.put, List.setIfInBounds_toArray, List.set_cons_zero, List.set_cons_succ])
  refine wpAnyH_take (i := 9) (oi := ⟨some 9, _, _, _, _, _⟩) (v := ?_) rfl (by kernel_rfl) (by kernel_rfl) (by kernel_rfl) (fun _ _ _ h => h) (Or.inl ⟨by rfl, ?_⟩) (by assumption) ?_
  rotate_left
  · (intro w hSw; (try dsimp only at hSw); go_simp; try (with_reducible rfl))
  (try simp only [Act.put, List.setIfInBounds_toArray, List.set_cons_zero, List.set_cons_succ])
  refine wpAnyH_take (i := 10) (oi := ⟨some 10, _, _, _, _, _⟩) (v := ?_) rfl (by kernel_rfl) (by kernel_rfl) (by kernel_rfl) (fun _ _ _ h => h) (Or.inl ⟨by rfl, ?_⟩) (by assumption) ?_
  rotate_left
  · (intro w hSw; (try dsimp only at hSw); go_simp; try (with_reducible rfl))
  (try simp only [Act.put, List.setIfInBounds_toArray, List.set_cons_zero, List.set_cons_succ])
  refine wpAnyH_done (by kernel_rfl) ?_ _
  go_wp2
  refine wp_region_held_drew (S := (fun W => W.cell? ⟨w.heap.size, 0, none⟩ = some (.int .u8 s.k) ∧ W.cell? ⟨w.heap.size, 1, none⟩ = some (.string s.s) ∧ W.cell? ⟨w.heap.size, 2, none⟩ = some (.int .i64 s.n) ∧ W.cell? ⟨w.heap.size, 3, none⟩ = some us ∧ W.cell? ⟨w.heap.size + 1, 0, none⟩ = some (.int .u8 t.k) ∧ W.cell? ⟨w.heap.size + 1, 1, none⟩ = some (.string t.s) ∧ W.cell? ⟨w.heap.size + 1, 2, none⟩ = some (.int .i64 t.n) ∧ W.cell? ⟨w.heap.size + 1, 3, none⟩ = some ut)) (by kernel_rfl) ?_ (fun hHeld => ?_)
  · exact (h.then (Below.refl _ _).drew).cells
  change wpAnyH _ .any _ _ _ 11 (Array.replicate 11 false) _ _
  refine wpAnyH_take (i := 1) (oi := ⟨some 50, _, _, _, _, _⟩) (v := ?_) rfl (by kernel_rfl) (by kernel_rfl) (by kernel_rfl) (fun _ _ _ h => h) (Or.inl ⟨by rfl, ?_⟩) (by assumption) ?_
  rotate_left
  · (intro w hSw; (try dsimp only at hSw); go_simp; try (with_reducible rfl))
  (try simp only [Act.put, List.setIfInBounds_toArray, List.set_cons_zero, List.set_cons_succ])
  refine wpAnyH_take (i := 2) (oi := ⟨some 51, _, _, _, _, _⟩) (v := ?_) rfl (by kernel_rfl) (by kernel_rfl) (by kernel_rfl) (fun _ _ _ h => h) (Or.inl ⟨by rfl, ?_⟩) (by assumption) ?_
  rotate_left
  · (intro w hSw; (try dsimp only at hSw); go_simp; try (with_reducible rfl))
  (try simp only [Act.put, List.setIfInBounds_toArray, List.set_cons_zero, List.set_cons_succ])
  replace h := h.then (Below.refl _ _).drew
  refine wpAnyH_ready (rs := [0]) (by kernel_rfl) (by simp) ?_
  refine AllReadyH.cons (o := ⟨some 49, _, _, _, _, _⟩) rfl (fun K hK => ?_) AllReadyH.nil
  go_simp
  go_at_call 19
  refine (New_c _ (fun _ => True)).mono ?_
  rintro e w4 ⟨⟨q, c, rfl, hn, -, -⟩, hb1⟩
  replace h := h.then hb1
  clear hb1
  go_wp2_with fail
  refine hK.out _ _ h.cells (fun hHeld => ?_)
  clear hK K
  (try simp only [Act.put, List.setIfInBounds_toArray, List.set_cons_zero, List.set_cons_succ])
  refine wpAnyH_ready (rs := [3]) (by kernel_rfl) (by simp) ?_
  refine AllReadyH.cons (o := ⟨some 52, _, _, _, _, _⟩) rfl (fun K hK => ?_) AllReadyH.nil
  go_simp
  go_at_call 18
  have hq := Unify_c [] q c s s _ _ _ _ _ _ hn ⟨_, rfl, h.s1⟩ ⟨_, rfl, h.s1⟩ WS.out WS.out ZS.out ZS.out K5.sm0 (by simp)
  rw [HO3.out] at hq
  refine hq.mono ?_
  clear hq hn
  rintro e w5 ⟨⟨p3, b3, rfl, hs3⟩, hb1⟩
  replace h := h.then hb1
  clear hb1
  go_wp2_with fail
  refine hK.out _ _ h.cells (fun hHeld => ?_)
  clear hK K
  (try simp only [Act.put, List.setIfInBounds_toArray, List.set_cons_zero, List.set_cons_succ])
  refine wpAnyH_take (i := 4) (oi := ⟨some 48, _, _, _, _, _⟩) (v := ?_) rfl (by kernel_rfl) (by kernel_rfl) (by kernel_rfl) (fun _ _ _ h => h) (Or.inl ⟨by rfl, ?_⟩) (by assumption) ?_
  rotate_left
  · (intro w hSw; (try dsimp only at hSw); go_simp; try (with_reducible rfl))
  (try simp only [Act.put, List.setIfInBounds_toArray, List.set_cons_zero, List.set_cons_succ])
  refine wpAnyH_take (i := 5) (oi := ⟨some 53, _, _, _, _, _⟩) (v := ?_) rfl (by kernel_rfl) (by kernel_rfl) (by kernel_rfl) (fun _ _ _ h => h) (Or.inl ⟨by rfl, ?_⟩) (by assumption) ?_
  rotate_left
  · (intro w hSw; (try dsimp only at hSw); go_simp; try (with_reducible rfl))
  (try simp only [Act.put, List.setIfInBounds_toArray, List.set_cons_zero, List.set_cons_succ])
  refine wpAnyH_take (i := 6) (oi := ⟨some 54, _, _, _, _, _⟩) (v := ?_) rfl (by kernel_rfl) (by kernel_rfl) (by kernel_rfl) (fun _ _ _ h => h) (Or.inl ⟨by rfl, ?_⟩) (by assumption) ?_
  rotate_left
  · (intro w hSw; (try dsimp only at hSw); go_simp; try (with_reducible rfl))
  (try simp only [Act.put, List.setIfInBounds_toArray, List.set_cons_zero, List.set_cons_succ])
  refine wpAnyH_take (i := 7) (oi := ⟨some 55, _, _, _, _, _⟩) (v := ?_) rfl (by kernel_rfl) (by kernel_rfl) (by kernel_rfl) (fun _ _ _ h => h) (Or.inl ⟨by rfl, ?_⟩) (by assumption) ?_
  rotate_left
  · (intro w hSw; (try dsimp only at hSw); go_simp; try (with_reducible rfl))
  (try simp only [Act.put, List.setIfInBounds_toArray, List.set_cons_zero, List.set_cons_succ])
  refine wpAnyH_take (i := 8) (oi := ⟨some 11, _, _, _, _, _⟩) (v := ?_) rfl (by kernel_rfl) (by kernel_rfl) (by kernel_rfl) (fun _ _ _ h => h) (Or.inl ⟨by rfl, ?_⟩) (by assumption) ?_
  rotate_left
  · (intro w hSw; (try dsimp only at hSw); go_simp; try (with_reducible rfl))
  (try simp only [Act.put, List.setIfInBounds_toArray, List.set_cons_zero, List.set_cons_succ])
  refine wpAnyH_take (i := 9) (oi := ⟨some 12, _, _, _, _, _⟩) (v := ?_) rfl (by kernel_rfl) (by kernel_rfl) (by kernel_rfl) (fun _ _ _ h => h) (Or.inl ⟨by rfl, ?_⟩) (by assumption) ?_
  rotate_left
  · (intro w hSw; (try dsimp only at hSw); go_simp; try (with_reducible rfl))
  (try simp only [Act.put, List.setIfInBounds_toArray, List.set_cons_zero, List.set_cons_succ])
  refine wpAnyH_take (i := 10) (oi := ⟨some 13, _, _, _, _, _⟩) (v := ?_) rfl (by kernel_rfl) (by kernel_rfl) (by kernel_rfl) (fun _ _ _ h => h) (Or.inl ⟨by rfl, ?_⟩) (by assumption) ?_
  rotate_left
  · (intro w hSw; (try dsimp only at hSw); go_simp; try (with_reducible rfl))
  (try simp only [Act.put, List.setIfInBounds_toArray, List.set_cons_zero, List.set_cons_succ])
  refine wpAnyH_done (by kernel_rfl) ?_ _
  obtain ⟨c0, c1, c2, c3, d0, d1, d2, d3⟩ := h.cells
  go_wp2_with (first
    | (go_at_call_has 20 (Value.pointer (some ⟨p3, 0, none⟩)); refine (sLen_c [] p3 b3 _ _ hs3).mono ?_; rintro e w6 ⟨rfl, hb1⟩; replace h := h.then hb1; replace hs3 := hs3.below hb1; clear hb1 c0 c1 c2 c3 d0 d1 d2 d3; obtain ⟨c0, c1, c2, c3, d0, d1, d2, d3⟩ := h.cells)
    | (go_at_call 17; refine (wakes04_c _).mono ?_; rintro e w8 ⟨rfl, hb1⟩; replace h := h.then hb1; replace hs3 := hs3.below hb1))
  go_ret
  exact ⟨rfl, h.b0⟩
set_option maxRecDepth 100000 in
set_option maxHeartbeats 16000000 in
theorem turns_yes_full {w W3 : World} {s t : Tm} {us ut : Value} {n3 : Nat} {l : Bs} {n : Nat}
    (HG : Hid (Calls Try.prog 15 #[.slice (some ⟨w.heap.size + 1 + 1, 0, none⟩) 2 2] W3 fun e w' => e = .returned (.bool false) ∧ Below W3.heap.size W3 w'))
    (HK : Hid (Kt w s t us ut W3))
    (HW3 : Hid (W3 = (((w.alloc (.cells #[.int .u8 s.k, .string s.s, .int .i64 s.n, us] 24)).alloc (.cells #[.int .u8 t.k, .string t.s, .int .i64 t.n, ut] 24)).alloc (.cells #[.int .u8 s.k, .string s.s, .int .i64 s.n, us, .int .u8 t.k, .string t.s, .int .i64 t.n, ut] 24))))
    (WS : Hid s.Wf) (WT : Hid t.Wf) (ZS : Hid (s.siz ≤ 1000000)) (ZT : Hid (t.siz ≤ 1000000)) (HG1 : Hid (s.good = true)) (HG2 : Hid (t.good = true)) (HO3 : Hid (un 4098 0 [] [(s, s)] = .yes [] n3))
    (HO1 : Hid (un 4098 0 [] [(s, t)] = .yes l n)) (HO2 : Hid (un 4098 0 [] [(t, s)] = .full)) :
    Calls Try.prog 3 #[.agg #[.int .u8 s.k, .string s.s, .int .i64 s.n, us], .agg #[.int .u8 t.k, .string t.s, .int .i64 t.n, ut]] w fun e w' => e = .returned (.bool true) ∧ Below w.heap.size w w' := by
  have m1 : Hid (0 = 0) := Lib.hid rfl
  go_enter Try.func3, Try.ntmps3
  go_wp2_with (first
    | (rw [← HW3.out]; go_at_call 15; refine HG.out.mono ?_; clear HG HW3; rintro e w1 ⟨rfl, hb1⟩; have h := HK.out.then hb1; clear hb1; obtain ⟨c0, c1, c2, c3, d0, d1, d2, d3⟩ := h.cells)
    | (go_at_call 16; have hx := m1.out; clear hx m1; have hq := refGood_c s _ _ _ ⟨_, rfl, h.s1⟩ ZS.out WS.out; rw [HG1.out] at hq; refine hq.mono ?_; clear hq; rintro e w1 ⟨rfl, hb1⟩; replace h := h.then hb1; clear hb1 c0 c1 c2 c3 d0 d1 d2 d3; obtain ⟨c0, c1, c2, c3, d0, d1, d2, d3⟩ := h.cells)
    | (go_at_call 16; have hq := refGood_c t _ _ _ ⟨_, rfl, h.s2⟩ ZT.out WT.out; rw [HG2.out] at hq; refine hq.mono ?_; clear hq; rintro e w1 ⟨rfl, hb1⟩; replace h := h.then hb1; clear hb1 c0 c1 c2 c3 d0 d1 d2 d3; obtain ⟨c0, c1, c2, c3, d0, d1, d2, d3⟩ := h.cells))
  clear c0 c1 c2 c3 d0 d1 d2 d3
  refine wp_region_held_drew (S := (fun W => W.cell? ⟨w.heap.size, 0, none⟩ = some (.int .u8 s.k) ∧ W.cell? ⟨w.heap.size, 1, none⟩ = some (.string s.s) ∧ W.cell? ⟨w.heap.size, 2, none⟩ = some (.int .i64 s.n) ∧ W.cell? ⟨w.heap.size, 3, none⟩ = some us ∧ W.cell? ⟨w.heap.size + 1, 0, none⟩ = some (.int .u8 t.k) ∧ W.cell? ⟨w.heap.size + 1, 1, none⟩ = some (.string t.s) ∧ W.cell? ⟨w.heap.size + 1, 2, none⟩ = some (.int .i64 t.n) ∧ W.cell? ⟨w.heap.size + 1, 3, none⟩ = some ut)) (by kernel_rfl) ?_ (fun hHeld => ?_)
  · exact (h.then (Below.refl _ _).drew).cells
  change wpAnyH _ .any _ _ _ 11 (Array.replicate 11 false) _ _
  refine wpAnyH_take (i := 1) (oi := ⟨some 34, _, _, _, _, _⟩) (v := ?_) rfl (by kernel_rfl) (by kernel_rfl) (by kernel_rfl) (fun _ _ _ h => h) (Or.inl ⟨by rfl, ?_⟩) (by assumption) ?_
  rotate_left
  · (intro w hSw; (try dsimp only at hSw); go_simp; try (with_reducible rfl))
  (try simp only [Act.put, List.setIfInBounds_toArray, List.set_cons_zero, List.set_cons_succ])
  refine wpAnyH_take (i := 2) (oi := ⟨some 35, _, _, _, _, _⟩) (v := ?_) rfl (by kernel_rfl) (by kernel_rfl) (by kernel_rfl) (fun _ _ _ h => h) (Or.inl ⟨by rfl, ?_⟩) (by assumption) ?_
  rotate_left
  · (intro w hSw; (try dsimp only at hSw); go_simp; try (with_reducible rfl))
  (try simp only [Act.put, List.setIfInBounds_toArray, List.set_cons_zero, List.set_cons_succ])
  replace h := h.then (Below.refl _ _).drew
  refine wpAnyH_ready (rs := [0]) (by kernel_rfl) (by simp) ?_
  refine AllReadyH.cons (o := ⟨some 33, _, _, _, _, _⟩) rfl (fun K hK => ?_) AllReadyH.nil
  go_simp
  go_at_call 19
  refine (New_c _ (fun _ => True)).mono ?_
  rintro e w4 ⟨⟨q, c, rfl, hn, -, -⟩, hb1⟩
  replace h := h.then hb1
  clear hb1
  go_wp2_with fail
  refine hK.out _ _ h.cells (fun hHeld => ?_)
  clear hK K
  (try simp only [Act.put, List.setIfInBounds_toArray, List.set_cons_zero, List.set_cons_succ])
  refine wpAnyH_ready (rs := [3]) (by kernel_rfl) (by simp) ?_
  refine AllReadyH.cons (o := ⟨some 36, _, _, _, _, _⟩) rfl (fun K hK => ?_) AllReadyH.nil
  go_simp
  go_at_call 18
  have hq := Unify_c [] q c s t _ _ _ _ _ _ hn ⟨_, rfl, h.s1⟩ ⟨_, rfl, h.s2⟩ WS.out WT.out ZS.out ZT.out K5.sm0 (by simp)
  rw [HO1.out] at hq
  refine hq.mono ?_
  clear hq hn
  rintro e w5 ⟨⟨p1, b1, rfl, hs1⟩, hb1⟩
  replace h := h.then hb1
  clear hb1
  go_wp2_with fail
  refine hK.out _ _ h.cells (fun hHeld => ?_)
  clear hK K
  (try simp only [Act.put, List.setIfInBounds_toArray, List.set_cons_zero, List.set_cons_succ])
  refine wpAnyH_take (i := 4) (oi := ⟨some 32, _, _, _, _, _⟩) (v := ?_) rfl (by kernel_rfl) (by kernel_rfl) (by kernel_rfl) (fun _ _ _ h => h) (Or.inl ⟨by rfl, ?_⟩) (by assumption) ?_
  rotate_left
  · (intro w hSw; (try dsimp only at hSw); go_simp; try (with_reducible rfl))
  (try simp only [Act.put, List.setIfInBounds_toArray, List.set_cons_zero, List.set_cons_succ])
  refine wpAnyH_take (i := 5) (oi := ⟨some 37, _, _, _, _, _⟩) (v := ?_) rfl (by kernel_rfl) (by kernel_rfl) (by kernel_rfl) (fun _ _ _ h => h) (Or.inl ⟨by rfl, ?_⟩) (by assumption) ?_
  rotate_left
  · (intro w hSw; (try dsimp only at hSw); go_simp; try (with_reducible rfl))
  (try simp only [Act.put, List.setIfInBounds_toArray, List.set_cons_zero, List.set_cons_succ])
  refine wpAnyH_take (i := 6) (oi := ⟨some 38, _, _, _, _, _⟩) (v := ?_) rfl (by kernel_rfl) (by kernel_rfl) (by kernel_rfl) (fun _ _ _ h => h) (Or.inl ⟨by rfl, ?_⟩) (by assumption) ?_
  rotate_left
  · (intro w hSw; (try dsimp only at hSw); go_simp; try (with_reducible rfl))
  (try simp only [Act.put, List.setIfInBounds_toArray, List.set_cons_zero, List.set_cons_succ])
  refine wpAnyH_take (i := 7) (oi := ⟨some 39, _, _, _, _, _⟩) (v := ?_) rfl (by kernel_rfl) (by kernel_rfl) (by kernel_rfl) (fun _ _ _ h => h) (Or.inl ⟨by rfl, ?_⟩) (by assumption) ?_
  rotate_left
  · (intro w hSw; (try dsimp only at hSw); go_simp; try (with_reducible rfl))
  (try simp only [Act.put, List.setIfInBounds_toArray, List.set_cons_zero, List.set_cons_succ])
  refine wpAnyH_take (i := 8) (oi := ⟨some 5, _, _, _, _, _⟩) (v := ?_) rfl (by kernel_rfl) (by kernel_rfl) (by kernel_rfl) (fun _ _ _ h => h) (Or.inl ⟨by rfl, ?_⟩) (by assumption) ?_
  rotate_left
  · (intro w hSw; (try dsimp only at hSw); go_simp; try (with_reducible rfl))
  (try simp only [Act.put, List.setIfInBounds_toArray, List.set_cons_zero, List.set_cons_succ])
  refine wpAnyH_take (i := 9) (oi := ⟨some 6, _, _, _, _, _⟩) (v := ?_) rfl (by kernel_rfl) (by kernel_rfl) (by kernel_rfl) (fun _ _ _ h => h) (Or.inl ⟨by rfl, ?_⟩) (by assumption) ?_
  rotate_left
  · (intro w hSw; (try dsimp only at hSw); go_simp; try (with_reducible rfl))
  (try simp only [Act.put, List.setIfInBounds_toArray, List.set_cons_zero, List.set_cons_succ])
  refine wpAnyH_take (i := 10) (oi := ⟨some 7, _, _, _, _, _⟩) (v := ?_) rfl (by kernel_rfl) (by kernel_rfl) (by kernel_rfl) (fun _ _ _ h => h) (Or.inl ⟨by rfl, ?_⟩) (by assumption) ?_
  rotate_left
  · (intro w hSw; (try dsimp only at hSw); go_simp; try (with_reducible rfl))
  (try simp only [Act.put, List.setIfInBounds_toArray, List.set_cons_zero, List.set_cons_succ])
  refine wpAnyH_done (by kernel_rfl) ?_ _
  go_wp2
  refine wp_region_held_drew (S := (fun W => W.cell? ⟨w.heap.size, 0, none⟩ = some (.int .u8 s.k) ∧ W.cell? ⟨w.heap.size, 1, none⟩ = some (.string s.s) ∧ W.cell? ⟨w.heap.size, 2, none⟩ = some (.int .i64 s.n) ∧ W.cell? ⟨w.heap.size, 3, none⟩ = some us ∧ W.cell? ⟨w.heap.size + 1, 0, none⟩ = some (.int .u8 t.k) ∧ W.cell? ⟨w.heap.size + 1, 1, none⟩ = some (.string t.s) ∧ W.cell? ⟨w.heap.size + 1, 2, none⟩ = some (.int .i64 t.n) ∧ W.cell? ⟨w.heap.size + 1, 3, none⟩ = some ut)) (by kernel_rfl) ?_ (fun hHeld => ?_)
  · exact (h.then (Below.refl _ _).drew).cells
  change wpAnyH _ .any _ _ _ 11 (Array.replicate 11 false) _ _
  refine wpAnyH_take (i := 1) (oi := ⟨some 42, _, _, _, _, _⟩) (v := ?_) rfl (by kernel_rfl) (by kernel_rfl) (by kernel_rfl) (fun _ _ _ h => h) (Or.inl ⟨by rfl, ?_⟩) (by assumption) ?_
  rotate_left
  · (intro w hSw; (try dsimp only at hSw); go_simp; try (with_reducible rfl))
  (try simp only [Act.put, List.setIfInBounds_toArray, List.set_cons_zero, List.set_cons_succ])
  refine wpAnyH_take (i := 2) (oi := ⟨some 43, _, _, _, _, _⟩) (v := ?_) rfl (by kernel_rfl) (by kernel_rfl) (by kernel_rfl) (fun _ _ _ h => h) (Or.inl ⟨by rfl, ?_⟩) (by assumption) ?_
  rotate_left
  · (intro w hSw; (try dsimp only at hSw); go_simp; try (with_reducible rfl))
  (try simp only [Act.put, List.setIfInBounds_toArray, List.set_cons_zero, List.set_cons_succ])
  replace h := h.then (Below.refl _ _).drew
  replace hs1 := hs1.below (Below.refl _ _).drew
  refine wpAnyH_ready (rs := [0]) (by kernel_rfl) (by simp) ?_
  refine AllReadyH.cons (o := ⟨some 41, _, _, _, _, _⟩) rfl (fun K hK => ?_) AllReadyH.nil
  go_simp
  go_at_call 19
  refine (New_c _ (fun _ => True)).mono ?_
  rintro e w4 ⟨⟨q, c, rfl, hn, -, -⟩, hb1⟩
  replace h := h.then hb1
  replace hs1 := hs1.below hb1
  clear hb1
  go_wp2_with fail
  refine hK.out _ _ h.cells (fun hHeld => ?_)
  clear hK K
  (try simp only [Act.put, List.setIfInBounds_toArray, List.set_cons_zero, List.set_cons_succ])
  refine wpAnyH_ready (rs := [3]) (by kernel_rfl) (by simp) ?_
  refine AllReadyH.cons (o := ⟨some 44, _, _, _, _, _⟩) rfl (fun K hK => ?_) AllReadyH.nil
  go_simp
  go_at_call 18
  have hq := Unify_c [] q c t s _ _ _ _ _ _ hn ⟨_, rfl, h.s2⟩ ⟨_, rfl, h.s1⟩ WT.out WS.out ZT.out ZS.out K5.sm0 (by simp)
  rw [HO2.out] at hq
  refine hq.mono ?_
  clear hq hn
  rintro e w5 ⟨rfl, hb1⟩
  replace h := h.then hb1
  replace hs1 := hs1.below hb1
  clear hb1
  go_wp2_with fail
  refine hK.out _ _ h.cells (fun hHeld => ?_)
  clear hK K
  (try simp only [Act.put, List.setIfInBounds_toArray, List.set_cons_zero, List.set_cons_succ])
  refine wpAnyH_take (i := 4) (oi := ⟨some 40, _, _, _, _, _⟩) (v := ?_) rfl (by kernel_rfl) (by kernel_rfl) (by kernel_rfl) (fun _ _ _ h => h) (Or.inl ⟨by rfl, ?_⟩) (by assumption) ?_
  rotate_left
  · (intro w hSw; (try dsimp only at hSw); go_simp; try (with_reducible rfl))
  (try simp only [Act.put, List.setIfInBounds_toArray, List.set_cons_zero, List.set_cons_succ])
  refine wpAnyH_take (i := 5) (oi := ⟨some 45, _, _, _, _, _⟩) (v := ?_) rfl (by kernel_rfl) (by kernel_rfl) (by kernel_rfl) (fun _ _ _ h => h) (Or.inl ⟨by rfl, ?_⟩) (by assumption) ?_
  rotate_left
  · (intro w hSw; (try dsimp only at hSw); go_simp; try (with_reducible rfl))
  (try simp only [Act.put, List.setIfInBounds_toArray, List.set_cons_zero, List.set_cons_succ])
  refine wpAnyH_take (i := 6) (oi := ⟨some 46, _, _, _, _, _⟩) (v := ?_) rfl (by kernel_rfl) (by kernel_rfl) (by kernel_rfl) (fun _ _ _ h => h) (Or.inl ⟨by rfl, ?_⟩) (by assumption) ?_
  rotate_left
  · (intro w hSw; (try dsimp only at hSw); go_simp; try (with_reducible rfl))
  (try simp only [Act.put, List.setIfInBounds_toArray, List.set_cons_zero, List.set_cons_succ])
  refine wpAnyH_take (i := 7) (oi := ⟨some 47, _, _, _, _, _⟩) (v := ?_) rfl (by kernel_rfl) (by kernel_rfl) (by kernel_rfl) (fun _ _ _ h => h) (Or.inl ⟨by rfl, ?_⟩) (by assumption) ?_
  rotate_left
  · (intro w hSw; (try dsimp only at hSw); go_simp; try (with_reducible rfl))
  (try simp only [Act.put, List.setIfInBounds_toArray, List.set_cons_zero, List.set_cons_succ])
  refine wpAnyH_take (i := 8) (oi := ⟨some 8, _, _, _, _, _⟩) (v := ?_) rfl (by kernel_rfl) (by kernel_rfl) (by kernel_rfl) (fun _ _ _ h => h) (Or.inl ⟨by rfl, ?_⟩) (by assumption) ?_
  rotate_left
  · (intro w hSw; (try dsimp only at hSw); go_simp; try (with_reducible rfl))
  (try simp only [Act.put, List.setIfInBounds_toArray, List.set_cons_zero, List.set_cons_succ])
  refine wpAnyH_take (i := 9) (oi := ⟨some 9, _, _, _, _, _⟩) (v := ?_) rfl (by kernel_rfl) (by kernel_rfl) (by kernel_rfl) (fun _ _ _ h => h) (Or.inl ⟨by rfl, ?_⟩) (by assumption) ?_
  rotate_left
  · (intro w hSw; (try dsimp only at hSw); go_simp; try (with_reducible rfl))
  (try simp only [Act.put, List.setIfInBounds_toArray, List.set_cons_zero, List.set_cons_succ])
  refine wpAnyH_take (i := 10) (oi := ⟨some 10, _, _, _, _, _⟩) (v := ?_) rfl (by kernel_rfl) (by kernel_rfl) (by kernel_rfl) (fun _ _ _ h => h) (Or.inl ⟨by rfl, ?_⟩) (by assumption) ?_
  rotate_left
  · (intro w hSw; (try dsimp only at hSw); go_simp; try (with_reducible rfl))
  (try simp only [Act.put, List.setIfInBounds_toArray, List.set_cons_zero, List.set_cons_succ])
  refine wpAnyH_done (by kernel_rfl) ?_ _
  go_wp2
  refine wp_region_held_drew (S := (fun W => W.cell? ⟨w.heap.size, 0, none⟩ = some (.int .u8 s.k) ∧ W.cell? ⟨w.heap.size, 1, none⟩ = some (.string s.s) ∧ W.cell? ⟨w.heap.size, 2, none⟩ = some (.int .i64 s.n) ∧ W.cell? ⟨w.heap.size, 3, none⟩ = some us ∧ W.cell? ⟨w.heap.size + 1, 0, none⟩ = some (.int .u8 t.k) ∧ W.cell? ⟨w.heap.size + 1, 1, none⟩ = some (.string t.s) ∧ W.cell? ⟨w.heap.size + 1, 2, none⟩ = some (.int .i64 t.n) ∧ W.cell? ⟨w.heap.size + 1, 3, none⟩ = some ut)) (by kernel_rfl) ?_ (fun hHeld => ?_)
  · exact (h.then (Below.refl _ _).drew).cells
  change wpAnyH _ .any _ _ _ 11 (Array.replicate 11 false) _ _
  refine wpAnyH_take (i := 1) (oi := ⟨some 50, _, _, _, _, _⟩) (v := ?_) rfl (by kernel_rfl) (by kernel_rfl) (by kernel_rfl) (fun _ _ _ h => h) (Or.inl ⟨by rfl, ?_⟩) (by assumption) ?_
  rotate_left
  · (intro w hSw; (try dsimp only at hSw); go_simp; try (with_reducible rfl))
  (try simp only [Act.put, List.setIfInBounds_toArray, List.set_cons_zero, List.set_cons_succ])
  refine wpAnyH_take (i := 2) (oi := ⟨some 51, _, _, _, _, _⟩) (v := ?_) rfl (by kernel_rfl) (by kernel_rfl) (by kernel_rfl) (fun _ _ _ h => h) (Or.inl ⟨by rfl, ?_⟩) (by assumption) ?_
  rotate_left
  · (intro w hSw; (try dsimp only at hSw); go_simp; try (with_reducible rfl))
  (try simp only [Act.put, List.setIfInBounds_toArray, List.set_cons_zero, List.set_cons_succ])
  replace h := h.then (Below.refl _ _).drew
  replace hs1 := hs1.below (Below.refl _ _).drew
  refine wpAnyH_ready (rs := [0]) (by kernel_rfl) (by simp) ?_
  refine AllReadyH.cons (o := ⟨some 49, _, _, _, _, _⟩) rfl (fun K hK => ?_) AllReadyH.nil
  go_simp
  go_at_call 19
  refine (New_c _ (fun _ => True)).mono ?_
  rintro e w4 ⟨⟨q, c, rfl, hn, -, -⟩, hb1⟩
  replace h := h.then hb1
  replace hs1 := hs1.below hb1
  clear hb1
  go_wp2_with fail
  refine hK.out _ _ h.cells (fun hHeld => ?_)
  clear hK K
  (try simp only [Act.put, List.setIfInBounds_toArray, List.set_cons_zero, List.set_cons_succ])
  refine wpAnyH_ready (rs := [3]) (by kernel_rfl) (by simp) ?_
  refine AllReadyH.cons (o := ⟨some 52, _, _, _, _, _⟩) rfl (fun K hK => ?_) AllReadyH.nil
  go_simp
  go_at_call 18
  have hq := Unify_c [] q c s s _ _ _ _ _ _ hn ⟨_, rfl, h.s1⟩ ⟨_, rfl, h.s1⟩ WS.out WS.out ZS.out ZS.out K5.sm0 (by simp)
  rw [HO3.out] at hq
  refine hq.mono ?_
  clear hq hn
  rintro e w5 ⟨⟨p3, b3, rfl, hs3⟩, hb1⟩
  replace h := h.then hb1
  replace hs1 := hs1.below hb1
  clear hb1
  go_wp2_with fail
  refine hK.out _ _ h.cells (fun hHeld => ?_)
  clear hK K
  (try simp only [Act.put, List.setIfInBounds_toArray, List.set_cons_zero, List.set_cons_succ])
  refine wpAnyH_take (i := 4) (oi := ⟨some 48, _, _, _, _, _⟩) (v := ?_) rfl (by kernel_rfl) (by kernel_rfl) (by kernel_rfl) (fun _ _ _ h => h) (Or.inl ⟨by rfl, ?_⟩) (by assumption) ?_
  rotate_left
  · (intro w hSw; (try dsimp only at hSw); go_simp; try (with_reducible rfl))
  (try simp only [Act.put, List.setIfInBounds_toArray, List.set_cons_zero, List.set_cons_succ])
  refine wpAnyH_take (i := 5) (oi := ⟨some 53, _, _, _, _, _⟩) (v := ?_) rfl (by kernel_rfl) (by kernel_rfl) (by kernel_rfl) (fun _ _ _ h => h) (Or.inl ⟨by rfl, ?_⟩) (by assumption) ?_
  rotate_left
  · (intro w hSw; (try dsimp only at hSw); go_simp; try (with_reducible rfl))
  (try simp only [Act.put, List.setIfInBounds_toArray, List.set_cons_zero, List.set_cons_succ])
  refine wpAnyH_take (i := 6) (oi := ⟨some 54, _, _, _, _, _⟩) (v := ?_) rfl (by kernel_rfl) (by kernel_rfl) (by kernel_rfl) (fun _ _ _ h => h) (Or.inl ⟨by rfl, ?_⟩) (by assumption) ?_
  rotate_left
  · (intro w hSw; (try dsimp only at hSw); go_simp; try (with_reducible rfl))
  (try simp only [Act.put, List.setIfInBounds_toArray, List.set_cons_zero, List.set_cons_succ])
  refine wpAnyH_take (i := 7) (oi := ⟨some 55, _, _, _, _, _⟩) (v := ?_) rfl (by kernel_rfl) (by kernel_rfl) (by kernel_rfl) (fun _ _ _ h => h) (Or.inl ⟨by rfl, ?_⟩) (by assumption) ?_
  rotate_left
  · (intro w hSw; (try dsimp only at hSw); go_simp; try (with_reducible rfl))
  (try simp only [Act.put, List.setIfInBounds_toArray, List.set_cons_zero, List.set_cons_succ])
  refine wpAnyH_take (i := 8) (oi := ⟨some 11, _, _, _, _, _⟩) (v := ?_) rfl (by kernel_rfl) (by kernel_rfl) (by kernel_rfl) (fun _ _ _ h => h) (Or.inl ⟨by rfl, ?_⟩) (by assumption) ?_
  rotate_left
  · (intro w hSw; (try dsimp only at hSw); go_simp; try (with_reducible rfl))
  (try simp only [Act.put, List.setIfInBounds_toArray, List.set_cons_zero, List.set_cons_succ])
  refine wpAnyH_take (i := 9) (oi := ⟨some 12, _, _, _, _, _⟩) (v := ?_) rfl (by kernel_rfl) (by kernel_rfl) (by kernel_rfl) (fun _ _ _ h => h) (Or.inl ⟨by rfl, ?_⟩) (by assumption) ?_
  rotate_left
  · (intro w hSw; (try dsimp only at hSw); go_simp; try (with_reducible rfl))
  (try simp only [Act.put, List.setIfInBounds_toArray, List.set_cons_zero, List.set_cons_succ])
  refine wpAnyH_take (i := 10) (oi := ⟨some 13, _, _, _, _, _⟩) (v := ?_) rfl (by kernel_rfl) (by kernel_rfl) (by kernel_rfl) (fun _ _ _ h => h) (Or.inl ⟨by rfl, ?_⟩) (by assumption) ?_
  rotate_left
  · (intro w hSw; (try dsimp only at hSw); go_simp; try (with_reducible rfl))
  (try simp only [Act.put, List.setIfInBounds_toArray, List.set_cons_zero, List.set_cons_succ])
  refine wpAnyH_done (by kernel_rfl) ?_ _
  obtain ⟨c0, c1, c2, c3, d0, d1, d2, d3⟩ := h.cells
  go_wp2_with (first
    | (go_at_call_has 20 (Value.pointer (some ⟨p3, 0, none⟩)); refine (sLen_c [] p3 b3 _ _ hs3).mono ?_; rintro e w6 ⟨rfl, hb1⟩; replace h := h.then hb1; replace hs1 := hs1.below hb1; replace hs3 := hs3.below hb1; clear hb1 c0 c1 c2 c3 d0 d1 d2 d3; obtain ⟨c0, c1, c2, c3, d0, d1, d2, d3⟩ := h.cells)
    | (go_at_call 17; refine (wakes04_c _).mono ?_; rintro e w8 ⟨rfl, hb1⟩; replace h := h.then hb1; replace hs1 := hs1.below hb1; replace hs3 := hs3.below hb1))
  go_ret
  exact ⟨rfl, h.b0⟩
set_option maxRecDepth 100000 in
set_option maxHeartbeats 16000000 in
theorem turns_yes_yes_full {w W3 : World} {s t : Tm} {us ut : Value} {n3 : Nat} {l : Bs} {n : Nat} {l2 : Bs} {n2 : Nat}
    (HG : Hid (Calls Try.prog 15 #[.slice (some ⟨w.heap.size + 1 + 1, 0, none⟩) 2 2] W3 fun e w' => e = .returned (.bool false) ∧ Below W3.heap.size W3 w'))
    (HK : Hid (Kt w s t us ut W3))
    (HW3 : Hid (W3 = (((w.alloc (.cells #[.int .u8 s.k, .string s.s, .int .i64 s.n, us] 24)).alloc (.cells #[.int .u8 t.k, .string t.s, .int .i64 t.n, ut] 24)).alloc (.cells #[.int .u8 s.k, .string s.s, .int .i64 s.n, us, .int .u8 t.k, .string t.s, .int .i64 t.n, ut] 24))))
    (WS : Hid s.Wf) (WT : Hid t.Wf) (ZS : Hid (s.siz ≤ 1000000)) (ZT : Hid (t.siz ≤ 1000000)) (HG1 : Hid (s.good = true)) (HG2 : Hid (t.good = true)) (HO3 : Hid (un 4098 0 [] [(s, s)] = .yes [] n3))
    (HO1 : Hid (un 4098 0 [] [(s, t)] = .yes l n)) (HO2 : Hid (un 4098 0 [] [(t, s)] = .yes l2 n2)) (HT : Hid ((∀ v t, ofB l v = some t → t.siz ≤ 1000) ∧ l.length + 0 ≤ ([] : Bs).length + n ∧ n ≤ 4096)) (HO4 : Hid (un 4098 0 l [(s, t)] = .full)) :
    Calls Try.prog 3 #[.agg #[.int .u8 s.k, .string s.s, .int .i64 s.n, us], .agg #[.int .u8 t.k, .string t.s, .int .i64 t.n, ut]] w fun e w' => e = .returned (.bool true) ∧ Below w.heap.size w w' := by
  have m1 : Hid (0 = 0) := Lib.hid rfl
  go_enter Try.func3, Try.ntmps3
  go_wp2_with (first
    | (rw [← HW3.out]; go_at_call 15; refine HG.out.mono ?_; clear HG HW3; rintro e w1 ⟨rfl, hb1⟩; have h := HK.out.then hb1; clear hb1; obtain ⟨c0, c1, c2, c3, d0, d1, d2, d3⟩ := h.cells)
    | (go_at_call 16; have hx := m1.out; clear hx m1; have hq := refGood_c s _ _ _ ⟨_, rfl, h.s1⟩ ZS.out WS.out; rw [HG1.out] at hq; refine hq.mono ?_; clear hq; rintro e w1 ⟨rfl, hb1⟩; replace h := h.then hb1; clear hb1 c0 c1 c2 c3 d0 d1 d2 d3; obtain ⟨c0, c1, c2, c3, d0, d1, d2, d3⟩ := h.cells)
    | (go_at_call 16; have hq := refGood_c t _ _ _ ⟨_, rfl, h.s2⟩ ZT.out WT.out; rw [HG2.out] at hq; refine hq.mono ?_; clear hq; rintro e w1 ⟨rfl, hb1⟩; replace h := h.then hb1; clear hb1 c0 c1 c2 c3 d0 d1 d2 d3; obtain ⟨c0, c1, c2, c3, d0, d1, d2, d3⟩ := h.cells))
  clear c0 c1 c2 c3 d0 d1 d2 d3
  refine wp_region_held_drew (S := (fun W => W.cell? ⟨w.heap.size, 0, none⟩ = some (.int .u8 s.k) ∧ W.cell? ⟨w.heap.size, 1, none⟩ = some (.string s.s) ∧ W.cell? ⟨w.heap.size, 2, none⟩ = some (.int .i64 s.n) ∧ W.cell? ⟨w.heap.size, 3, none⟩ = some us ∧ W.cell? ⟨w.heap.size + 1, 0, none⟩ = some (.int .u8 t.k) ∧ W.cell? ⟨w.heap.size + 1, 1, none⟩ = some (.string t.s) ∧ W.cell? ⟨w.heap.size + 1, 2, none⟩ = some (.int .i64 t.n) ∧ W.cell? ⟨w.heap.size + 1, 3, none⟩ = some ut)) (by kernel_rfl) ?_ (fun hHeld => ?_)
  · exact (h.then (Below.refl _ _).drew).cells
  change wpAnyH _ .any _ _ _ 11 (Array.replicate 11 false) _ _
  refine wpAnyH_take (i := 1) (oi := ⟨some 34, _, _, _, _, _⟩) (v := ?_) rfl (by kernel_rfl) (by kernel_rfl) (by kernel_rfl) (fun _ _ _ h => h) (Or.inl ⟨by rfl, ?_⟩) (by assumption) ?_
  rotate_left
  · (intro w hSw; (try dsimp only at hSw); go_simp; try (with_reducible rfl))
  (try simp only [Act.put, List.setIfInBounds_toArray, List.set_cons_zero, List.set_cons_succ])
  refine wpAnyH_take (i := 2) (oi := ⟨some 35, _, _, _, _, _⟩) (v := ?_) rfl (by kernel_rfl) (by kernel_rfl) (by kernel_rfl) (fun _ _ _ h => h) (Or.inl ⟨by rfl, ?_⟩) (by assumption) ?_
  rotate_left
  · (intro w hSw; (try dsimp only at hSw); go_simp; try (with_reducible rfl))
  (try simp only [Act.put, List.setIfInBounds_toArray, List.set_cons_zero, List.set_cons_succ])
  replace h := h.then (Below.refl _ _).drew
  refine wpAnyH_ready (rs := [0]) (by kernel_rfl) (by simp) ?_
  refine AllReadyH.cons (o := ⟨some 33, _, _, _, _, _⟩) rfl (fun K hK => ?_) AllReadyH.nil
  go_simp
  go_at_call 19
  refine (New_c _ (fun _ => True)).mono ?_
  rintro e w4 ⟨⟨q, c, rfl, hn, -, -⟩, hb1⟩
  replace h := h.then hb1
  clear hb1
  go_wp2_with fail
  refine hK.out _ _ h.cells (fun hHeld => ?_)
  clear hK K
  (try simp only [Act.put, List.setIfInBounds_toArray, List.set_cons_zero, List.set_cons_succ])
  refine wpAnyH_ready (rs := [3]) (by kernel_rfl) (by simp) ?_
  refine AllReadyH.cons (o := ⟨some 36, _, _, _, _, _⟩) rfl (fun K hK => ?_) AllReadyH.nil
  go_simp
  go_at_call 18
  have hq := Unify_c [] q c s t _ _ _ _ _ _ hn ⟨_, rfl, h.s1⟩ ⟨_, rfl, h.s2⟩ WS.out WT.out ZS.out ZT.out K5.sm0 (by simp)
  rw [HO1.out] at hq
  refine hq.mono ?_
  clear hq hn
  rintro e w5 ⟨⟨p1, b1, rfl, hs1⟩, hb1⟩
  replace h := h.then hb1
  clear hb1
  go_wp2_with fail
  refine hK.out _ _ h.cells (fun hHeld => ?_)
  clear hK K
  (try simp only [Act.put, List.setIfInBounds_toArray, List.set_cons_zero, List.set_cons_succ])
  refine wpAnyH_take (i := 4) (oi := ⟨some 32, _, _, _, _, _⟩) (v := ?_) rfl (by kernel_rfl) (by kernel_rfl) (by kernel_rfl) (fun _ _ _ h => h) (Or.inl ⟨by rfl, ?_⟩) (by assumption) ?_
  rotate_left
  · (intro w hSw; (try dsimp only at hSw); go_simp; try (with_reducible rfl))
  (try simp only [Act.put, List.setIfInBounds_toArray, List.set_cons_zero, List.set_cons_succ])
  refine wpAnyH_take (i := 5) (oi := ⟨some 37, _, _, _, _, _⟩) (v := ?_) rfl (by kernel_rfl) (by kernel_rfl) (by kernel_rfl) (fun _ _ _ h => h) (Or.inl ⟨by rfl, ?_⟩) (by assumption) ?_
  rotate_left
  · (intro w hSw; (try dsimp only at hSw); go_simp; try (with_reducible rfl))
  (try simp only [Act.put, List.setIfInBounds_toArray, List.set_cons_zero, List.set_cons_succ])
  refine wpAnyH_take (i := 6) (oi := ⟨some 38, _, _, _, _, _⟩) (v := ?_) rfl (by kernel_rfl) (by kernel_rfl) (by kernel_rfl) (fun _ _ _ h => h) (Or.inl ⟨by rfl, ?_⟩) (by assumption) ?_
  rotate_left
  · (intro w hSw; (try dsimp only at hSw); go_simp; try (with_reducible rfl))
  (try simp only [Act.put, List.setIfInBounds_toArray, List.set_cons_zero, List.set_cons_succ])
  refine wpAnyH_take (i := 7) (oi := ⟨some 39, _, _, _, _, _⟩) (v := ?_) rfl (by kernel_rfl) (by kernel_rfl) (by kernel_rfl) (fun _ _ _ h => h) (Or.inl ⟨by rfl, ?_⟩) (by assumption) ?_
  rotate_left
  · (intro w hSw; (try dsimp only at hSw); go_simp; try (with_reducible rfl))
  (try simp only [Act.put, List.setIfInBounds_toArray, List.set_cons_zero, List.set_cons_succ])
  refine wpAnyH_take (i := 8) (oi := ⟨some 5, _, _, _, _, _⟩) (v := ?_) rfl (by kernel_rfl) (by kernel_rfl) (by kernel_rfl) (fun _ _ _ h => h) (Or.inl ⟨by rfl, ?_⟩) (by assumption) ?_
  rotate_left
  · (intro w hSw; (try dsimp only at hSw); go_simp; try (with_reducible rfl))
  (try simp only [Act.put, List.setIfInBounds_toArray, List.set_cons_zero, List.set_cons_succ])
  refine wpAnyH_take (i := 9) (oi := ⟨some 6, _, _, _, _, _⟩) (v := ?_) rfl (by kernel_rfl) (by kernel_rfl) (by kernel_rfl) (fun _ _ _ h => h) (Or.inl ⟨by rfl, ?_⟩) (by assumption) ?_
  rotate_left
  · (intro w hSw; (try dsimp only at hSw); go_simp; try (with_reducible rfl))
  (try simp only [Act.put, List.setIfInBounds_toArray, List.set_cons_zero, List.set_cons_succ])
  refine wpAnyH_take (i := 10) (oi := ⟨some 7, _, _, _, _, _⟩) (v := ?_) rfl (by kernel_rfl) (by kernel_rfl) (by kernel_rfl) (fun _ _ _ h => h) (Or.inl ⟨by rfl, ?_⟩) (by assumption) ?_
  rotate_left
  · (intro w hSw; (try dsimp only at hSw); go_simp; try (with_reducible rfl))
  (try simp only [Act.put, List.setIfInBounds_toArray, List.set_cons_zero, List.set_cons_succ])
  refine wpAnyH_done (by kernel_rfl) ?_ _
  go_wp2
  refine wp_region_held_drew (S := (fun W => W.cell? ⟨w.heap.size, 0, none⟩ = some (.int .u8 s.k) ∧ W.cell? ⟨w.heap.size, 1, none⟩ = some (.string s.s) ∧ W.cell? ⟨w.heap.size, 2, none⟩ = some (.int .i64 s.n) ∧ W.cell? ⟨w.heap.size, 3, none⟩ = some us ∧ W.cell? ⟨w.heap.size + 1, 0, none⟩ = some (.int .u8 t.k) ∧ W.cell? ⟨w.heap.size + 1, 1, none⟩ = some (.string t.s) ∧ W.cell? ⟨w.heap.size + 1, 2, none⟩ = some (.int .i64 t.n) ∧ W.cell? ⟨w.heap.size + 1, 3, none⟩ = some ut)) (by kernel_rfl) ?_ (fun hHeld => ?_)
  · exact (h.then (Below.refl _ _).drew).cells
  change wpAnyH _ .any _ _ _ 11 (Array.replicate 11 false) _ _
  refine wpAnyH_take (i := 1) (oi := ⟨some 42, _, _, _, _, _⟩) (v := ?_) rfl (by kernel_rfl) (by kernel_rfl) (by kernel_rfl) (fun _ _ _ h => h) (Or.inl ⟨by rfl, ?_⟩) (by assumption) ?_
  rotate_left
  · (intro w hSw; (try dsimp only at hSw); go_simp; try (with_reducible rfl))
  (try simp only [Act.put, List.setIfInBounds_toArray, List.set_cons_zero, List.set_cons_succ])
  refine wpAnyH_take (i := 2) (oi := ⟨some 43, _, _, _, _, _⟩) (v := ?_) rfl (by kernel_rfl) (by kernel_rfl) (by kernel_rfl) (fun _ _ _ h => h) (Or.inl ⟨by rfl, ?_⟩) (by assumption) ?_
  rotate_left
  · (intro w hSw; (try dsimp only at hSw); go_simp; try (with_reducible rfl))
  (try simp only [Act.put, List.setIfInBounds_toArray, List.set_cons_zero, List.set_cons_succ])
  replace h := h.then (Below.refl _ _).drew
  replace hs1 := hs1.below (Below.refl _ _).drew
  refine wpAnyH_ready (rs := [0]) (by kernel_rfl) (by simp) ?_
  refine AllReadyH.cons (o := ⟨some 41, _, _, _, _, _⟩) rfl (fun K hK => ?_) AllReadyH.nil
  go_simp
  go_at_call 19
  refine (New_c _ (fun _ => True)).mono ?_
  rintro e w4 ⟨⟨q, c, rfl, hn, -, -⟩, hb1⟩
  replace h := h.then hb1
  replace hs1 := hs1.below hb1
  clear hb1
  go_wp2_with fail
  refine hK.out _ _ h.cells (fun hHeld => ?_)
  clear hK K
  (try simp only [Act.put, List.setIfInBounds_toArray, List.set_cons_zero, List.set_cons_succ])
  refine wpAnyH_ready (rs := [3]) (by kernel_rfl) (by simp) ?_
  refine AllReadyH.cons (o := ⟨some 44, _, _, _, _, _⟩) rfl (fun K hK => ?_) AllReadyH.nil
  go_simp
  go_at_call 18
  have hq := Unify_c [] q c t s _ _ _ _ _ _ hn ⟨_, rfl, h.s2⟩ ⟨_, rfl, h.s1⟩ WT.out WS.out ZT.out ZS.out K5.sm0 (by simp)
  rw [HO2.out] at hq
  refine hq.mono ?_
  clear hq hn
  rintro e w5 ⟨⟨p2, b2, rfl, hs2⟩, hb1⟩
  replace h := h.then hb1
  replace hs1 := hs1.below hb1
  clear hb1
  go_wp2_with fail
  refine hK.out _ _ h.cells (fun hHeld => ?_)
  clear hK K
  (try simp only [Act.put, List.setIfInBounds_toArray, List.set_cons_zero, List.set_cons_succ])
  refine wpAnyH_take (i := 4) (oi := ⟨some 40, _, _, _, _, _⟩) (v := ?_) rfl (by kernel_rfl) (by kernel_rfl) (by kernel_rfl) (fun _ _ _ h => h) (Or.inl ⟨by rfl, ?_⟩) (by assumption) ?_
  rotate_left
  · (intro w hSw; (try dsimp only at hSw); go_simp; try (with_reducible rfl))
  (try simp only [Act.put, List.setIfInBounds_toArray, List.set_cons_zero, List.set_cons_succ])
  refine wpAnyH_take (i := 5) (oi := ⟨some 45, _, _, _, _, _⟩) (v := ?_) rfl (by kernel_rfl) (by kernel_rfl) (by kernel_rfl) (fun _ _ _ h => h) (Or.inl ⟨by rfl, ?_⟩) (by assumption) ?_
  rotate_left
  · (intro w hSw; (try dsimp only at hSw); go_simp; try (with_reducible rfl))
  (try simp only [Act.put, List.setIfInBounds_toArray, List.set_cons_zero, List.set_cons_succ])
  refine wpAnyH_take (i := 6) (oi := ⟨some 46, _, _, _, _, _⟩) (v := ?_) rfl (by kernel_rfl) (by kernel_rfl) (by kernel_rfl) (fun _ _ _ h => h) (Or.inl ⟨by rfl, ?_⟩) (by assumption) ?_
  rotate_left
  · (intro w hSw; (try dsimp only at hSw); go_simp; try (with_reducible rfl))
  (try simp only [Act.put, List.setIfInBounds_toArray, List.set_cons_zero, List.set_cons_succ])
  refine wpAnyH_take (i := 7) (oi := ⟨some 47, _, _, _, _, _⟩) (v := ?_) rfl (by kernel_rfl) (by kernel_rfl) (by kernel_rfl) (fun _ _ _ h => h) (Or.inl ⟨by rfl, ?_⟩) (by assumption) ?_
  rotate_left
  · (intro w hSw; (try dsimp only at hSw); go_simp; try (with_reducible rfl))
  (try simp only [Act.put, List.setIfInBounds_toArray, List.set_cons_zero, List.set_cons_succ])
  refine wpAnyH_take (i := 8) (oi := ⟨some 8, _, _, _, _, _⟩) (v := ?_) rfl (by kernel_rfl) (by kernel_rfl) (by kernel_rfl) (fun _ _ _ h => h) (Or.inl ⟨by rfl, ?_⟩) (by assumption) ?_
  rotate_left
  · (intro w hSw; (try dsimp only at hSw); go_simp; try (with_reducible rfl))
  (try simp only [Act.put, List.setIfInBounds_toArray, List.set_cons_zero, List.set_cons_succ])
  refine wpAnyH_take (i := 9) (oi := ⟨some 9, _, _, _, _, _⟩) (v := ?_) rfl (by kernel_rfl) (by kernel_rfl) (by kernel_rfl) (fun _ _ _ h => h) (Or.inl ⟨by rfl, ?_⟩) (by assumption) ?_
  rotate_left
  · (intro w hSw; (try dsimp only at hSw); go_simp; try (with_reducible rfl))
  (try simp only [Act.put, List.setIfInBounds_toArray, List.set_cons_zero, List.set_cons_succ])
  refine wpAnyH_take (i := 10) (oi := ⟨some 10, _, _, _, _, _⟩) (v := ?_) rfl (by kernel_rfl) (by kernel_rfl) (by kernel_rfl) (fun _ _ _ h => h) (Or.inl ⟨by rfl, ?_⟩) (by assumption) ?_
  rotate_left
  · (intro w hSw; (try dsimp only at hSw); go_simp; try (with_reducible rfl))
  (try simp only [Act.put, List.setIfInBounds_toArray, List.set_cons_zero, List.set_cons_succ])
  refine wpAnyH_done (by kernel_rfl) ?_ _
  go_wp2
  refine wp_region_held_drew (S := (fun W => W.cell? ⟨w.heap.size, 0, none⟩ = some (.int .u8 s.k) ∧ W.cell? ⟨w.heap.size, 1, none⟩ = some (.string s.s) ∧ W.cell? ⟨w.heap.size, 2, none⟩ = some (.int .i64 s.n) ∧ W.cell? ⟨w.heap.size, 3, none⟩ = some us ∧ W.cell? ⟨w.heap.size + 1, 0, none⟩ = some (.int .u8 t.k) ∧ W.cell? ⟨w.heap.size + 1, 1, none⟩ = some (.string t.s) ∧ W.cell? ⟨w.heap.size + 1, 2, none⟩ = some (.int .i64 t.n) ∧ W.cell? ⟨w.heap.size + 1, 3, none⟩ = some ut)) (by kernel_rfl) ?_ (fun hHeld => ?_)
  · exact (h.then (Below.refl _ _).drew).cells
  change wpAnyH _ .any _ _ _ 11 (Array.replicate 11 false) _ _
  refine wpAnyH_take (i := 1) (oi := ⟨some 50, _, _, _, _, _⟩) (v := ?_) rfl (by kernel_rfl) (by kernel_rfl) (by kernel_rfl) (fun _ _ _ h => h) (Or.inl ⟨by rfl, ?_⟩) (by assumption) ?_
  rotate_left
  · (intro w hSw; (try dsimp only at hSw); go_simp; try (with_reducible rfl))
  (try simp only [Act.put, List.setIfInBounds_toArray, List.set_cons_zero, List.set_cons_succ])
  refine wpAnyH_take (i := 2) (oi := ⟨some 51, _, _, _, _, _⟩) (v := ?_) rfl (by kernel_rfl) (by kernel_rfl) (by kernel_rfl) (fun _ _ _ h => h) (Or.inl ⟨by rfl, ?_⟩) (by assumption) ?_
  rotate_left
  · (intro w hSw; (try dsimp only at hSw); go_simp; try (with_reducible rfl))
  (try simp only [Act.put, List.setIfInBounds_toArray, List.set_cons_zero, List.set_cons_succ])
  replace h := h.then (Below.refl _ _).drew
  replace hs1 := hs1.below (Below.refl _ _).drew
  replace hs2 := hs2.below (Below.refl _ _).drew
  refine wpAnyH_ready (rs := [0]) (by kernel_rfl) (by simp) ?_
  refine AllReadyH.cons (o := ⟨some 49, _, _, _, _, _⟩) rfl (fun K hK => ?_) AllReadyH.nil
  go_simp
  go_at_call 19
  refine (New_c _ (fun _ => True)).mono ?_
  rintro e w4 ⟨⟨q, c, rfl, hn, -, -⟩, hb1⟩
  replace h := h.then hb1
  replace hs1 := hs1.below hb1
  replace hs2 := hs2.below hb1
  clear hb1
  go_wp2_with fail
  refine hK.out _ _ h.cells (fun hHeld => ?_)
  clear hK K
  (try simp only [Act.put, List.setIfInBounds_toArray, List.set_cons_zero, List.set_cons_succ])
  refine wpAnyH_ready (rs := [3]) (by kernel_rfl) (by simp) ?_
  refine AllReadyH.cons (o := ⟨some 52, _, _, _, _, _⟩) rfl (fun K hK => ?_) AllReadyH.nil
  go_simp
  go_at_call 18
  have hq := Unify_c [] q c s s _ _ _ _ _ _ hn ⟨_, rfl, h.s1⟩ ⟨_, rfl, h.s1⟩ WS.out WS.out ZS.out ZS.out K5.sm0 (by simp)
  rw [HO3.out] at hq
  refine hq.mono ?_
  clear hq hn
  rintro e w5 ⟨⟨p3, b3, rfl, hs3⟩, hb1⟩
  replace h := h.then hb1
  replace hs1 := hs1.below hb1
  replace hs2 := hs2.below hb1
  clear hb1
  go_wp2_with fail
  refine hK.out _ _ h.cells (fun hHeld => ?_)
  clear hK K
  (try simp only [Act.put, List.setIfInBounds_toArray, List.set_cons_zero, List.set_cons_succ])
  refine wpAnyH_take (i := 4) (oi := ⟨some 48, _, _, _, _, _⟩) (v := ?_) rfl (by kernel_rfl) (by kernel_rfl) (by kernel_rfl) (fun _ _ _ h => h) (Or.inl ⟨by rfl, ?_⟩) (by assumption) ?_
  rotate_left
  · (intro w hSw; (try dsimp only at hSw); go_simp; try (with_reducible rfl))
  (try simp only [Act.put, List.setIfInBounds_toArray, List.set_cons_zero, List.set_cons_succ])
  refine wpAnyH_take (i := 5) (oi := ⟨some 53, _, _, _, _, _⟩) (v := ?_) rfl (by kernel_rfl) (by kernel_rfl) (by kernel_rfl) (fun _ _ _ h => h) (Or.inl ⟨by rfl, ?_⟩) (by assumption) ?_
  rotate_left
  · (intro w hSw; (try dsimp only at hSw); go_simp; try (with_reducible rfl))
  (try simp only [Act.put, List.setIfInBounds_toArray, List.set_cons_zero, List.set_cons_succ])
  refine wpAnyH_take (i := 6) (oi := ⟨some 54, _, _, _, _, _⟩) (v := ?_) rfl (by kernel_rfl) (by kernel_rfl) (by kernel_rfl) (fun _ _ _ h => h) (Or.inl ⟨by rfl, ?_⟩) (by assumption) ?_
  rotate_left
  · (intro w hSw; (try dsimp only at hSw); go_simp; try (with_reducible rfl))
  (try simp only [Act.put, List.setIfInBounds_toArray, List.set_cons_zero, List.set_cons_succ])
  refine wpAnyH_take (i := 7) (oi := ⟨some 55, _, _, _, _, _⟩) (v := ?_) rfl (by kernel_rfl) (by kernel_rfl) (by kernel_rfl) (fun _ _ _ h => h) (Or.inl ⟨by rfl, ?_⟩) (by assumption) ?_
  rotate_left
  · (intro w hSw; (try dsimp only at hSw); go_simp; try (with_reducible rfl))
  (try simp only [Act.put, List.setIfInBounds_toArray, List.set_cons_zero, List.set_cons_succ])
  refine wpAnyH_take (i := 8) (oi := ⟨some 11, _, _, _, _, _⟩) (v := ?_) rfl (by kernel_rfl) (by kernel_rfl) (by kernel_rfl) (fun _ _ _ h => h) (Or.inl ⟨by rfl, ?_⟩) (by assumption) ?_
  rotate_left
  · (intro w hSw; (try dsimp only at hSw); go_simp; try (with_reducible rfl))
  (try simp only [Act.put, List.setIfInBounds_toArray, List.set_cons_zero, List.set_cons_succ])
  refine wpAnyH_take (i := 9) (oi := ⟨some 12, _, _, _, _, _⟩) (v := ?_) rfl (by kernel_rfl) (by kernel_rfl) (by kernel_rfl) (fun _ _ _ h => h) (Or.inl ⟨by rfl, ?_⟩) (by assumption) ?_
  rotate_left
  · (intro w hSw; (try dsimp only at hSw); go_simp; try (with_reducible rfl))
  (try simp only [Act.put, List.setIfInBounds_toArray, List.set_cons_zero, List.set_cons_succ])
  refine wpAnyH_take (i := 10) (oi := ⟨some 13, _, _, _, _, _⟩) (v := ?_) rfl (by kernel_rfl) (by kernel_rfl) (by kernel_rfl) (fun _ _ _ h => h) (Or.inl ⟨by rfl, ?_⟩) (by assumption) ?_
  rotate_left
  · (intro w hSw; (try dsimp only at hSw); go_simp; try (with_reducible rfl))
  (try simp only [Act.put, List.setIfInBounds_toArray, List.set_cons_zero, List.set_cons_succ])
  refine wpAnyH_done (by kernel_rfl) ?_ _
  obtain ⟨c0, c1, c2, c3, d0, d1, d2, d3⟩ := h.cells
  go_wp2_with (first
    | (go_at_call_has 20 (Value.pointer (some ⟨p3, 0, none⟩)); refine (sLen_c [] p3 b3 _ _ hs3).mono ?_; rintro e w6 ⟨rfl, hb1⟩; replace h := h.then hb1; replace hs1 := hs1.below hb1; replace hs2 := hs2.below hb1; replace hs3 := hs3.below hb1; clear hb1 c0 c1 c2 c3 d0 d1 d2 d3; obtain ⟨c0, c1, c2, c3, d0, d1, d2, d3⟩ := h.cells)
    | (go_at_call 18; have hq := Unify_c l p1 b1 s t _ _ _ _ _ _ hs1 ⟨_, rfl, h.s1⟩ ⟨_, rfl, h.s2⟩ WS.out WT.out ZS.out ZT.out (fun v t h => Nat.le_trans (HT.out.1 v t h) (by omega)) (by have := HT.out.2; simp at this; omega); rw [HO4.out] at hq; refine hq.mono ?_; clear hq; rintro e w7 ⟨rfl, hb1⟩; replace h := h.then hb1; replace hs1 := hs1.below hb1; replace hs2 := hs2.below hb1; replace hs3 := hs3.below hb1; clear hb1 c0 c1 c2 c3 d0 d1 d2 d3; obtain ⟨c0, c1, c2, c3, d0, d1, d2, d3⟩ := h.cells)
    | (go_at_call 17; refine (wakes04_c _).mono ?_; rintro e w8 ⟨rfl, hb1⟩; replace h := h.then hb1; replace hs1 := hs1.below hb1; replace hs2 := hs2.below hb1; replace hs3 := hs3.below hb1))
  go_ret
  exact ⟨rfl, h.b0⟩
set_option maxRecDepth 100000 in
set_option maxHeartbeats 16000000 in
theorem turns_yes_yes_yes {w W3 : World} {s t : Tm} {us ut : Value} {n3 : Nat} {l : Bs} {n : Nat} {l2 : Bs} {n2 : Nat} {n4 : Nat}
    (HG : Hid (Calls Try.prog 15 #[.slice (some ⟨w.heap.size + 1 + 1, 0, none⟩) 2 2] W3 fun e w' => e = .returned (.bool false) ∧ Below W3.heap.size W3 w'))
    (HK : Hid (Kt w s t us ut W3))
    (HW3 : Hid (W3 = (((w.alloc (.cells #[.int .u8 s.k, .string s.s, .int .i64 s.n, us] 24)).alloc (.cells #[.int .u8 t.k, .string t.s, .int .i64 t.n, ut] 24)).alloc (.cells #[.int .u8 s.k, .string s.s, .int .i64 s.n, us, .int .u8 t.k, .string t.s, .int .i64 t.n, ut] 24))))
    (WS : Hid s.Wf) (WT : Hid t.Wf) (ZS : Hid (s.siz ≤ 1000000)) (ZT : Hid (t.siz ≤ 1000000)) (HG1 : Hid (s.good = true)) (HG2 : Hid (t.good = true)) (HO3 : Hid (un 4098 0 [] [(s, s)] = .yes [] n3))
    (HO1 : Hid (un 4098 0 [] [(s, t)] = .yes l n)) (HO2 : Hid (un 4098 0 [] [(t, s)] = .yes l2 n2)) (HT : Hid ((∀ v t, ofB l v = some t → t.siz ≤ 1000) ∧ l.length + 0 ≤ ([] : Bs).length + n ∧ n ≤ 4096)) (HO4 : Hid (un 4098 0 l [(s, t)] = .yes l n4)) :
    Calls Try.prog 3 #[.agg #[.int .u8 s.k, .string s.s, .int .i64 s.n, us], .agg #[.int .u8 t.k, .string t.s, .int .i64 t.n, ut]] w fun e w' => e = .returned (.bool true) ∧ Below w.heap.size w w' := by
  have m1 : Hid (0 = 0) := Lib.hid rfl
  go_enter Try.func3, Try.ntmps3
  go_wp2_with (first
    | (rw [← HW3.out]; go_at_call 15; refine HG.out.mono ?_; clear HG HW3; rintro e w1 ⟨rfl, hb1⟩; have h := HK.out.then hb1; clear hb1; obtain ⟨c0, c1, c2, c3, d0, d1, d2, d3⟩ := h.cells)
    | (go_at_call 16; have hx := m1.out; clear hx m1; have hq := refGood_c s _ _ _ ⟨_, rfl, h.s1⟩ ZS.out WS.out; rw [HG1.out] at hq; refine hq.mono ?_; clear hq; rintro e w1 ⟨rfl, hb1⟩; replace h := h.then hb1; clear hb1 c0 c1 c2 c3 d0 d1 d2 d3; obtain ⟨c0, c1, c2, c3, d0, d1, d2, d3⟩ := h.cells)
    | (go_at_call 16; have hq := refGood_c t _ _ _ ⟨_, rfl, h.s2⟩ ZT.out WT.out; rw [HG2.out] at hq; refine hq.mono ?_; clear hq; rintro e w1 ⟨rfl, hb1⟩; replace h := h.then hb1; clear hb1 c0 c1 c2 c3 d0 d1 d2 d3; obtain ⟨c0, c1, c2, c3, d0, d1, d2, d3⟩ := h.cells))
  clear c0 c1 c2 c3 d0 d1 d2 d3
  refine wp_region_held_drew (S := (fun W => W.cell? ⟨w.heap.size, 0, none⟩ = some (.int .u8 s.k) ∧ W.cell? ⟨w.heap.size, 1, none⟩ = some (.string s.s) ∧ W.cell? ⟨w.heap.size, 2, none⟩ = some (.int .i64 s.n) ∧ W.cell? ⟨w.heap.size, 3, none⟩ = some us ∧ W.cell? ⟨w.heap.size + 1, 0, none⟩ = some (.int .u8 t.k) ∧ W.cell? ⟨w.heap.size + 1, 1, none⟩ = some (.string t.s) ∧ W.cell? ⟨w.heap.size + 1, 2, none⟩ = some (.int .i64 t.n) ∧ W.cell? ⟨w.heap.size + 1, 3, none⟩ = some ut)) (by kernel_rfl) ?_ (fun hHeld => ?_)
  · exact (h.then (Below.refl _ _).drew).cells
  change wpAnyH _ .any _ _ _ 11 (Array.replicate 11 false) _ _
  refine wpAnyH_take (i := 1) (oi := ⟨some 34, _, _, _, _, _⟩) (v := ?_) rfl (by kernel_rfl) (by kernel_rfl) (by kernel_rfl) (fun _ _ _ h => h) (Or.inl ⟨by rfl, ?_⟩) (by assumption) ?_
  rotate_left
  · (intro w hSw; (try dsimp only at hSw); go_simp; try (with_reducible rfl))
  (try simp only [Act.put, List.setIfInBounds_toArray, List.set_cons_zero, List.set_cons_succ])
  refine wpAnyH_take (i := 2) (oi := ⟨some 35, _, _, _, _, _⟩) (v := ?_) rfl (by kernel_rfl) (by kernel_rfl) (by kernel_rfl) (fun _ _ _ h => h) (Or.inl ⟨by rfl, ?_⟩) (by assumption) ?_
  rotate_left
  · (intro w hSw; (try dsimp only at hSw); go_simp; try (with_reducible rfl))
  (try simp only [Act.put, List.setIfInBounds_toArray, List.set_cons_zero, List.set_cons_succ])
  replace h := h.then (Below.refl _ _).drew
  refine wpAnyH_ready (rs := [0]) (by kernel_rfl) (by simp) ?_
  refine AllReadyH.cons (o := ⟨some 33, _, _, _, _, _⟩) rfl (fun K hK => ?_) AllReadyH.nil
  go_simp
  go_at_call 19
  refine (New_c _ (fun _ => True)).mono ?_
  rintro e w4 ⟨⟨q, c, rfl, hn, -, -⟩, hb1⟩
  replace h := h.then hb1
  clear hb1
  go_wp2_with fail
  refine hK.out _ _ h.cells (fun hHeld => ?_)
  clear hK K
  (try simp only [Act.put, List.setIfInBounds_toArray, List.set_cons_zero, List.set_cons_succ])
  refine wpAnyH_ready (rs := [3]) (by kernel_rfl) (by simp) ?_
  refine AllReadyH.cons (o := ⟨some 36, _, _, _, _, _⟩) rfl (fun K hK => ?_) AllReadyH.nil
  go_simp
  go_at_call 18
  have hq := Unify_c [] q c s t _ _ _ _ _ _ hn ⟨_, rfl, h.s1⟩ ⟨_, rfl, h.s2⟩ WS.out WT.out ZS.out ZT.out K5.sm0 (by simp)
  rw [HO1.out] at hq
  refine hq.mono ?_
  clear hq hn
  rintro e w5 ⟨⟨p1, b1, rfl, hs1⟩, hb1⟩
  replace h := h.then hb1
  clear hb1
  go_wp2_with fail
  refine hK.out _ _ h.cells (fun hHeld => ?_)
  clear hK K
  (try simp only [Act.put, List.setIfInBounds_toArray, List.set_cons_zero, List.set_cons_succ])
  refine wpAnyH_take (i := 4) (oi := ⟨some 32, _, _, _, _, _⟩) (v := ?_) rfl (by kernel_rfl) (by kernel_rfl) (by kernel_rfl) (fun _ _ _ h => h) (Or.inl ⟨by rfl, ?_⟩) (by assumption) ?_
  rotate_left
  · (intro w hSw; (try dsimp only at hSw); go_simp; try (with_reducible rfl))
  (try simp only [Act.put, List.setIfInBounds_toArray, List.set_cons_zero, List.set_cons_succ])
  refine wpAnyH_take (i := 5) (oi := ⟨some 37, _, _, _, _, _⟩) (v := ?_) rfl (by kernel_rfl) (by kernel_rfl) (by kernel_rfl) (fun _ _ _ h => h) (Or.inl ⟨by rfl, ?_⟩) (by assumption) ?_
  rotate_left
  · (intro w hSw; (try dsimp only at hSw); go_simp; try (with_reducible rfl))
  (try simp only [Act.put, List.setIfInBounds_toArray, List.set_cons_zero, List.set_cons_succ])
  refine wpAnyH_take (i := 6) (oi := ⟨some 38, _, _, _, _, _⟩) (v := ?_) rfl (by kernel_rfl) (by kernel_rfl) (by kernel_rfl) (fun _ _ _ h => h) (Or.inl ⟨by rfl, ?_⟩) (by assumption) ?_
  rotate_left
  · (intro w hSw; (try dsimp only at hSw); go_simp; try (with_reducible rfl))
  (try simp only [Act.put, List.setIfInBounds_toArray, List.set_cons_zero, List.set_cons_succ])
  refine wpAnyH_take (i := 7) (oi := ⟨some 39, _, _, _, _, _⟩) (v := ?_) rfl (by kernel_rfl) (by kernel_rfl) (by kernel_rfl) (fun _ _ _ h => h) (Or.inl ⟨by rfl, ?_⟩) (by assumption) ?_
  rotate_left
  · (intro w hSw; (try dsimp only at hSw); go_simp; try (with_reducible rfl))
  (try simp only [Act.put, List.setIfInBounds_toArray, List.set_cons_zero, List.set_cons_succ])
  refine wpAnyH_take (i := 8) (oi := ⟨some 5, _, _, _, _, _⟩) (v := ?_) rfl (by kernel_rfl) (by kernel_rfl) (by kernel_rfl) (fun _ _ _ h => h) (Or.inl ⟨by rfl, ?_⟩) (by assumption) ?_
  rotate_left
  · (intro w hSw; (try dsimp only at hSw); go_simp; try (with_reducible rfl))
  (try simp only [Act.put, List.setIfInBounds_toArray, List.set_cons_zero, List.set_cons_succ])
  refine wpAnyH_take (i := 9) (oi := ⟨some 6, _, _, _, _, _⟩) (v := ?_) rfl (by kernel_rfl) (by kernel_rfl) (by kernel_rfl) (fun _ _ _ h => h) (Or.inl ⟨by rfl, ?_⟩) (by assumption) ?_
  rotate_left
  · (intro w hSw; (try dsimp only at hSw); go_simp; try (with_reducible rfl))
  (try simp only [Act.put, List.setIfInBounds_toArray, List.set_cons_zero, List.set_cons_succ])
  refine wpAnyH_take (i := 10) (oi := ⟨some 7, _, _, _, _, _⟩) (v := ?_) rfl (by kernel_rfl) (by kernel_rfl) (by kernel_rfl) (fun _ _ _ h => h) (Or.inl ⟨by rfl, ?_⟩) (by assumption) ?_
  rotate_left
  · (intro w hSw; (try dsimp only at hSw); go_simp; try (with_reducible rfl))
  (try simp only [Act.put, List.setIfInBounds_toArray, List.set_cons_zero, List.set_cons_succ])
  refine wpAnyH_done (by kernel_rfl) ?_ _
  go_wp2
  refine wp_region_held_drew (S := (fun W => W.cell? ⟨w.heap.size, 0, none⟩ = some (.int .u8 s.k) ∧ W.cell? ⟨w.heap.size, 1, none⟩ = some (.string s.s) ∧ W.cell? ⟨w.heap.size, 2, none⟩ = some (.int .i64 s.n) ∧ W.cell? ⟨w.heap.size, 3, none⟩ = some us ∧ W.cell? ⟨w.heap.size + 1, 0, none⟩ = some (.int .u8 t.k) ∧ W.cell? ⟨w.heap.size + 1, 1, none⟩ = some (.string t.s) ∧ W.cell? ⟨w.heap.size + 1, 2, none⟩ = some (.int .i64 t.n) ∧ W.cell? ⟨w.heap.size + 1, 3, none⟩ = some ut)) (by kernel_rfl) ?_ (fun hHeld => ?_)
  · exact (h.then (Below.refl _ _).drew).cells
  change wpAnyH _ .any _ _ _ 11 (Array.replicate 11 false) _ _
  refine wpAnyH_take (i := 1) (oi := ⟨some 42, _, _, _, _, _⟩) (v := ?_) rfl (by kernel_rfl) (by kernel_rfl) (by kernel_rfl) (fun _ _ _ h => h) (Or.inl ⟨by rfl, ?_⟩) (by assumption) ?_
  rotate_left
  · (intro w hSw; (try dsimp only at hSw); go_simp; try (with_reducible rfl))
  (try simp only [Act.put, List.setIfInBounds_toArray, List.set_cons_zero, List.set_cons_succ])
  refine wpAnyH_take (i := 2) (oi := ⟨some 43, _, _, _, _, _⟩) (v := ?_) rfl (by kernel_rfl) (by kernel_rfl) (by kernel_rfl) (fun _ _ _ h => h) (Or.inl ⟨by rfl, ?_⟩) (by assumption) ?_
  rotate_left
  · (intro w hSw; (try dsimp only at hSw); go_simp; try (with_reducible rfl))
  (try simp only [Act.put, List.setIfInBounds_toArray, List.set_cons_zero, List.set_cons_succ])
  replace h := h.then (Below.refl _ _).drew
  replace hs1 := hs1.below (Below.refl _ _).drew
  refine wpAnyH_ready (rs := [0]) (by kernel_rfl) (by simp) ?_
  refine AllReadyH.cons (o := ⟨some 41, _, _, _, _, _⟩) rfl (fun K hK => ?_) AllReadyH.nil
  go_simp
  go_at_call 19
  refine (New_c _ (fun _ => True)).mono ?_
  rintro e w4 ⟨⟨q, c, rfl, hn, -, -⟩, hb1⟩
  replace h := h.then hb1
  replace hs1 := hs1.below hb1
  clear hb1
  go_wp2_with fail
  refine hK.out _ _ h.cells (fun hHeld => ?_)
  clear hK K
  (try simp only [Act.put, List.setIfInBounds_toArray, List.set_cons_zero, List.set_cons_succ])
  refine wpAnyH_ready (rs := [3]) (by kernel_rfl) (by simp) ?_
  refine AllReadyH.cons (o := ⟨some 44, _, _, _, _, _⟩) rfl (fun K hK => ?_) AllReadyH.nil
  go_simp
  go_at_call 18
  have hq := Unify_c [] q c t s _ _ _ _ _ _ hn ⟨_, rfl, h.s2⟩ ⟨_, rfl, h.s1⟩ WT.out WS.out ZT.out ZS.out K5.sm0 (by simp)
  rw [HO2.out] at hq
  refine hq.mono ?_
  clear hq hn
  rintro e w5 ⟨⟨p2, b2, rfl, hs2⟩, hb1⟩
  replace h := h.then hb1
  replace hs1 := hs1.below hb1
  clear hb1
  go_wp2_with fail
  refine hK.out _ _ h.cells (fun hHeld => ?_)
  clear hK K
  (try simp only [Act.put, List.setIfInBounds_toArray, List.set_cons_zero, List.set_cons_succ])
  refine wpAnyH_take (i := 4) (oi := ⟨some 40, _, _, _, _, _⟩) (v := ?_) rfl (by kernel_rfl) (by kernel_rfl) (by kernel_rfl) (fun _ _ _ h => h) (Or.inl ⟨by rfl, ?_⟩) (by assumption) ?_
  rotate_left
  · (intro w hSw; (try dsimp only at hSw); go_simp; try (with_reducible rfl))
  (try simp only [Act.put, List.setIfInBounds_toArray, List.set_cons_zero, List.set_cons_succ])
  refine wpAnyH_take (i := 5) (oi := ⟨some 45, _, _, _, _, _⟩) (v := ?_) rfl (by kernel_rfl) (by kernel_rfl) (by kernel_rfl) (fun _ _ _ h => h) (Or.inl ⟨by rfl, ?_⟩) (by assumption) ?_
  rotate_left
  · (intro w hSw; (try dsimp only at hSw); go_simp; try (with_reducible rfl))
  (try simp only [Act.put, List.setIfInBounds_toArray, List.set_cons_zero, List.set_cons_succ])
  refine wpAnyH_take (i := 6) (oi := ⟨some 46, _, _, _, _, _⟩) (v := ?_) rfl (by kernel_rfl) (by kernel_rfl) (by kernel_rfl) (fun _ _ _ h => h) (Or.inl ⟨by rfl, ?_⟩) (by assumption) ?_
  rotate_left
  · (intro w hSw; (try dsimp only at hSw); go_simp; try (with_reducible rfl))
  (try simp only [Act.put, List.setIfInBounds_toArray, List.set_cons_zero, List.set_cons_succ])
  refine wpAnyH_take (i := 7) (oi := ⟨some 47, _, _, _, _, _⟩) (v := ?_) rfl (by kernel_rfl) (by kernel_rfl) (by kernel_rfl) (fun _ _ _ h => h) (Or.inl ⟨by rfl, ?_⟩) (by assumption) ?_
  rotate_left
  · (intro w hSw; (try dsimp only at hSw); go_simp; try (with_reducible rfl))
  (try simp only [Act.put, List.setIfInBounds_toArray, List.set_cons_zero, List.set_cons_succ])
  refine wpAnyH_take (i := 8) (oi := ⟨some 8, _, _, _, _, _⟩) (v := ?_) rfl (by kernel_rfl) (by kernel_rfl) (by kernel_rfl) (fun _ _ _ h => h) (Or.inl ⟨by rfl, ?_⟩) (by assumption) ?_
  rotate_left
  · (intro w hSw; (try dsimp only at hSw); go_simp; try (with_reducible rfl))
  (try simp only [Act.put, List.setIfInBounds_toArray, List.set_cons_zero, List.set_cons_succ])
  refine wpAnyH_take (i := 9) (oi := ⟨some 9, _, _, _, _, _⟩) (v := ?_) rfl (by kernel_rfl) (by kernel_rfl) (by kernel_rfl) (fun _ _ _ h => h) (Or.inl ⟨by rfl, ?_⟩) (by assumption) ?_
  rotate_left
  · (intro w hSw; (try dsimp only at hSw); go_simp; try (with_reducible rfl))
  (try simp only [Act.put, List.setIfInBounds_toArray, List.set_cons_zero, List.set_cons_succ])
  refine wpAnyH_take (i := 10) (oi := ⟨some 10, _, _, _, _, _⟩) (v := ?_) rfl (by kernel_rfl) (by kernel_rfl) (by kernel_rfl) (fun _ _ _ h => h) (Or.inl ⟨by rfl, ?_⟩) (by assumption) ?_
  rotate_left
  · (intro w hSw; (try dsimp only at hSw); go_simp; try (with_reducible rfl))
  (try simp only [Act.put, List.setIfInBounds_toArray, List.set_cons_zero, List.set_cons_succ])
  refine wpAnyH_done (by kernel_rfl) ?_ _
  go_wp2
  refine wp_region_held_drew (S := (fun W => W.cell? ⟨w.heap.size, 0, none⟩ = some (.int .u8 s.k) ∧ W.cell? ⟨w.heap.size, 1, none⟩ = some (.string s.s) ∧ W.cell? ⟨w.heap.size, 2, none⟩ = some (.int .i64 s.n) ∧ W.cell? ⟨w.heap.size, 3, none⟩ = some us ∧ W.cell? ⟨w.heap.size + 1, 0, none⟩ = some (.int .u8 t.k) ∧ W.cell? ⟨w.heap.size + 1, 1, none⟩ = some (.string t.s) ∧ W.cell? ⟨w.heap.size + 1, 2, none⟩ = some (.int .i64 t.n) ∧ W.cell? ⟨w.heap.size + 1, 3, none⟩ = some ut)) (by kernel_rfl) ?_ (fun hHeld => ?_)
  · exact (h.then (Below.refl _ _).drew).cells
  change wpAnyH _ .any _ _ _ 11 (Array.replicate 11 false) _ _
  refine wpAnyH_take (i := 1) (oi := ⟨some 50, _, _, _, _, _⟩) (v := ?_) rfl (by kernel_rfl) (by kernel_rfl) (by kernel_rfl) (fun _ _ _ h => h) (Or.inl ⟨by rfl, ?_⟩) (by assumption) ?_
  rotate_left
  · (intro w hSw; (try dsimp only at hSw); go_simp; try (with_reducible rfl))
  (try simp only [Act.put, List.setIfInBounds_toArray, List.set_cons_zero, List.set_cons_succ])
  refine wpAnyH_take (i := 2) (oi := ⟨some 51, _, _, _, _, _⟩) (v := ?_) rfl (by kernel_rfl) (by kernel_rfl) (by kernel_rfl) (fun _ _ _ h => h) (Or.inl ⟨by rfl, ?_⟩) (by assumption) ?_
  rotate_left
  · (intro w hSw; (try dsimp only at hSw); go_simp; try (with_reducible rfl))
  (try simp only [Act.put, List.setIfInBounds_toArray, List.set_cons_zero, List.set_cons_succ])
  replace h := h.then (Below.refl _ _).drew
  replace hs1 := hs1.below (Below.refl _ _).drew
  replace hs2 := hs2.below (Below.refl _ _).drew
  refine wpAnyH_ready (rs := [0]) (by kernel_rfl) (by simp) ?_
  refine AllReadyH.cons (o := ⟨some 49, _, _, _, _, _⟩) rfl (fun K hK => ?_) AllReadyH.nil
  go_simp
  go_at_call 19
  refine (New_c _ (fun _ => True)).mono ?_
  rintro e w4 ⟨⟨q, c, rfl, hn, -, -⟩, hb1⟩
  replace h := h.then hb1
  replace hs1 := hs1.below hb1
  replace hs2 := hs2.below hb1
  clear hb1
  go_wp2_with fail
  refine hK.out _ _ h.cells (fun hHeld => ?_)
  clear hK K
  (try simp only [Act.put, List.setIfInBounds_toArray, List.set_cons_zero, List.set_cons_succ])
  refine wpAnyH_ready (rs := [3]) (by kernel_rfl) (by simp) ?_
  refine AllReadyH.cons (o := ⟨some 52, _, _, _, _, _⟩) rfl (fun K hK => ?_) AllReadyH.nil
  go_simp
  go_at_call 18
  have hq := Unify_c [] q c s s _ _ _ _ _ _ hn ⟨_, rfl, h.s1⟩ ⟨_, rfl, h.s1⟩ WS.out WS.out ZS.out ZS.out K5.sm0 (by simp)
  rw [HO3.out] at hq
  refine hq.mono ?_
  clear hq hn
  rintro e w5 ⟨⟨p3, b3, rfl, hs3⟩, hb1⟩
  replace h := h.then hb1
  replace hs1 := hs1.below hb1
  replace hs2 := hs2.below hb1
  clear hb1
  go_wp2_with fail
  refine hK.out _ _ h.cells (fun hHeld => ?_)
  clear hK K
  (try simp only [Act.put, List.setIfInBounds_toArray, List.set_cons_zero, List.set_cons_succ])
  refine wpAnyH_take (i := 4) (oi := ⟨some 48, _, _, _, _, _⟩) (v := ?_) rfl (by kernel_rfl) (by kernel_rfl) (by kernel_rfl) (fun _ _ _ h => h) (Or.inl ⟨by rfl, ?_⟩) (by assumption) ?_
  rotate_left
  · (intro w hSw; (try dsimp only at hSw); go_simp; try (with_reducible rfl))
  (try simp only [Act.put, List.setIfInBounds_toArray, List.set_cons_zero, List.set_cons_succ])
  refine wpAnyH_take (i := 5) (oi := ⟨some 53, _, _, _, _, _⟩) (v := ?_) rfl (by kernel_rfl) (by kernel_rfl) (by kernel_rfl) (fun _ _ _ h => h) (Or.inl ⟨by rfl, ?_⟩) (by assumption) ?_
  rotate_left
  · (intro w hSw; (try dsimp only at hSw); go_simp; try (with_reducible rfl))
  (try simp only [Act.put, List.setIfInBounds_toArray, List.set_cons_zero, List.set_cons_succ])
  refine wpAnyH_take (i := 6) (oi := ⟨some 54, _, _, _, _, _⟩) (v := ?_) rfl (by kernel_rfl) (by kernel_rfl) (by kernel_rfl) (fun _ _ _ h => h) (Or.inl ⟨by rfl, ?_⟩) (by assumption) ?_
  rotate_left
  · (intro w hSw; (try dsimp only at hSw); go_simp; try (with_reducible rfl))
  (try simp only [Act.put, List.setIfInBounds_toArray, List.set_cons_zero, List.set_cons_succ])
  refine wpAnyH_take (i := 7) (oi := ⟨some 55, _, _, _, _, _⟩) (v := ?_) rfl (by kernel_rfl) (by kernel_rfl) (by kernel_rfl) (fun _ _ _ h => h) (Or.inl ⟨by rfl, ?_⟩) (by assumption) ?_
  rotate_left
  · (intro w hSw; (try dsimp only at hSw); go_simp; try (with_reducible rfl))
  (try simp only [Act.put, List.setIfInBounds_toArray, List.set_cons_zero, List.set_cons_succ])
  refine wpAnyH_take (i := 8) (oi := ⟨some 11, _, _, _, _, _⟩) (v := ?_) rfl (by kernel_rfl) (by kernel_rfl) (by kernel_rfl) (fun _ _ _ h => h) (Or.inl ⟨by rfl, ?_⟩) (by assumption) ?_
  rotate_left
  · (intro w hSw; (try dsimp only at hSw); go_simp; try (with_reducible rfl))
  (try simp only [Act.put, List.setIfInBounds_toArray, List.set_cons_zero, List.set_cons_succ])
  refine wpAnyH_take (i := 9) (oi := ⟨some 12, _, _, _, _, _⟩) (v := ?_) rfl (by kernel_rfl) (by kernel_rfl) (by kernel_rfl) (fun _ _ _ h => h) (Or.inl ⟨by rfl, ?_⟩) (by assumption) ?_
  rotate_left
  · (intro w hSw; (try dsimp only at hSw); go_simp; try (with_reducible rfl))
  (try simp only [Act.put, List.setIfInBounds_toArray, List.set_cons_zero, List.set_cons_succ])
  refine wpAnyH_take (i := 10) (oi := ⟨some 13, _, _, _, _, _⟩) (v := ?_) rfl (by kernel_rfl) (by kernel_rfl) (by kernel_rfl) (fun _ _ _ h => h) (Or.inl ⟨by rfl, ?_⟩) (by assumption) ?_
  rotate_left
  · (intro w hSw; (try dsimp only at hSw); go_simp; try (with_reducible rfl))
  (try simp only [Act.put, List.setIfInBounds_toArray, List.set_cons_zero, List.set_cons_succ])
  refine wpAnyH_done (by kernel_rfl) ?_ _
  obtain ⟨c0, c1, c2, c3, d0, d1, d2, d3⟩ := h.cells
  go_wp2_with (first
    | (go_at_call_has 20 (Value.pointer (some ⟨p3, 0, none⟩)); refine (sLen_c [] p3 b3 _ _ hs3).mono ?_; rintro e w6 ⟨rfl, hb1⟩; replace h := h.then hb1; replace hs1 := hs1.below hb1; replace hs2 := hs2.below hb1; replace hs3 := hs3.below hb1; clear hb1 c0 c1 c2 c3 d0 d1 d2 d3; obtain ⟨c0, c1, c2, c3, d0, d1, d2, d3⟩ := h.cells)
    | (go_at_call 18; have hq := Unify_c l p1 b1 s t _ _ _ _ _ _ hs1 ⟨_, rfl, h.s1⟩ ⟨_, rfl, h.s2⟩ WS.out WT.out ZS.out ZT.out (fun v t h => Nat.le_trans (HT.out.1 v t h) (by omega)) (by have := HT.out.2; simp at this; omega); rw [HO4.out] at hq; refine hq.mono ?_; clear hq; rintro e w7 ⟨⟨p4, b4, rfl, hs4⟩, hb1⟩; replace h := h.then hb1; replace hs1 := hs1.below hb1; replace hs2 := hs2.below hb1; replace hs3 := hs3.below hb1; clear hb1 c0 c1 c2 c3 d0 d1 d2 d3; obtain ⟨c0, c1, c2, c3, d0, d1, d2, d3⟩ := h.cells)
    | (go_at_call_has 20 (Value.pointer (some ⟨p4, 0, none⟩)); refine (sLen_c l p4 b4 _ _ hs4).mono ?_; rintro e w6 ⟨rfl, hb1⟩; replace h := h.then hb1; replace hs1 := hs1.below hb1; replace hs2 := hs2.below hb1; replace hs3 := hs3.below hb1; clear hb1 c0 c1 c2 c3 d0 d1 d2 d3; obtain ⟨c0, c1, c2, c3, d0, d1, d2, d3⟩ := h.cells)
    | (go_at_call_has 20 (Value.pointer (some ⟨p1, 0, none⟩)); refine (sLen_c l p1 b1 _ _ hs1).mono ?_; rintro e w6 ⟨rfl, hb1⟩; replace h := h.then hb1; replace hs1 := hs1.below hb1; replace hs2 := hs2.below hb1; replace hs3 := hs3.below hb1; clear hb1 c0 c1 c2 c3 d0 d1 d2 d3; obtain ⟨c0, c1, c2, c3, d0, d1, d2, d3⟩ := h.cells)
    | (go_at_call 17; refine (wakes04_c _).mono ?_; rintro e w8 ⟨rfl, hb1⟩; replace h := h.then hb1; replace hs1 := hs1.below hb1; replace hs2 := hs2.below hb1; replace hs3 := hs3.below hb1))
  go_ret
  exact ⟨rfl, h.b0⟩
set_option maxRecDepth 100000 in
set_option maxHeartbeats 16000000 in
theorem UnifyTurns_c (s t : Tm) (vs vt : Value) (w : World) (ok ok' : Nat → Prop) (hs : TmV w ok s vs) (ht : TmV w ok' t vt) (ws : s.Wf) (wt : t.Wf) :
    Calls Try.prog 3 #[vs, vt] w fun e w' => e = .returned (.bool true) ∧ Below w.heap.size w w' := by
  obtain ⟨us, rfl, hs⟩ := hs
  obtain ⟨ut, rfl, ht⟩ := ht
  have hwf : WfL [s, t] := by simp [WfL, ws, wt]
  obtain ⟨W2, hW2⟩ : ∃ W2, W2 = ((w.alloc (.cells #[.int .u8 s.k, .string s.s, .int .i64 s.n, us] 24)).alloc (.cells #[.int .u8 t.k, .string t.s, .int .i64 t.n, ut] 24)) := ⟨_, rfl⟩
  have hB : Below w.heap.size w W2 := by rw [hW2]; exact ((Below.refl _ w).alloc (Nat.le_refl _) _).alloc (by simp) _
  have h0 : W2.heap[w.heap.size]? = some (.cells #[.int .u8 s.k, .string s.s, .int .i64 s.n, us] 24 (0, 0)) := by rw [hW2]; exact (Below.heap_alloc _ _ _ (by simp)).trans (heap_new w _)
  have h1 : W2.heap[w.heap.size + 1]? = some (.cells #[.int .u8 t.k, .string t.s, .int .i64 t.n, ut] 24 (0, 0)) := by rw [hW2]; exact heap_at _ _ _ (by simp)
  have hz2 : W2.heap.size = w.heap.size + 2 := by rw [hW2]; simp
  obtain ⟨W3, hW3⟩ : ∃ W3, W3 = W2.alloc (.cells #[.int .u8 s.k, .string s.s, .int .i64 s.n, us, .int .u8 t.k, .string t.s, .int .i64 t.n, ut] 24) := ⟨_, rfl⟩
  have hB3 : Below W2.heap.size W2 W3 := by rw [hW3]; exact (Below.refl _ _).alloc (Nat.le_refl _) _
  have h2 : W3.heap[w.heap.size + 1 + 1]? = some (.cells #[.int .u8 s.k, .string s.s, .int .i64 s.n, us, .int .u8 t.k, .string t.s, .int .i64 t.n, ut] 24 (0, 0)) := by rw [hW3]; exact heap_at _ _ _ (by omega)
  have hBB : Below w.heap.size w W3 := hB.trans (hB3.mono (by omega))
  have HG := Lib.hid (Great_c [s, t] _ W3 _ (lit2_at h2 (hs.below hBB) (ht.below hBB)) hwf)
  have HK : Hid (Kt w s t us ut W3) := Lib.hid ⟨hBB, block_below hB3 (by omega) h0, block_below hB3 (by omega) h1, (hs.below hBB).mono (fun _ _ => trivial), (ht.below hBB).mono (fun _ _ => trivial)⟩
  have HW3 : Hid (W3 = (((w.alloc (.cells #[.int .u8 s.k, .string s.s, .int .i64 s.n, us] 24)).alloc (.cells #[.int .u8 t.k, .string t.s, .int .i64 t.n, ut] 24)).alloc (.cells #[.int .u8 s.k, .string s.s, .int .i64 s.n, us, .int .u8 t.k, .string t.s, .int .i64 t.n, ut] 24))) := Lib.hid (by rw [hW3, hW2])
  have WS := Lib.hid ws
  have WT := Lib.hid wt
  clear hs ht hwf hB hB3 h0 h1 h2 hBB hW2 hW3 ws wt hz2
  have m1 : Hid (0 = 0) := Lib.hid rfl
  cases hgr : great [s, t] with
  | true =>
    rw [hgr] at HG
    clear hgr
    go_enter Try.func3, Try.ntmps3
    go_wp2_with (first
      | (rw [← HW3.out]; go_at_call 15; refine HG.out.mono ?_; clear HG HW3; rintro e w1 ⟨rfl, hb1⟩; have h := HK.out.then hb1; clear hb1; obtain ⟨c0, c1, c2, c3, d0, d1, d2, d3⟩ := h.cells)
      | (go_at_call 17; refine (wakes04_c _).mono ?_; rintro e w2 ⟨rfl, hb1⟩; replace h := h.then hb1))
    go_ret
    exact ⟨rfl, h.b0⟩
  | false =>
    rw [hgr] at HG
    have hsz := great_siz hgr
    have e1 : sizL [s, t] = s.siz + (t.siz + 0) := rfl
    have zs : s.siz ≤ 1000 := by omega
    have zt : t.siz ≤ 1000 := by omega
    have ZS : Hid (s.siz ≤ 1000000) := Lib.hid (by omega)
    have ZT : Hid (t.siz ≤ 1000000) := Lib.hid (by omega)
    clear hgr hsz e1
    cases hg1 : s.good with
    | false =>
      have HG1 := Lib.hid hg1
      clear hg1
      go_enter Try.func3, Try.ntmps3
      go_wp2_with (first
        | (rw [← HW3.out]; go_at_call 15; refine HG.out.mono ?_; clear HG HW3; rintro e w1 ⟨rfl, hb1⟩; have h := HK.out.then hb1; clear hb1; obtain ⟨c0, c1, c2, c3, d0, d1, d2, d3⟩ := h.cells)
        | (go_at_call 16; have hx := m1.out; clear hx m1; have hq := refGood_c s _ _ _ ⟨_, rfl, h.s1⟩ ZS.out WS.out; rw [HG1.out] at hq; refine hq.mono ?_; clear hq; rintro e w1 ⟨rfl, hb1⟩; replace h := h.then hb1; clear hb1 c0 c1 c2 c3 d0 d1 d2 d3; obtain ⟨c0, c1, c2, c3, d0, d1, d2, d3⟩ := h.cells)
        | (go_at_call 17; refine (wakes04_c _).mono ?_; rintro e w2 ⟨rfl, hb1⟩; replace h := h.then hb1))
      go_ret
      exact ⟨rfl, h.b0⟩
    | true =>
      have HG1 := Lib.hid hg1
      cases hg2 : t.good with
      | false =>
        have HG2 := Lib.hid hg2
        clear hg1 hg2
        go_enter Try.func3, Try.ntmps3
        go_wp2_with (first
          | (rw [← HW3.out]; go_at_call 15; refine HG.out.mono ?_; clear HG HW3; rintro e w1 ⟨rfl, hb1⟩; have h := HK.out.then hb1; clear hb1; obtain ⟨c0, c1, c2, c3, d0, d1, d2, d3⟩ := h.cells)
          | (go_at_call 16; have hx := m1.out; clear hx m1; have hq := refGood_c s _ _ _ ⟨_, rfl, h.s1⟩ ZS.out WS.out; rw [HG1.out] at hq; refine hq.mono ?_; clear hq; rintro e w1 ⟨rfl, hb1⟩; replace h := h.then hb1; clear hb1 c0 c1 c2 c3 d0 d1 d2 d3; obtain ⟨c0, c1, c2, c3, d0, d1, d2, d3⟩ := h.cells)
          | (go_at_call 16; have hq := refGood_c t _ _ _ ⟨_, rfl, h.s2⟩ ZT.out WT.out; rw [HG2.out] at hq; refine hq.mono ?_; clear hq; rintro e w1 ⟨rfl, hb1⟩; replace h := h.then hb1; clear hb1 c0 c1 c2 c3 d0 d1 d2 d3; obtain ⟨c0, c1, c2, c3, d0, d1, d2, d3⟩ := h.cells)
          | (go_at_call 17; refine (wakes04_c _).mono ?_; rintro e w2 ⟨rfl, hb1⟩; replace h := h.then hb1))
        go_ret
        exact ⟨rfl, h.b0⟩
      | true =>
        have HG2 := Lib.hid hg2
        have ks : s.vok := shp_vok s (by unfold Tm.good at hg1; simp only [Bool.and_eq_true] at hg1; exact hg1.2)
        have kt : t.vok := shp_vok t (by unfold Tm.good at hg2; simp only [Bool.and_eq_true] at hg2; exact hg2.2)
        obtain ⟨n3, h3⟩ := un_self 4098 0 [s] (by simp [sizL]; omega) (by simp [sizL]; omega)
        have HO3 : Hid (un 4098 0 [] [(s, s)] = .yes [] n3) := Lib.hid h3
        have tw1 := fun l m (h : un 4098 0 [] [(s, t)] = .yes l m) => un_turn (k' := 4098) (n' := 0) ks kt h
        have tw2 := fun l m (h : un 4098 0 [] [(t, s)] = .yes l m) => un_turn (k' := 4098) (n' := 0) kt ks h
        have tw3 := fun l m (h : un 4098 0 [] [(s, t)] = .yes l m) => un_twice (k' := 4098) (n' := 0) ks kt h
        have tw4 := fun l m (h : un 4098 0 [] [(s, t)] = .yes l m) => un_bounds (N := 1000) 4098 0 [] [(s, t)] l m (fun v t h => by cases h) (by simp; omega) (by omega) h
        clear hg1 hg2 h3 zs zt ks kt
        have HT := fun l m h => Lib.hid (tw4 l m h)
        clear tw4
        cases hO1 : un 4098 0 [] [(s, t)] with
        | full =>
          cases hO2 : un 4098 0 [] [(t, s)] with
          | full =>
            exact turns_full_full HG HK HW3 WS WT ZS ZT HG1 HG2 HO3 (Lib.hid hO1) (Lib.hid hO2)
          | no =>
            exact turns_full_no HG HK HW3 WS WT ZS ZT HG1 HG2 HO3 (Lib.hid hO1) (Lib.hid hO2)
          | yes l2 n2 =>
            exact turns_full_yes HG HK HW3 WS WT ZS ZT HG1 HG2 HO3 (Lib.hid hO1) (Lib.hid hO2)
        | no =>
          cases hO2 : un 4098 0 [] [(t, s)] with
          | full =>
            exact turns_no_full HG HK HW3 WS WT ZS ZT HG1 HG2 HO3 (Lib.hid hO1) (Lib.hid hO2)
          | no =>
            exact turns_no_no HG HK HW3 WS WT ZS ZT HG1 HG2 HO3 (Lib.hid hO1) (Lib.hid hO2)
          | yes l2 n2 => exact absurd hO1 (tw2 l2 n2 hO2)
        | yes l n =>
          cases hO2 : un 4098 0 [] [(t, s)] with
          | full =>
            exact turns_yes_full HG HK HW3 WS WT ZS ZT HG1 HG2 HO3 (Lib.hid hO1) (Lib.hid hO2)
          | no => exact absurd hO2 (tw1 l n hO1)
          | yes l2 n2 =>
            rcases tw3 l n hO1 with hO4 | ⟨n4, hO4⟩
            · exact turns_yes_yes_full HG HK HW3 WS WT ZS ZT HG1 HG2 HO3 (Lib.hid hO1) (Lib.hid hO2) (HT l n hO1) (Lib.hid hO4)
            · exact turns_yes_yes_yes HG HK HW3 WS WT ZS ZT HG1 HG2 HO3 (Lib.hid hO1) (Lib.hid hO2) (HT l n hO1) (Lib.hid hO4)
end Go.Proofs.Ytdflckjnpgbjlaa

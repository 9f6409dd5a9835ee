import Derived.Test.YtgcbanljifalnaaDoorPo15
set_option linter.unusedVariables false
set_option maxRecDepth 20000
set_option linter.unusedSimpArgs false
/- Layer 14 (builtin): two terms applied, walked: the first one not too great. Conditions: the arguments read; what they are made of is bounded. -/
namespace Go.Proofs.YtgcbanljifalnaaDoor
open Go.RowKit
attribute [local go_sem ↓] Go.wp_at_zero Go.wp_at_succ
set_option maxRecDepth 100000 in
set_option maxHeartbeats 8000000 in
theorem two_ok (l : Bs) (p m : Nat) (a b : Tm) (v : Value) (w : World) (hs : Sub w (fun _ => True) l p m) (hv : Kd.tm.S w (fun _ => True) [a, b] v) (hg : GB l [a, b]) (h1 : (visA l a).length ≤ 4096) :
    Calls Tryd.prog 98 #[.pointer (some ⟨p, 0, none⟩), v] w fun e w' => (∃ (y z : Tm) (r1 r2 : Value), e = .returned (.tuple #[.agg #[.int .u8 y.k, .string y.s, .int .i64 y.n, r1], .agg #[.int .u8 z.k, .string z.s, .int .i64 z.n, r2], .int .i64 (if (visA l b).length ≤ 4096 then 0 else 31)]) ∧ Kd.tm.S w' (fun _ => True) y.l r1 ∧ Kd.tm.S w' (fun _ => True) z.l r2 ∧ y = appA l a ∧ ((visA l b).length ≤ 4096 → z = appA l b)) ∧ Below w.heap.size w w' := by
  obtain ⟨A0, c, rfl⟩ := hv.form
  have HV := hv
  obtain ⟨g, o, A, ac, B, bc, rfl, hn, y0, y1, y2, y3, z0, z1, z2, z3, y4, z4⟩ := two_elem hv
  have HG : Hid (GK w l p m [a, b] (.slice (some ⟨g, o, none⟩) 2 c) w) := Lib.hid ⟨Below.refl _ _, hs, HV⟩
  have hs0 := hs.bound
  have ya := y4.bound
  have za := z4.bound
  have HA := Lib.hid (fun W (hB : Below w.heap.size w W) => appA_c l p m a (.slice A a.l.length ac) W (hs0.below hB) (ya.below hB) hg.wf.1 (hg.sz a (by simp)) hg.lsz)
  have HB := Lib.hid (fun W (hB : Below w.heap.size w W) => appA_c l p m b (.slice B b.l.length bc) W (hs0.below hB) (za.below hB) hg.wf.2.1 (hg.sz b (by simp)) hg.lsz)
  clear ya za hs0
  rw [if_pos h1] at HA
  generalize (if (visA l b).length ≤ 4096 then (0 : Int) else 31) = eb at HB ⊢
  have HL := Lib.hid h1
  have hb1 : Below w.heap.size w ((w.alloc (.cells #[.int .u8 0, .string ⟨#[]⟩, .int .i64 0, .slice none 0 0] 24)).alloc (.cells #[.int .u8 0, .string ⟨#[]⟩, .int .i64 0, .slice none 0 0] 24)) := ((Below.refl _ w).alloc (Nat.le_refl _) _).alloc (by simp) _
  have hk1 := HG.out.then hb1
  have Y4 := y4.below hb1
  have Z4 := z4.below hb1
  replace y0 := held_cell hb1 y0
  replace y1 := held_cell hb1 y1
  replace y2 := held_cell hb1 y2
  replace y3 := held_cell hb1 y3
  replace z0 := held_cell hb1 z0
  replace z1 := held_cell hb1 z1
  replace z2 := held_cell hb1 z2
  replace z3 := held_cell hb1 z3
  have m1 : Hid (0 = 0) := Lib.hid rfl
  clear hs hv HV hg h1
  go_enter Tryd.func98, Tryd.ntmps98
  go_wp2_with (first
    | (go_at_call 115; have hx := m1.out; clear hx m1; refine (HA.out _ hb1).mono ?_; clear HA; rintro e w5 ⟨⟨y, r, rfl, hr, hyy⟩, hb5⟩; obtain ⟨rA, rc, rfl⟩ := hr.form; have hbo : Below w5.heap.size w5 (w5.alloc (.cells #[.int .u8 y.k, .string y.s, .int .i64 y.n, .slice rA y.l.length rc] 24)) := (Below.refl _ w5).alloc (Nat.le_refl _) _; have hk5 := (hk1.then hb5).then hbo; have Z5 := (Z4.below hb5).below hbo; have hr5 := hr.below hbo; replace z0 := held_cell hbo (held_cell hb5 z0); replace z1 := held_cell hbo (held_cell hb5 z1); replace z2 := held_cell hbo (held_cell hb5 z2); replace z3 := held_cell hbo (held_cell hb5 z3))
    | (go_at_call 115; refine (HB.out _ hk5.b0).mono ?_; clear HB; rintro e w6 ⟨⟨z, q, rfl, hq, hzz⟩, hb6⟩; obtain ⟨qA, qc, rfl⟩ := hq.form))
  have hsz : w.heap.size + 1 < w5.heap.size := by have := hb5.size; simp at this; omega
  have hsy : w5.heap.size < w6.heap.size := by have := hb6.size; simp at this; omega
  have hbz : Below w6.heap.size w6 (w6.alloc (.cells #[.int .u8 z.k, .string z.s, .int .i64 z.n, .slice qA z.l.length qc] 24)) := (Below.refl _ w6).alloc (Nat.le_refl _) _
  have hbF : Below w.heap.size w (w6.alloc (.cells #[.int .u8 z.k, .string z.s, .int .i64 z.n, .slice qA z.l.length qc] 24)) := ((hk5.then hb6).then hbz).b0
  have hX : (w6.alloc (.cells #[.int .u8 z.k, .string z.s, .int .i64 z.n, .slice qA z.l.length qc] 24)).heap[w5.heap.size]? = some (.cells #[.int .u8 y.k, .string y.s, .int .i64 y.n, .slice rA y.l.length rc] 24 (0, 0)) := (hbz.block _ hsy).trans ((hb6.block _ (by simp)).trans (heap_new w5 _))
  have hY : (w6.alloc (.cells #[.int .u8 z.k, .string z.s, .int .i64 z.n, .slice qA z.l.length qc] 24)).heap[w6.heap.size]? = some (.cells #[.int .u8 z.k, .string z.s, .int .i64 z.n, .slice qA z.l.length qc] 24 (0, 0)) := heap_new w6 _
  have p0 : (w6.alloc (.cells #[.int .u8 z.k, .string z.s, .int .i64 z.n, .slice qA z.l.length qc] 24)).heap[w.heap.size]? = some (.cells #[.int .u8 0, .string ⟨#[]⟩, .int .i64 0, .slice none 0 0] 24 (0, 0)) := (hbz.block _ (by omega)).trans ((hb6.block _ (by simp; omega)).trans ((hbo.block _ (by omega)).trans ((hb5.block _ (by simp; omega)).trans ((Below.heap_alloc _ _ _ (by simp)).trans (heap_new w _)))))
  have p1 : (w6.alloc (.cells #[.int .u8 z.k, .string z.s, .int .i64 z.n, .slice qA z.l.length qc] 24)).heap[w.heap.size + 1]? = some (.cells #[.int .u8 0, .string ⟨#[]⟩, .int .i64 0, .slice none 0 0] 24 (0, 0)) := (hbz.block _ (by omega)).trans ((hb6.block _ (by simp; omega)).trans ((hbo.block _ (by omega)).trans ((hb5.block _ (by simp)).trans (heap_at _ _ _ (by simp)))))
  have hr6 := (hr5.below hb6).below hbz
  have hq6 := hq.below hbz
  have hbd : w.heap.size + 2 ≤ w5.heap.size + 1 := by omega
  simp only [World.size_alloc] at hr6 hq6
  obtain ⟨x0, x1, x2, x3, -, -, -, -⟩ := box4 hX
  obtain ⟨t0, t1, t2, t3, -, -, -, -⟩ := box4 hY
  obtain ⟨d0, d1, d2, d3, f0, f1, f2, f3⟩ := box4 p0
  clear hX hY hbz hb6 hbo hk5 Z5 hr5 hq hr hb5 hk1 Y4 Z4 hb1 y0 y1 y2 y3 y4 z0 z1 z2 z3 z4
  generalize w6.alloc (.cells #[.int .u8 z.k, .string z.s, .int .i64 z.n, .slice qA z.l.length qc] 24) = W6 at *
  generalize hXe : w5.heap.size = X at *
  generalize hYe : w6.heap.size = Y at *
  refine wp_region_held_drew (S := (fun W => W.cell? ⟨X, 0, none⟩ = some (.int .u8 y.k) ∧ W.cell? ⟨X, 1, none⟩ = some (.string y.s) ∧ W.cell? ⟨X, 2, none⟩ = some (.int .i64 y.n) ∧ W.cell? ⟨X, 3, none⟩ = some (.slice rA y.l.length rc) ∧ W.cell? ⟨Y, 0, none⟩ = some (.int .u8 z.k) ∧ W.cell? ⟨Y, 1, none⟩ = some (.string z.s) ∧ W.cell? ⟨Y, 2, none⟩ = some (.int .i64 z.n) ∧ W.cell? ⟨Y, 3, none⟩ = some (.slice qA z.l.length qc))) (by kernel_rfl) ?_ (fun hHeld => ?_)
  · exact ⟨x0, x1, x2, x3, t0, t1, t2, t3⟩
  change wpAnyH _ .any _ _ _ 6 (Array.replicate 6 false) _ _
  refine wpAnyH_take (i := 0) (oi := ⟨some 31, _, _, _, _, _⟩) (v := ?_) rfl (by kernel_rfl) (by kernel_rfl) (by kernel_rfl) (fun _ _ _ h => h) (Or.inl ⟨by rfl, ?_⟩) (by assumption) ?_
  rotate_left
  · (intro w hSw; (try dsimp only at hSw); go_simp; try (with_reducible rfl))
  (try simp only [Act.put, List.setIfInBounds_toArray, List.set_cons_zero, List.set_cons_succ])
  refine wpAnyH_take (i := 1) (oi := ⟨some 32, _, _, _, _, _⟩) (v := ?_) rfl (by kernel_rfl) (by kernel_rfl) (by kernel_rfl) (fun _ _ _ h => h) (Or.inl ⟨by rfl, ?_⟩) (by assumption) ?_
  rotate_left
  · (intro w hSw; (try dsimp only at hSw); go_simp; try (with_reducible rfl))
  (try simp only [Act.put, List.setIfInBounds_toArray, List.set_cons_zero, List.set_cons_succ])
  refine wpAnyH_take (i := 2) (oi := ⟨some 33, _, _, _, _, _⟩) (v := ?_) rfl (by kernel_rfl) (by kernel_rfl) (by kernel_rfl) (fun _ _ _ h => h) (Or.inl ⟨by rfl, ?_⟩) (by assumption) ?_
  rotate_left
  · (intro w hSw; (try dsimp only at hSw); go_simp; try (with_reducible rfl))
  (try simp only [Act.put, List.setIfInBounds_toArray, List.set_cons_zero, List.set_cons_succ])
  refine wpAnyH_ready (rs := [3]) (by kernel_rfl) (by simp) ?_
  refine AllReadyH.cons (o := ⟨none, _, _, _, _, _⟩) rfl (fun K hK => ?_) AllReadyH.nil
  go_simp
  refine hK.out _ _ ⟨(drew_cell _ _).trans ((set4_cell (W := W6) (B := w.heap.size) (X := X) (i := 0) (a := .int .u8 y.k) (b := .string y.s) (c := .int .i64 y.n) (d := .slice rA y.l.length rc) (by omega)).trans x0), (drew_cell _ _).trans ((set4_cell (W := W6) (B := w.heap.size) (X := X) (i := 1) (a := .int .u8 y.k) (b := .string y.s) (c := .int .i64 y.n) (d := .slice rA y.l.length rc) (by omega)).trans x1), (drew_cell _ _).trans ((set4_cell (W := W6) (B := w.heap.size) (X := X) (i := 2) (a := .int .u8 y.k) (b := .string y.s) (c := .int .i64 y.n) (d := .slice rA y.l.length rc) (by omega)).trans x2), (drew_cell _ _).trans ((set4_cell (W := W6) (B := w.heap.size) (X := X) (i := 3) (a := .int .u8 y.k) (b := .string y.s) (c := .int .i64 y.n) (d := .slice rA y.l.length rc) (by omega)).trans x3), (drew_cell _ _).trans ((set4_cell (W := W6) (B := w.heap.size) (X := Y) (i := 0) (a := .int .u8 y.k) (b := .string y.s) (c := .int .i64 y.n) (d := .slice rA y.l.length rc) (by omega)).trans t0), (drew_cell _ _).trans ((set4_cell (W := W6) (B := w.heap.size) (X := Y) (i := 1) (a := .int .u8 y.k) (b := .string y.s) (c := .int .i64 y.n) (d := .slice rA y.l.length rc) (by omega)).trans t1), (drew_cell _ _).trans ((set4_cell (W := W6) (B := w.heap.size) (X := Y) (i := 2) (a := .int .u8 y.k) (b := .string y.s) (c := .int .i64 y.n) (d := .slice rA y.l.length rc) (by omega)).trans t2), (drew_cell _ _).trans ((set4_cell (W := W6) (B := w.heap.size) (X := Y) (i := 3) (a := .int .u8 y.k) (b := .string y.s) (c := .int .i64 y.n) (d := .slice rA y.l.length rc) (by omega)).trans t3)⟩ (fun hHeld => ?_)
  clear hK K
  (try simp only [Act.put, List.setIfInBounds_toArray, List.set_cons_zero, List.set_cons_succ])
  have r0 := set4_block (a := .int .u8 y.k) (b := .string y.s) (c := .int .i64 y.n) (d := .slice rA y.l.length rc) p0
  have r1 := (set4_heap (W := W6) (B := w.heap.size) (X := w.heap.size + 1) (a := .int .u8 y.k) (b := .string y.s) (c := .int .i64 y.n) (d := .slice rA y.l.length rc) (by omega)).trans p1
  replace x0 := (set4_cell (W := W6) (B := w.heap.size) (X := X) (i := 0) (a := .int .u8 y.k) (b := .string y.s) (c := .int .i64 y.n) (d := .slice rA y.l.length rc) (by omega)).trans x0
  replace t0 := (set4_cell (W := W6) (B := w.heap.size) (X := Y) (i := 0) (a := .int .u8 y.k) (b := .string y.s) (c := .int .i64 y.n) (d := .slice rA y.l.length rc) (by omega)).trans t0
  replace x1 := (set4_cell (W := W6) (B := w.heap.size) (X := X) (i := 1) (a := .int .u8 y.k) (b := .string y.s) (c := .int .i64 y.n) (d := .slice rA y.l.length rc) (by omega)).trans x1
  replace t1 := (set4_cell (W := W6) (B := w.heap.size) (X := Y) (i := 1) (a := .int .u8 y.k) (b := .string y.s) (c := .int .i64 y.n) (d := .slice rA y.l.length rc) (by omega)).trans t1
  replace x2 := (set4_cell (W := W6) (B := w.heap.size) (X := X) (i := 2) (a := .int .u8 y.k) (b := .string y.s) (c := .int .i64 y.n) (d := .slice rA y.l.length rc) (by omega)).trans x2
  replace t2 := (set4_cell (W := W6) (B := w.heap.size) (X := Y) (i := 2) (a := .int .u8 y.k) (b := .string y.s) (c := .int .i64 y.n) (d := .slice rA y.l.length rc) (by omega)).trans t2
  replace x3 := (set4_cell (W := W6) (B := w.heap.size) (X := X) (i := 3) (a := .int .u8 y.k) (b := .string y.s) (c := .int .i64 y.n) (d := .slice rA y.l.length rc) (by omega)).trans x3
  replace t3 := (set4_cell (W := W6) (B := w.heap.size) (X := Y) (i := 3) (a := .int .u8 y.k) (b := .string y.s) (c := .int .i64 y.n) (d := .slice rA y.l.length rc) (by omega)).trans t3
  have hb7 := set4_below W6 w.heap.size (.int .u8 y.k) (.string y.s) (.int .i64 y.n) (.slice rA y.l.length rc)
  have hm7 : ∀ k, w.heap.size ≠ k → ((((W6.setCell ⟨w.heap.size, 0, none⟩ (.int .u8 y.k)).setCell ⟨w.heap.size, 1, none⟩ (.string y.s)).setCell ⟨w.heap.size, 2, none⟩ (.int .i64 y.n)).setCell ⟨w.heap.size, 3, none⟩ (.slice rA y.l.length rc)).heap[k]? = W6.heap[k]? := fun k hk => set4_heap hk
  clear d0 d1 d2 d3 f0 f1 f2 f3 hHeld p0 p1
  generalize ((((W6.setCell ⟨w.heap.size, 0, none⟩ (.int .u8 y.k)).setCell ⟨w.heap.size, 1, none⟩ (.string y.s)).setCell ⟨w.heap.size, 2, none⟩ (.int .i64 y.n)).setCell ⟨w.heap.size, 3, none⟩ (.slice rA y.l.length rc)) = W7 at *
  obtain ⟨d0, d1, d2, d3, f0, f1, f2, f3⟩ := box4 r1
  refine wpAnyH_ready (rs := [4]) (by kernel_rfl) (by simp) ?_
  refine AllReadyH.cons (o := ⟨none, _, _, _, _, _⟩) rfl (fun K hK => ?_) AllReadyH.nil
  go_simp
  refine hK.out _ _ ⟨(drew_cell _ _).trans ((set4_cell (W := W7) (B := (w.heap.size + 1)) (X := X) (i := 0) (a := .int .u8 z.k) (b := .string z.s) (c := .int .i64 z.n) (d := .slice qA z.l.length qc) (by omega)).trans x0), (drew_cell _ _).trans ((set4_cell (W := W7) (B := (w.heap.size + 1)) (X := X) (i := 1) (a := .int .u8 z.k) (b := .string z.s) (c := .int .i64 z.n) (d := .slice qA z.l.length qc) (by omega)).trans x1), (drew_cell _ _).trans ((set4_cell (W := W7) (B := (w.heap.size + 1)) (X := X) (i := 2) (a := .int .u8 z.k) (b := .string z.s) (c := .int .i64 z.n) (d := .slice qA z.l.length qc) (by omega)).trans x2), (drew_cell _ _).trans ((set4_cell (W := W7) (B := (w.heap.size + 1)) (X := X) (i := 3) (a := .int .u8 z.k) (b := .string z.s) (c := .int .i64 z.n) (d := .slice qA z.l.length qc) (by omega)).trans x3), (drew_cell _ _).trans ((set4_cell (W := W7) (B := (w.heap.size + 1)) (X := Y) (i := 0) (a := .int .u8 z.k) (b := .string z.s) (c := .int .i64 z.n) (d := .slice qA z.l.length qc) (by omega)).trans t0), (drew_cell _ _).trans ((set4_cell (W := W7) (B := (w.heap.size + 1)) (X := Y) (i := 1) (a := .int .u8 z.k) (b := .string z.s) (c := .int .i64 z.n) (d := .slice qA z.l.length qc) (by omega)).trans t1), (drew_cell _ _).trans ((set4_cell (W := W7) (B := (w.heap.size + 1)) (X := Y) (i := 2) (a := .int .u8 z.k) (b := .string z.s) (c := .int .i64 z.n) (d := .slice qA z.l.length qc) (by omega)).trans t2), (drew_cell _ _).trans ((set4_cell (W := W7) (B := (w.heap.size + 1)) (X := Y) (i := 3) (a := .int .u8 z.k) (b := .string z.s) (c := .int .i64 z.n) (d := .slice qA z.l.length qc) (by omega)).trans t3)⟩ (fun hHeld => ?_)
  clear hK K
  (try simp only [Act.put, List.setIfInBounds_toArray, List.set_cons_zero, List.set_cons_succ])
  have s1 := set4_block (a := .int .u8 z.k) (b := .string z.s) (c := .int .i64 z.n) (d := .slice qA z.l.length qc) r1
  have s0 := (set4_heap (W := W7) (B := w.heap.size + 1) (X := w.heap.size) (a := .int .u8 z.k) (b := .string z.s) (c := .int .i64 z.n) (d := .slice qA z.l.length qc) (by omega)).trans r0
  have hb8 := set4_below W7 (w.heap.size + 1) (.int .u8 z.k) (.string z.s) (.int .i64 z.n) (.slice qA z.l.length qc)
  have hm8 : ∀ k, w.heap.size + 1 ≠ k → ((((W7.setCell ⟨(w.heap.size + 1), 0, none⟩ (.int .u8 z.k)).setCell ⟨(w.heap.size + 1), 1, none⟩ (.string z.s)).setCell ⟨(w.heap.size + 1), 2, none⟩ (.int .i64 z.n)).setCell ⟨(w.heap.size + 1), 3, none⟩ (.slice qA z.l.length qc)).heap[k]? = W7.heap[k]? := fun k hk => set4_heap hk
  clear d0 d1 d2 d3 f0 f1 f2 f3 r0 r1 x0 x1 x2 x3 t0 t1 t2 t3
  generalize ((((W7.setCell ⟨(w.heap.size + 1), 0, none⟩ (.int .u8 z.k)).setCell ⟨(w.heap.size + 1), 1, none⟩ (.string z.s)).setCell ⟨(w.heap.size + 1), 2, none⟩ (.int .i64 z.n)).setCell ⟨(w.heap.size + 1), 3, none⟩ (.slice qA z.l.length qc)) = W8 at *
  refine wpAnyH_take (i := 5) (oi := ⟨some 6, _, _, _, _, _⟩) (v := ?_) rfl (by kernel_rfl) (by kernel_rfl) (by kernel_rfl) (fun _ _ _ h => h) (Or.inl ⟨by rfl, ?_⟩) (by assumption) ?_
  rotate_left
  · (intro w hSw; (try dsimp only at hSw); go_simp; try (with_reducible rfl))
  (try simp only [Act.put, List.setIfInBounds_toArray, List.set_cons_zero, List.set_cons_succ])
  refine wpAnyH_done (by kernel_rfl) ?_ _
  go_wp2
  obtain ⟨d0, d1, d2, d3, -, -, -, -⟩ := box4 s0
  obtain ⟨e0, e1, e2, e3, -, -, -, -⟩ := box4 s1
  refine bodyPost_ret (v := .tuple #[.agg #[.int .u8 y.k, .string y.s, .int .i64 y.n, .slice rA y.l.length rc], .agg #[.int .u8 z.k, .string z.s, .int .i64 z.n, .slice qA z.l.length qc], .int .i64 eb]) (by simp [results, Tryd.results98, go_sem, drew_cell, d0, d1, d2, d3, e0, e1, e2, e3]) rfl ?_
  have hr8 := (hr6.move (w' := W8) (fun k hk => (hm8 k (by omega)).trans (hm7 k (by omega)))).mono (ok' := fun _ => True) (fun _ _ => trivial)
  have hq8 := (hq6.move (w' := W8) (fun k hk => (hm8 k (by omega)).trans (hm7 k (by omega)))).mono (ok' := fun _ => True) (fun _ _ => trivial)
  exact ⟨⟨y, z, _, _, rfl, hr8.below (Below.refl _ _).drew, hq8.below (Below.refl _ _).drew, hyy HL.out, hzz⟩, ((hbF.trans hb7).trans (hb8.mono (by omega))).drew⟩
end Go.Proofs.YtgcbanljifalnaaDoor
/- Layer 14 (builtin): whether terms are alike, walked. Conditions: the arguments read; what they are made of is bounded. -/
namespace Go.Proofs.YtgcbanljifalnaaDoor
open Go.RowKit
attribute [local go_sem ↓] Go.wp_at_zero Go.wp_at_succ
set_option maxRecDepth 100000 in
set_option maxHeartbeats 8000000 in
theorem alike_err (l : Bs) (p m : Nat) (a b : Tm) (v : Value) (w : World) (B0 : Nat) (want : Bool) (hs : Sub w (fun _ => True) l p m) (hv : Kd.tm.S w (fun _ => True) [a, b] v) (hg : GB l [a, b]) (hB : w.cell? ⟨B0, 0, none⟩ = some (.bool want)) (he : ¬ ((visA l a).length ≤ 4096 ∧ (visA l b).length ≤ 4096)) :
    Calls Tryd.prog 97 #[.pointer (some ⟨p, 0, none⟩), v, .pointer (some ⟨B0, 0, none⟩)] w (DPost w.heap.size (Bi.run l (.alike want) [a, b]) w) := by
  have HR : Hid (Bi.run l (.alike want) [a, b] = .err 31) := Lib.hid (by
    simp only [Bi.run, twoD]
    by_cases h1 : 4096 < (visA l a).length
    · rw [if_pos h1]
    · rw [if_neg h1, if_pos (by omega)])
  have HT : Hid (Calls Tryd.prog 98 #[.pointer (some ⟨p, 0, none⟩), v] w fun e w' => (∃ (y z : Tm) (A A' : Option Addr) (c c' : Nat), e = .returned (.tuple #[.agg #[.int .u8 y.k, .string y.s, .int .i64 y.n, .slice A y.l.length c], .agg #[.int .u8 z.k, .string z.s, .int .i64 z.n, .slice A' z.l.length c'], .int .i64 31])) ∧ Below w.heap.size w w') := Lib.hid (by
    by_cases h1 : (visA l a).length ≤ 4096
    · refine (two_ok l p m a b v w hs hv hg h1).mono ?_
      rintro e w' ⟨⟨y, z, r1, r2, rfl, h3, h4, -, -⟩, hb⟩
      obtain ⟨A, c, rfl⟩ := h3.form
      obtain ⟨A', c', rfl⟩ := h4.form
      exact ⟨⟨y, z, A, A', c, c', by rw [if_neg (fun h2 => he ⟨h1, h2⟩)]⟩, hb⟩
    · refine (two_c l p m a b v w hs hv hg h1).mono ?_
      rintro e w' ⟨⟨y, A, c, rfl⟩, hb⟩
      exact ⟨⟨y, y, A, A, c, c, rfl⟩, hb⟩)
  obtain ⟨A0, c, rfl⟩ := hv.form
  clear hs hv hg he
  go_enter Tryd.func97, Tryd.ntmps97
  go_wp2_with (go_at_call 98; refine HT.out.mono ?_; clear HT; rintro e w5 ⟨⟨y, z, A1, A2, c1, c2, rfl⟩, hb5⟩)
  go_ret3
  exact ⟨by rw [HR.out]; rfl, (hb5.alloc hb5.size _).alloc (by have := hb5.size; simp; omega) _⟩
set_option maxRecDepth 100000 in
set_option maxHeartbeats 8000000 in
theorem alike_ok (l : Bs) (p m : Nat) (a b : Tm) (v : Value) (w : World) (B0 : Nat) (want : Bool) (hs : Sub w (fun _ => True) l p m) (hv : Kd.tm.S w (fun _ => True) [a, b] v) (hg : GB l [a, b]) (hB : w.cell? ⟨B0, 0, none⟩ = some (.bool want)) (h1 : (visA l a).length ≤ 4096) (h2 : (visA l b).length ≤ 4096) :
    Calls Tryd.prog 97 #[.pointer (some ⟨p, 0, none⟩), v, .pointer (some ⟨B0, 0, none⟩)] w (DPost w.heap.size (Bi.run l (.alike want) [a, b]) w) := by
  have hrun : Bi.run l (.alike want) [a, b] = whenD l (decide ((ordT (appA l a) (appA l b)).1 = 0 ∧ (ordT (appA l a) (appA l b)).2 = true) == want) := by
    simp only [Bi.run, twoD]
    rw [if_neg (by omega), if_neg (by omega)]
  have HT : Hid (Calls Tryd.prog 98 #[.pointer (some ⟨p, 0, none⟩), v] w fun e w' => (∃ (A A' : Option Addr) (c c' : Nat), e = .returned (.tuple #[.agg #[.int .u8 (appA l a).k, .string (appA l a).s, .int .i64 (appA l a).n, .slice A (appA l a).l.length c], .agg #[.int .u8 (appA l b).k, .string (appA l b).s, .int .i64 (appA l b).n, .slice A' (appA l b).l.length c'], .int .i64 0]) ∧ Kd.tm.S w' (fun _ => True) (appA l a).l (.slice A (appA l a).l.length c) ∧ Kd.tm.S w' (fun _ => True) (appA l b).l (.slice A' (appA l b).l.length c')) ∧ Below w.heap.size w w') := Lib.hid (by
    refine (two_ok l p m a b v w hs hv hg h1).mono ?_
    rintro e w' ⟨⟨y, z, r1, r2, rfl, h3, h4, h5, h6⟩, hb⟩
    have h7 := h6 h2
    subst h5 h7
    obtain ⟨A, c, rfl⟩ := h3.form
    obtain ⟨A', c', rfl⟩ := h4.form
    exact ⟨⟨A, A', c, c', by rw [if_pos h2], h3, h4⟩, hb⟩)
  have HO := Lib.hid (fun W u1 u2 (e1 : Kd.tm.S W (fun _ => True) (appA l a).l u1) (e2 : Kd.tm.S W (fun _ => True) (appA l b).l u2) => ord_c (appA l a) (appA l b) W _ _ _ _ ⟨u1, rfl, e1⟩ ⟨u2, rfl, e2⟩)
  obtain ⟨A0, c, rfl⟩ := hv.form
  have HG : Hid (GK w l p m [a, b] (.slice A0 [a, b].length c) w) := Lib.hid ⟨Below.refl _ _, hs, hv⟩
  obtain ⟨q, k, hqk⟩ : ∃ q k, ordT (appA l a) (appA l b) = (q, k) := ⟨_, _, rfl⟩
  rw [hqk] at HO hrun
  clear hs hv hg h1 h2 hqk
  generalize appA l a = y at HT HO
  generalize appA l b = z at HT HO
  by_cases hq : q = 0
  · subst hq
    cases k
    · cases want
      · have HR : Hid (Bi.run l (.alike false) [a, b] = whenD l true) := Lib.hid (by rw [hrun]; simp)
        clear hrun
        go_enter Tryd.func97, Tryd.ntmps97
        go_wp2_with (first
          | (go_at_call 98; refine HT.out.mono ?_; clear HT; rintro e w5 ⟨⟨A1, A2, c1, c2, rfl, hy, hz⟩, hb5⟩; have hbo : Below w5.heap.size w5 ((w5.alloc (.cells #[.int .u8 y.k, .string y.s, .int .i64 y.n, .slice A1 y.l.length c1] 24)).alloc (.cells #[.int .u8 z.k, .string z.s, .int .i64 z.n, .slice A2 z.l.length c2] 24)) := ((Below.refl _ w5).alloc (Nat.le_refl _) _).alloc (by simp) _; have hB5 := held_cell hbo (held_cell hb5 hB); have hk5 := (HG.out.then hb5).then hbo; have hy5 := hy.below hbo; have hz5 := hz.below hbo)
          | (go_at_call 8; refine (HO.out _ _ _ hy5 hz5).mono ?_; clear HO; rintro e w6 ⟨rfl, hb6⟩; have hB6 := held_cell hb6 hB5; have hk6 := hk5.then hb6)
          | (go_at_call 95; refine (when_c p _ _).mono ?_; rintro e w7 ⟨rfl, hw7⟩; rw [hw7]; clear hw7))
        go_ret3
        rw [HR.out]
        exact whenD_post (is := true) hk6.sub hk6.b0
      · have HR : Hid (Bi.run l (.alike true) [a, b] = whenD l false) := Lib.hid (by rw [hrun]; simp)
        clear hrun
        go_enter Tryd.func97, Tryd.ntmps97
        go_wp2_with (first
          | (go_at_call 98; refine HT.out.mono ?_; clear HT; rintro e w5 ⟨⟨A1, A2, c1, c2, rfl, hy, hz⟩, hb5⟩; have hbo : Below w5.heap.size w5 ((w5.alloc (.cells #[.int .u8 y.k, .string y.s, .int .i64 y.n, .slice A1 y.l.length c1] 24)).alloc (.cells #[.int .u8 z.k, .string z.s, .int .i64 z.n, .slice A2 z.l.length c2] 24)) := ((Below.refl _ w5).alloc (Nat.le_refl _) _).alloc (by simp) _; have hB5 := held_cell hbo (held_cell hb5 hB); have hk5 := (HG.out.then hb5).then hbo; have hy5 := hy.below hbo; have hz5 := hz.below hbo)
          | (go_at_call 8; refine (HO.out _ _ _ hy5 hz5).mono ?_; clear HO; rintro e w6 ⟨rfl, hb6⟩; have hB6 := held_cell hb6 hB5; have hk6 := hk5.then hb6)
          | (go_at_call 95; refine (when_c p _ _).mono ?_; rintro e w7 ⟨rfl, hw7⟩; rw [hw7]; clear hw7))
        go_ret3
        rw [HR.out]
        exact whenD_post (is := false) hk6.sub hk6.b0
    · cases want
      · have HR : Hid (Bi.run l (.alike false) [a, b] = whenD l false) := Lib.hid (by rw [hrun]; simp)
        clear hrun
        go_enter Tryd.func97, Tryd.ntmps97
        go_wp2_with (first
          | (go_at_call 98; refine HT.out.mono ?_; clear HT; rintro e w5 ⟨⟨A1, A2, c1, c2, rfl, hy, hz⟩, hb5⟩; have hbo : Below w5.heap.size w5 ((w5.alloc (.cells #[.int .u8 y.k, .string y.s, .int .i64 y.n, .slice A1 y.l.length c1] 24)).alloc (.cells #[.int .u8 z.k, .string z.s, .int .i64 z.n, .slice A2 z.l.length c2] 24)) := ((Below.refl _ w5).alloc (Nat.le_refl _) _).alloc (by simp) _; have hB5 := held_cell hbo (held_cell hb5 hB); have hk5 := (HG.out.then hb5).then hbo; have hy5 := hy.below hbo; have hz5 := hz.below hbo)
          | (go_at_call 8; refine (HO.out _ _ _ hy5 hz5).mono ?_; clear HO; rintro e w6 ⟨rfl, hb6⟩; have hB6 := held_cell hb6 hB5; have hk6 := hk5.then hb6)
          | (go_at_call 95; refine (when_c p _ _).mono ?_; rintro e w7 ⟨rfl, hw7⟩; rw [hw7]; clear hw7))
        go_ret3
        rw [HR.out]
        exact whenD_post (is := false) hk6.sub hk6.b0
      · have HR : Hid (Bi.run l (.alike true) [a, b] = whenD l true) := Lib.hid (by rw [hrun]; simp)
        clear hrun
        go_enter Tryd.func97, Tryd.ntmps97
        go_wp2_with (first
          | (go_at_call 98; refine HT.out.mono ?_; clear HT; rintro e w5 ⟨⟨A1, A2, c1, c2, rfl, hy, hz⟩, hb5⟩; have hbo : Below w5.heap.size w5 ((w5.alloc (.cells #[.int .u8 y.k, .string y.s, .int .i64 y.n, .slice A1 y.l.length c1] 24)).alloc (.cells #[.int .u8 z.k, .string z.s, .int .i64 z.n, .slice A2 z.l.length c2] 24)) := ((Below.refl _ w5).alloc (Nat.le_refl _) _).alloc (by simp) _; have hB5 := held_cell hbo (held_cell hb5 hB); have hk5 := (HG.out.then hb5).then hbo; have hy5 := hy.below hbo; have hz5 := hz.below hbo)
          | (go_at_call 8; refine (HO.out _ _ _ hy5 hz5).mono ?_; clear HO; rintro e w6 ⟨rfl, hb6⟩; have hB6 := held_cell hb6 hB5; have hk6 := hk5.then hb6)
          | (go_at_call 95; refine (when_c p _ _).mono ?_; rintro e w7 ⟨rfl, hw7⟩; rw [hw7]; clear hw7))
        go_ret3
        rw [HR.out]
        exact whenD_post (is := true) hk6.sub hk6.b0
  · have hq1 : (q == 0) = false := by simpa using hq
    cases k
    · cases want
      · have HR : Hid (Bi.run l (.alike false) [a, b] = whenD l true) := Lib.hid (by rw [hrun]; simp [hq])
        clear hrun hq
        go_enter Tryd.func97, Tryd.ntmps97
        go_wp2_with (first
          | (go_at_call 98; refine HT.out.mono ?_; clear HT; rintro e w5 ⟨⟨A1, A2, c1, c2, rfl, hy, hz⟩, hb5⟩; have hbo : Below w5.heap.size w5 ((w5.alloc (.cells #[.int .u8 y.k, .string y.s, .int .i64 y.n, .slice A1 y.l.length c1] 24)).alloc (.cells #[.int .u8 z.k, .string z.s, .int .i64 z.n, .slice A2 z.l.length c2] 24)) := ((Below.refl _ w5).alloc (Nat.le_refl _) _).alloc (by simp) _; have hB5 := held_cell hbo (held_cell hb5 hB); have hk5 := (HG.out.then hb5).then hbo; have hy5 := hy.below hbo; have hz5 := hz.below hbo)
          | (go_at_call 8; refine (HO.out _ _ _ hy5 hz5).mono ?_; clear HO; rintro e w6 ⟨rfl, hb6⟩; have hB6 := held_cell hb6 hB5; have hk6 := hk5.then hb6)
          | (go_at_call 95; refine (when_c p _ _).mono ?_; rintro e w7 ⟨rfl, hw7⟩; rw [hw7]; clear hw7))
        go_ret3
        rw [HR.out]
        exact whenD_post (is := true) hk6.sub hk6.b0
      · have HR : Hid (Bi.run l (.alike true) [a, b] = whenD l false) := Lib.hid (by rw [hrun]; simp [hq])
        clear hrun hq
        go_enter Tryd.func97, Tryd.ntmps97
        go_wp2_with (first
          | (go_at_call 98; refine HT.out.mono ?_; clear HT; rintro e w5 ⟨⟨A1, A2, c1, c2, rfl, hy, hz⟩, hb5⟩; have hbo : Below w5.heap.size w5 ((w5.alloc (.cells #[.int .u8 y.k, .string y.s, .int .i64 y.n, .slice A1 y.l.length c1] 24)).alloc (.cells #[.int .u8 z.k, .string z.s, .int .i64 z.n, .slice A2 z.l.length c2] 24)) := ((Below.refl _ w5).alloc (Nat.le_refl _) _).alloc (by simp) _; have hB5 := held_cell hbo (held_cell hb5 hB); have hk5 := (HG.out.then hb5).then hbo; have hy5 := hy.below hbo; have hz5 := hz.below hbo)
          | (go_at_call 8; refine (HO.out _ _ _ hy5 hz5).mono ?_; clear HO; rintro e w6 ⟨rfl, hb6⟩; have hB6 := held_cell hb6 hB5; have hk6 := hk5.then hb6)
          | (go_at_call 95; refine (when_c p _ _).mono ?_; rintro e w7 ⟨rfl, hw7⟩; rw [hw7]; clear hw7))
        go_ret3
        rw [HR.out]
        exact whenD_post (is := false) hk6.sub hk6.b0
    · cases want
      · have HR : Hid (Bi.run l (.alike false) [a, b] = whenD l true) := Lib.hid (by rw [hrun]; simp [hq])
        clear hrun hq
        go_enter Tryd.func97, Tryd.ntmps97
        go_wp2_with (first
          | (go_at_call 98; refine HT.out.mono ?_; clear HT; rintro e w5 ⟨⟨A1, A2, c1, c2, rfl, hy, hz⟩, hb5⟩; have hbo : Below w5.heap.size w5 ((w5.alloc (.cells #[.int .u8 y.k, .string y.s, .int .i64 y.n, .slice A1 y.l.length c1] 24)).alloc (.cells #[.int .u8 z.k, .string z.s, .int .i64 z.n, .slice A2 z.l.length c2] 24)) := ((Below.refl _ w5).alloc (Nat.le_refl _) _).alloc (by simp) _; have hB5 := held_cell hbo (held_cell hb5 hB); have hk5 := (HG.out.then hb5).then hbo; have hy5 := hy.below hbo; have hz5 := hz.below hbo)
          | (go_at_call 8; refine (HO.out _ _ _ hy5 hz5).mono ?_; clear HO; rintro e w6 ⟨rfl, hb6⟩; have hB6 := held_cell hb6 hB5; have hk6 := hk5.then hb6)
          | (go_at_call 95; refine (when_c p _ _).mono ?_; rintro e w7 ⟨rfl, hw7⟩; rw [hw7]; clear hw7))
        go_ret3
        rw [HR.out]
        exact whenD_post (is := true) hk6.sub hk6.b0
      · have HR : Hid (Bi.run l (.alike true) [a, b] = whenD l false) := Lib.hid (by rw [hrun]; simp [hq])
        clear hrun hq
        go_enter Tryd.func97, Tryd.ntmps97
        go_wp2_with (first
          | (go_at_call 98; refine HT.out.mono ?_; clear HT; rintro e w5 ⟨⟨A1, A2, c1, c2, rfl, hy, hz⟩, hb5⟩; have hbo : Below w5.heap.size w5 ((w5.alloc (.cells #[.int .u8 y.k, .string y.s, .int .i64 y.n, .slice A1 y.l.length c1] 24)).alloc (.cells #[.int .u8 z.k, .string z.s, .int .i64 z.n, .slice A2 z.l.length c2] 24)) := ((Below.refl _ w5).alloc (Nat.le_refl _) _).alloc (by simp) _; have hB5 := held_cell hbo (held_cell hb5 hB); have hk5 := (HG.out.then hb5).then hbo; have hy5 := hy.below hbo; have hz5 := hz.below hbo)
          | (go_at_call 8; refine (HO.out _ _ _ hy5 hz5).mono ?_; clear HO; rintro e w6 ⟨rfl, hb6⟩; have hB6 := held_cell hb6 hB5; have hk6 := hk5.then hb6)
          | (go_at_call 95; refine (when_c p _ _).mono ?_; rintro e w7 ⟨rfl, hw7⟩; rw [hw7]; clear hw7))
        go_ret3
        rw [HR.out]
        exact whenD_post (is := false) hk6.sub hk6.b0
end Go.Proofs.YtgcbanljifalnaaDoor
/- Layer 14 (builtin): the builtins' functions, walked (4): how numbers stand; kinds. Conditions: the arguments read; what they are made of is bounded. -/
namespace Go.Proofs.YtgcbanljifalnaaDoor
open Go.RowKit
attribute [local go_sem ↓] Go.wp_at_zero Go.wp_at_succ
theorem cm_enters (m : Cm) (args : Array Value) (w : World) : (callFunc (CmF m) args).run Tryd.prog w = .ok (.enter (CmF m) args) w := by
  cases m
  · exact enters_of Tryd.func54 (by kernel_rfl) rfl args w
  · exact enters_of Tryd.func55 (by kernel_rfl) rfl args w
  · exact enters_of Tryd.func56 (by kernel_rfl) rfl args w
  · exact enters_of Tryd.func57 (by kernel_rfl) rfl args w
  · exact enters_of Tryd.func58 (by kernel_rfl) rfl args w
  · exact enters_of Tryd.func59 (by kernel_rfl) rfl args w
theorem reck_run (l : Bs) (cm : Cm) (a b : Tm) : Bi.run l (.reckons cm) [a, b] = if (evA l a).err ≠ 0 then .err (evA l a).err else if (evA l b).err ≠ 0 then .err (evA l b).err else whenD l (cm.so (cmpI (evA l a).val (evA l b).val)) := rfl
set_option maxRecDepth 100000 in
set_option maxHeartbeats 8000000 in
theorem reckons_c (l : Bs) (p m : Nat) (a b : Tm) (v : Value) (w : World) (hs : Sub w (fun _ => True) l p m) (hv : Kd.tm.S w (fun _ => True) [a, b] v) (hg : GB l [a, b]) (cm : Cm) (B0 : Nat) (hB : w.cell? ⟨B0, 0, none⟩ = some (.func (.func (CmF cm)) #[] #[])) :
    Calls Tryd.prog 101 #[.pointer (some ⟨p, 0, none⟩), v, .pointer (some ⟨B0, 0, none⟩)] w (DPost w.heap.size (Bi.run l (.reckons cm) [a, b]) w) := by
  obtain ⟨A0, c, rfl⟩ := hv.form
  have HV := hv
  obtain ⟨g, o, A, ac, B, bc, rfl, hn, y0, y1, y2, y3, z0, z1, z2, z3, y4, z4⟩ := two_elem hv
  have HG : Hid (GK w l p m [a, b] (.slice (some ⟨g, o, none⟩) 2 c) w) := Lib.hid ⟨Below.refl _ _, hs, HV⟩
  have HEa := Lib.hid (evA_c l p m a _ w hs y4 hg.wf.1)
  have HEb := Lib.hid (fun W (h : Kd.tm.S W (fun _ => True) b.l (.slice B b.l.length bc)) (hk : GK w l p m [a, b] (.slice (some ⟨g, o, none⟩) 2 c) W) => evA_c l p m b _ W hk.sub h hg.wf.2.1)
  have HZa : ∀ e, evA l a = .er e → e ≠ 0 := fun e h => evF_er' _ _ _ _ h
  have HZb : ∀ e, evA l b = .er e → e ≠ 0 := fun e h => evF_er' _ _ _ _ h
  have HF := Lib.hid (fun c w => cm_c cm c w)
  have eg := cm_enters cm
  have HW := Lib.hid (fun is W => when_c p is W)
  have m1 : Hid (0 = 0) := Lib.hid rfl
  have hrun := reck_run l cm a b
  generalize CmF cm = fm at hB HF eg
  cases hr : evA l a with
  | er x =>
    rw [hr] at HEa
    have hx := HZa x hr
    have hx1 : (x != 0) = true := by simpa using hx
    have HR : Hid (Bi.run l (.reckons cm) [a, b] = .err x) := Lib.hid (by rw [hrun, hr]; simp [Rk.err, hx])
    clear hs hv HV hg HZa HZb hr hx HEb HF HW hrun eg
    simp only [Rk.val, Rk.err] at HEa
    go_enter Tryd.func101, Tryd.ntmps101
    go_wp2_with (go_at_call 100; have hx := m1.out; clear hx m1; refine HEa.out.mono ?_; clear HEa; rintro e w5 ⟨rfl, hb5⟩; have hk5 := HG.out.then hb5; have Z4 := z4.below hb5; replace z0 := held_cell hb5 z0; replace z1 := held_cell hb5 z1; replace z2 := held_cell hb5 z2; replace z3 := held_cell hb5 z3; have hB5 := held_cell hb5 hB)
    go_ret3
    exact ⟨by rw [HR.out]; rfl, hk5.b0⟩
  | ok na =>
    rw [hr] at HEa
    cases hq : evA l b with
    | er x =>
      rw [hq] at HEb
      have hx := HZb x hq
      have hx1 : (x != 0) = true := by simpa using hx
      have HR : Hid (Bi.run l (.reckons cm) [a, b] = .err x) := Lib.hid (by rw [hrun, hr, hq]; simp [Rk.err, hx])
      clear hs hv HV hg HZa HZb hr hq hx HF HW hrun eg
      simp only [Rk.val, Rk.err] at HEa HEb
      go_enter Tryd.func101, Tryd.ntmps101
      go_wp2_with (first
        | (go_at_call 100; have hx := m1.out; clear hx m1; refine HEa.out.mono ?_; clear HEa; rintro e w5 ⟨rfl, hb5⟩; have hk5 := HG.out.then hb5; have Z4 := z4.below hb5; replace z0 := held_cell hb5 z0; replace z1 := held_cell hb5 z1; replace z2 := held_cell hb5 z2; replace z3 := held_cell hb5 z3; have hB5 := held_cell hb5 hB)
        | (go_at_call 100; refine (HEb.out _ Z4 hk5).mono ?_; clear HEb; rintro e w6 ⟨rfl, hb6⟩; have hk6 := hk5.then hb6; have hB6 := held_cell hb6 hB5))
      go_ret3
      exact ⟨by rw [HR.out]; rfl, hk6.b0⟩
    | ok nb =>
    rw [hq] at HEb
    have HR : Hid (Bi.run l (.reckons cm) [a, b] = whenD l (cm.so (cmpI na nb))) := Lib.hid (by rw [hrun, hr, hq]; simp [Rk.err, Rk.val])
    have HF2 := Lib.hid (fun w => HF.out (cmpI na nb) w)
    clear hs hv HV hg HZa HZb hr hq hrun HF
    simp only [Rk.val, Rk.err] at HEa HEb
    generalize cm.so (cmpI na nb) = is at HF2 HR
    have HW2 := Lib.hid (HW.out is)
    clear HW
    cases is
    · simp only [if_true, Bool.false_eq_true, if_false] at HW2
      go_enter Tryd.func101, Tryd.ntmps101
      go_wp2_with (first
        | (go_at_call 100; have hx := m1.out; clear hx m1; refine HEa.out.mono ?_; clear HEa; rintro e w5 ⟨rfl, hb5⟩; have hk5 := HG.out.then hb5; have Z4 := z4.below hb5; replace z0 := held_cell hb5 z0; replace z1 := held_cell hb5 z1; replace z2 := held_cell hb5 z2; replace z3 := held_cell hb5 z3; have hB5 := held_cell hb5 hB)
        | (go_at_call 100; refine (HEb.out _ Z4 hk5).mono ?_; clear HEb; rintro e w6 ⟨rfl, hb6⟩; have hk6 := hk5.then hb6; have hB6 := held_cell hb6 hB5))
      refine wp_region_held_drew (S := (fun W => W.cell? ⟨B0, 0, none⟩ = some (.func (.func fm) #[] #[]) ∧ GK w l p m [a, b] (.slice (some ⟨g, o, none⟩) 2 c) W)) (by kernel_rfl) ?_ (fun hHeld => ?_)
      · exact ⟨hB6, hk6.then (Below.refl _ _).drew⟩
      change wpAnyH _ .any _ _ _ 13 (Array.replicate 13 false) _ _
      refine wpAnyH_take (i := 0) (oi := ⟨some 33, _, _, _, _, _⟩) (v := ?_) rfl (by kernel_rfl) (by kernel_rfl) (by kernel_rfl) (fun _ _ _ h => h) (Or.inl ⟨by rfl, ?_⟩) (by assumption) ?_
      rotate_left
      · (intro w hSw; (try dsimp only at hSw); go_simp; try (with_reducible rfl))
      (try simp only [Act.put, List.setIfInBounds_toArray, List.set_cons_zero, List.set_cons_succ])
      refine wpAnyH_take (i := 1) (oi := ⟨some 34, _, _, _, _, _⟩) (v := ?_) rfl (by kernel_rfl) (by kernel_rfl) (by kernel_rfl) (fun _ _ _ h => h) (Or.inl ⟨by rfl, ?_⟩) (by assumption) ?_
      rotate_left
      · (intro w hSw; (try dsimp only at hSw); go_simp; try (with_reducible rfl))
      (try simp only [Act.put, List.setIfInBounds_toArray, List.set_cons_zero, List.set_cons_succ])
      refine wpAnyH_take (i := 2) (oi := ⟨some 35, _, _, _, _, _⟩) (v := ?_) rfl (by kernel_rfl) (by kernel_rfl) (by kernel_rfl) (fun _ _ _ h => h) (Or.inl ⟨by rfl, ?_⟩) (by assumption) ?_
      rotate_left
      · (intro w hSw; (try dsimp only at hSw); go_simp; try (with_reducible rfl))
      (try simp only [Act.put, List.setIfInBounds_toArray, List.set_cons_zero, List.set_cons_succ])
      refine wpAnyH_take (i := 3) (oi := ⟨some 36, _, _, _, _, _⟩) (v := ?_) rfl (by kernel_rfl) (by kernel_rfl) (by kernel_rfl) (fun _ _ _ h => h) (Or.inl ⟨by rfl, ?_⟩) (by assumption) ?_
      rotate_left
      · (intro w hSw; (try dsimp only at hSw); go_simp; try (with_reducible rfl))
      (try simp only [Act.put, List.setIfInBounds_toArray, List.set_cons_zero, List.set_cons_succ])
      refine wpAnyH_ready (rs := [4]) (by kernel_rfl) (by simp) ?_
      refine AllReadyH.cons (o := ⟨some 37, _, _, _, _, _⟩) rfl (fun K hK => ?_) AllReadyH.nil
      go_simp
      refine (cmp64_c _ _ _).mono ?_
      rintro e w7 ⟨rfl, hw7⟩
      rw [hw7]
      clear hw7 w7
      go_wp2_with fail
      refine hK.out _ _ hHeld (fun hHeld => ?_)
      clear hK K
      (try simp only [Act.put, List.setIfInBounds_toArray, List.set_cons_zero, List.set_cons_succ])
      refine wpAnyH_ready (rs := [5]) (by kernel_rfl) (by simp) ?_
      refine AllReadyH.cons (o := ⟨some 38, _, _, _, _, _⟩) rfl (fun K hK => ?_) AllReadyH.nil
      go_simp
      refine (HF2.out _).mono ?_
      rintro e w7 ⟨rfl, hw7⟩
      rw [hw7]
      clear hw7 w7
      go_wp2_with fail
      refine hK.out _ _ hHeld (fun hHeld => ?_)
      clear hK K
      (try simp only [Act.put, List.setIfInBounds_toArray, List.set_cons_zero, List.set_cons_succ])
      refine wpAnyH_ready (rs := [6]) (by kernel_rfl) (by simp) ?_
      refine AllReadyH.cons (o := ⟨some 39, _, _, _, _, _⟩) rfl (fun K hK => ?_) AllReadyH.nil
      go_simp
      refine (HW2.out _).mono ?_
      rintro e w7 ⟨rfl, hw7⟩
      rw [hw7]
      clear hw7 w7
      go_wp2_with fail
      refine hK.out _ _ hHeld (fun hHeld => ?_)
      clear hK K
      (try simp only [Act.put, List.setIfInBounds_toArray, List.set_cons_zero, List.set_cons_succ])
      refine wpAnyH_take (i := 7) (oi := ⟨some 40, _, _, _, _, _⟩) (v := ?_) rfl (by kernel_rfl) (by kernel_rfl) (by kernel_rfl) (fun _ _ _ h => h) (Or.inl ⟨by rfl, ?_⟩) (by assumption) ?_
      rotate_left
      · (intro w hSw; (try dsimp only at hSw); go_simp; try (with_reducible rfl))
      (try simp only [Act.put, List.setIfInBounds_toArray, List.set_cons_zero, List.set_cons_succ])
      refine wpAnyH_take (i := 8) (oi := ⟨some 41, _, _, _, _, _⟩) (v := ?_) rfl (by kernel_rfl) (by kernel_rfl) (by kernel_rfl) (fun _ _ _ h => h) (Or.inl ⟨by rfl, ?_⟩) (by assumption) ?_
      rotate_left
      · (intro w hSw; (try dsimp only at hSw); go_simp; try (with_reducible rfl))
      (try simp only [Act.put, List.setIfInBounds_toArray, List.set_cons_zero, List.set_cons_succ])
      refine wpAnyH_take (i := 9) (oi := ⟨some 42, _, _, _, _, _⟩) (v := ?_) rfl (by kernel_rfl) (by kernel_rfl) (by kernel_rfl) (fun _ _ _ h => h) (Or.inl ⟨by rfl, ?_⟩) (by assumption) ?_
      rotate_left
      · (intro w hSw; (try dsimp only at hSw); go_simp; try (with_reducible rfl))
      (try simp only [Act.put, List.setIfInBounds_toArray, List.set_cons_zero, List.set_cons_succ])
      refine wpAnyH_take (i := 10) (oi := ⟨some 5, _, _, _, _, _⟩) (v := ?_) rfl (by kernel_rfl) (by kernel_rfl) (by kernel_rfl) (fun _ _ _ h => h) (Or.inl ⟨by rfl, ?_⟩) (by assumption) ?_
      rotate_left
      · (intro w hSw; (try dsimp only at hSw); go_simp; try (with_reducible rfl))
      (try simp only [Act.put, List.setIfInBounds_toArray, List.set_cons_zero, List.set_cons_succ])
      refine wpAnyH_take (i := 11) (oi := ⟨some 6, _, _, _, _, _⟩) (v := ?_) rfl (by kernel_rfl) (by kernel_rfl) (by kernel_rfl) (fun _ _ _ h => h) (Or.inl ⟨by rfl, ?_⟩) (by assumption) ?_
      rotate_left
      · (intro w hSw; (try dsimp only at hSw); go_simp; try (with_reducible rfl))
      (try simp only [Act.put, List.setIfInBounds_toArray, List.set_cons_zero, List.set_cons_succ])
      refine wpAnyH_take (i := 12) (oi := ⟨some 7, _, _, _, _, _⟩) (v := ?_) rfl (by kernel_rfl) (by kernel_rfl) (by kernel_rfl) (fun _ _ _ h => h) (Or.inl ⟨by rfl, ?_⟩) (by assumption) ?_
      rotate_left
      · (intro w hSw; (try dsimp only at hSw); go_simp; try (with_reducible rfl))
      (try simp only [Act.put, List.setIfInBounds_toArray, List.set_cons_zero, List.set_cons_succ])
      refine wpAnyH_done (by kernel_rfl) ?_ _
      have hH := hHeld.2
      clear hHeld
      go_wp2
      go_ret3
      rw [HR.out]
      exact whenD_post (is := false) hH.sub hH.b0
    · simp only [if_true, Bool.false_eq_true, if_false] at HW2
      go_enter Tryd.func101, Tryd.ntmps101
      go_wp2_with (first
        | (go_at_call 100; have hx := m1.out; clear hx m1; refine HEa.out.mono ?_; clear HEa; rintro e w5 ⟨rfl, hb5⟩; have hk5 := HG.out.then hb5; have Z4 := z4.below hb5; replace z0 := held_cell hb5 z0; replace z1 := held_cell hb5 z1; replace z2 := held_cell hb5 z2; replace z3 := held_cell hb5 z3; have hB5 := held_cell hb5 hB)
        | (go_at_call 100; refine (HEb.out _ Z4 hk5).mono ?_; clear HEb; rintro e w6 ⟨rfl, hb6⟩; have hk6 := hk5.then hb6; have hB6 := held_cell hb6 hB5))
      refine wp_region_held_drew (S := (fun W => W.cell? ⟨B0, 0, none⟩ = some (.func (.func fm) #[] #[]) ∧ GK w l p m [a, b] (.slice (some ⟨g, o, none⟩) 2 c) W)) (by kernel_rfl) ?_ (fun hHeld => ?_)
      · exact ⟨hB6, hk6.then (Below.refl _ _).drew⟩
      change wpAnyH _ .any _ _ _ 13 (Array.replicate 13 false) _ _
      refine wpAnyH_take (i := 0) (oi := ⟨some 33, _, _, _, _, _⟩) (v := ?_) rfl (by kernel_rfl) (by kernel_rfl) (by kernel_rfl) (fun _ _ _ h => h) (Or.inl ⟨by rfl, ?_⟩) (by assumption) ?_
      rotate_left
      · (intro w hSw; (try dsimp only at hSw); go_simp; try (with_reducible rfl))
      (try simp only [Act.put, List.setIfInBounds_toArray, List.set_cons_zero, List.set_cons_succ])
      refine wpAnyH_take (i := 1) (oi := ⟨some 34, _, _, _, _, _⟩) (v := ?_) rfl (by kernel_rfl) (by kernel_rfl) (by kernel_rfl) (fun _ _ _ h => h) (Or.inl ⟨by rfl, ?_⟩) (by assumption) ?_
      rotate_left
      · (intro w hSw; (try dsimp only at hSw); go_simp; try (with_reducible rfl))
      (try simp only [Act.put, List.setIfInBounds_toArray, List.set_cons_zero, List.set_cons_succ])
      refine wpAnyH_take (i := 2) (oi := ⟨some 35, _, _, _, _, _⟩) (v := ?_) rfl (by kernel_rfl) (by kernel_rfl) (by kernel_rfl) (fun _ _ _ h => h) (Or.inl ⟨by rfl, ?_⟩) (by assumption) ?_
      rotate_left
      · (intro w hSw; (try dsimp only at hSw); go_simp; try (with_reducible rfl))
      (try simp only [Act.put, List.setIfInBounds_toArray, List.set_cons_zero, List.set_cons_succ])
      refine wpAnyH_take (i := 3) (oi := ⟨some 36, _, _, _, _, _⟩) (v := ?_) rfl (by kernel_rfl) (by kernel_rfl) (by kernel_rfl) (fun _ _ _ h => h) (Or.inl ⟨by rfl, ?_⟩) (by assumption) ?_
      rotate_left
      · (intro w hSw; (try dsimp only at hSw); go_simp; try (with_reducible rfl))
      (try simp only [Act.put, List.setIfInBounds_toArray, List.set_cons_zero, List.set_cons_succ])
      refine wpAnyH_ready (rs := [4]) (by kernel_rfl) (by simp) ?_
      refine AllReadyH.cons (o := ⟨some 37, _, _, _, _, _⟩) rfl (fun K hK => ?_) AllReadyH.nil
      go_simp
      refine (cmp64_c _ _ _).mono ?_
      rintro e w7 ⟨rfl, hw7⟩
      rw [hw7]
      clear hw7 w7
      go_wp2_with fail
      refine hK.out _ _ hHeld (fun hHeld => ?_)
      clear hK K
      (try simp only [Act.put, List.setIfInBounds_toArray, List.set_cons_zero, List.set_cons_succ])
      refine wpAnyH_ready (rs := [5]) (by kernel_rfl) (by simp) ?_
      refine AllReadyH.cons (o := ⟨some 38, _, _, _, _, _⟩) rfl (fun K hK => ?_) AllReadyH.nil
      go_simp
      refine (HF2.out _).mono ?_
      rintro e w7 ⟨rfl, hw7⟩
      rw [hw7]
      clear hw7 w7
      go_wp2_with fail
      refine hK.out _ _ hHeld (fun hHeld => ?_)
      clear hK K
      (try simp only [Act.put, List.setIfInBounds_toArray, List.set_cons_zero, List.set_cons_succ])
      refine wpAnyH_ready (rs := [6]) (by kernel_rfl) (by simp) ?_
      refine AllReadyH.cons (o := ⟨some 39, _, _, _, _, _⟩) rfl (fun K hK => ?_) AllReadyH.nil
      go_simp
      refine (HW2.out _).mono ?_
      rintro e w7 ⟨rfl, hw7⟩
      rw [hw7]
      clear hw7 w7
      go_wp2_with fail
      refine hK.out _ _ hHeld (fun hHeld => ?_)
      clear hK K
      (try simp only [Act.put, List.setIfInBounds_toArray, List.set_cons_zero, List.set_cons_succ])
      refine wpAnyH_take (i := 7) (oi := ⟨some 40, _, _, _, _, _⟩) (v := ?_) rfl (by kernel_rfl) (by kernel_rfl) (by kernel_rfl) (fun _ _ _ h => h) (Or.inl ⟨by rfl, ?_⟩) (by assumption) ?_
      rotate_left
      · (intro w hSw; (try dsimp only at hSw); go_simp; try (with_reducible rfl))
      (try simp only [Act.put, List.setIfInBounds_toArray, List.set_cons_zero, List.set_cons_succ])
      refine wpAnyH_take (i := 8) (oi := ⟨some 41, _, _, _, _, _⟩) (v := ?_) rfl (by kernel_rfl) (by kernel_rfl) (by kernel_rfl) (fun _ _ _ h => h) (Or.inl ⟨by rfl, ?_⟩) (by assumption) ?_
      rotate_left
      · (intro w hSw; (try dsimp only at hSw); go_simp; try (with_reducible rfl))
      (try simp only [Act.put, List.setIfInBounds_toArray, List.set_cons_zero, List.set_cons_succ])
      refine wpAnyH_take (i := 9) (oi := ⟨some 42, _, _, _, _, _⟩) (v := ?_) rfl (by kernel_rfl) (by kernel_rfl) (by kernel_rfl) (fun _ _ _ h => h) (Or.inl ⟨by rfl, ?_⟩) (by assumption) ?_
      rotate_left
      · (intro w hSw; (try dsimp only at hSw); go_simp; try (with_reducible rfl))
      (try simp only [Act.put, List.setIfInBounds_toArray, List.set_cons_zero, List.set_cons_succ])
      refine wpAnyH_take (i := 10) (oi := ⟨some 5, _, _, _, _, _⟩) (v := ?_) rfl (by kernel_rfl) (by kernel_rfl) (by kernel_rfl) (fun _ _ _ h => h) (Or.inl ⟨by rfl, ?_⟩) (by assumption) ?_
      rotate_left
      · (intro w hSw; (try dsimp only at hSw); go_simp; try (with_reducible rfl))
      (try simp only [Act.put, List.setIfInBounds_toArray, List.set_cons_zero, List.set_cons_succ])
      refine wpAnyH_take (i := 11) (oi := ⟨some 6, _, _, _, _, _⟩) (v := ?_) rfl (by kernel_rfl) (by kernel_rfl) (by kernel_rfl) (fun _ _ _ h => h) (Or.inl ⟨by rfl, ?_⟩) (by assumption) ?_
      rotate_left
      · (intro w hSw; (try dsimp only at hSw); go_simp; try (with_reducible rfl))
      (try simp only [Act.put, List.setIfInBounds_toArray, List.set_cons_zero, List.set_cons_succ])
      refine wpAnyH_take (i := 12) (oi := ⟨some 7, _, _, _, _, _⟩) (v := ?_) rfl (by kernel_rfl) (by kernel_rfl) (by kernel_rfl) (fun _ _ _ h => h) (Or.inl ⟨by rfl, ?_⟩) (by assumption) ?_
      rotate_left
      · (intro w hSw; (try dsimp only at hSw); go_simp; try (with_reducible rfl))
      (try simp only [Act.put, List.setIfInBounds_toArray, List.set_cons_zero, List.set_cons_succ])
      refine wpAnyH_done (by kernel_rfl) ?_ _
      have hH := hHeld.2
      clear hHeld
      go_wp2
      go_ret3
      rw [HR.out]
      exact whenD_post (is := true) hH.sub hH.b0
end Go.Proofs.YtgcbanljifalnaaDoor
/- Layer 14 (builtin): how terms stand, walked. Conditions: the arguments read; what they are made of is bounded. -/
namespace Go.Proofs.YtgcbanljifalnaaDoor
open Go.RowKit
attribute [local go_sem ↓] Go.wp_at_zero Go.wp_at_succ
set_option maxRecDepth 100000 in
set_option maxHeartbeats 8000000 in
theorem stands_err (l : Bs) (p m : Nat) (a b : Tm) (v : Value) (w : World) (B0 : Nat) (cm : Cm) (hs : Sub w (fun _ => True) l p m) (hv : Kd.tm.S w (fun _ => True) [a, b] v) (hg : GB l [a, b]) (hB : w.cell? ⟨B0, 0, none⟩ = some (.func (.func (CmF cm)) #[] #[])) (he : ¬ ((visA l a).length ≤ 4096 ∧ (visA l b).length ≤ 4096)) :
    Calls Tryd.prog 99 #[.pointer (some ⟨p, 0, none⟩), v, .pointer (some ⟨B0, 0, none⟩)] w (DPost w.heap.size (Bi.run l (.stands cm) [a, b]) w) := by
  have HR : Hid (Bi.run l (.stands cm) [a, b] = .err 31) := Lib.hid (by
    simp only [Bi.run, twoD]
    by_cases h1 : 4096 < (visA l a).length
    · rw [if_pos h1]
    · rw [if_neg h1, if_pos (by omega)])
  have HT : Hid (Calls Tryd.prog 98 #[.pointer (some ⟨p, 0, none⟩), v] w fun e w' => (∃ (y z : Tm) (A A' : Option Addr) (c c' : Nat), e = .returned (.tuple #[.agg #[.int .u8 y.k, .string y.s, .int .i64 y.n, .slice A y.l.length c], .agg #[.int .u8 z.k, .string z.s, .int .i64 z.n, .slice A' z.l.length c'], .int .i64 31])) ∧ Below w.heap.size w w') := Lib.hid (by
    by_cases h1 : (visA l a).length ≤ 4096
    · refine (two_ok l p m a b v w hs hv hg h1).mono ?_
      rintro e w' ⟨⟨y, z, r1, r2, rfl, h3, h4, -, -⟩, hb⟩
      obtain ⟨A, c, rfl⟩ := h3.form
      obtain ⟨A', c', rfl⟩ := h4.form
      exact ⟨⟨y, z, A, A', c, c', by rw [if_neg (fun h2 => he ⟨h1, h2⟩)]⟩, hb⟩
    · refine (two_c l p m a b v w hs hv hg h1).mono ?_
      rintro e w' ⟨⟨y, A, c, rfl⟩, hb⟩
      exact ⟨⟨y, y, A, A, c, c, rfl⟩, hb⟩)
  generalize CmF cm = fm at hB
  obtain ⟨A0, c, rfl⟩ := hv.form
  clear hs hv hg he
  go_enter Tryd.func99, Tryd.ntmps99
  go_wp2_with (go_at_call 98; refine HT.out.mono ?_; clear HT; rintro e w5 ⟨⟨y, z, A1, A2, c1, c2, rfl⟩, hb5⟩)
  go_ret3
  exact ⟨by rw [HR.out]; rfl, (hb5.alloc hb5.size _).alloc (by have := hb5.size; simp; omega) _⟩
set_option maxRecDepth 100000 in
set_option maxHeartbeats 8000000 in
theorem stands_ok (l : Bs) (p m : Nat) (a b : Tm) (v : Value) (w : World) (B0 : Nat) (cm : Cm) (hs : Sub w (fun _ => True) l p m) (hv : Kd.tm.S w (fun _ => True) [a, b] v) (hg : GB l [a, b]) (hB : w.cell? ⟨B0, 0, none⟩ = some (.func (.func (CmF cm)) #[] #[])) (h1 : (visA l a).length ≤ 4096) (h2 : (visA l b).length ≤ 4096) :
    Calls Tryd.prog 99 #[.pointer (some ⟨p, 0, none⟩), v, .pointer (some ⟨B0, 0, none⟩)] w (DPost w.heap.size (Bi.run l (.stands cm) [a, b]) w) := by
  have hrun : Bi.run l (.stands cm) [a, b] = if (ordT (appA l a) (appA l b)).2 = true then whenD l (cm.so (ordT (appA l a) (appA l b)).1) else .err 20 := by
    simp only [Bi.run, twoD]
    rw [if_neg (by omega), if_neg (by omega)]
  have HF0 := Lib.hid (fun c w => cm_c cm c w)
  have eg := cm_enters cm
  have HT : Hid (Calls Tryd.prog 98 #[.pointer (some ⟨p, 0, none⟩), v] w fun e w' => (∃ (A A' : Option Addr) (c c' : Nat), e = .returned (.tuple #[.agg #[.int .u8 (appA l a).k, .string (appA l a).s, .int .i64 (appA l a).n, .slice A (appA l a).l.length c], .agg #[.int .u8 (appA l b).k, .string (appA l b).s, .int .i64 (appA l b).n, .slice A' (appA l b).l.length c'], .int .i64 0]) ∧ Kd.tm.S w' (fun _ => True) (appA l a).l (.slice A (appA l a).l.length c) ∧ Kd.tm.S w' (fun _ => True) (appA l b).l (.slice A' (appA l b).l.length c')) ∧ Below w.heap.size w w') := Lib.hid (by
    refine (two_ok l p m a b v w hs hv hg h1).mono ?_
    rintro e w' ⟨⟨y, z, r1, r2, rfl, h3, h4, h5, h6⟩, hb⟩
    have h7 := h6 h2
    subst h5 h7
    obtain ⟨A, c, rfl⟩ := h3.form
    obtain ⟨A', c', rfl⟩ := h4.form
    exact ⟨⟨A, A', c, c', by rw [if_pos h2], h3, h4⟩, hb⟩)
  have HO := Lib.hid (fun W u1 u2 (e1 : Kd.tm.S W (fun _ => True) (appA l a).l u1) (e2 : Kd.tm.S W (fun _ => True) (appA l b).l u2) => ord_c (appA l a) (appA l b) W _ _ _ _ ⟨u1, rfl, e1⟩ ⟨u2, rfl, e2⟩)
  obtain ⟨A0, c, rfl⟩ := hv.form
  have HG : Hid (GK w l p m [a, b] (.slice A0 [a, b].length c) w) := Lib.hid ⟨Below.refl _ _, hs, hv⟩
  obtain ⟨q, k, hqk⟩ : ∃ q k, ordT (appA l a) (appA l b) = (q, k) := ⟨_, _, rfl⟩
  rw [hqk] at HO hrun
  clear hs hv hg h1 h2 hqk
  generalize appA l a = y at HT HO
  generalize appA l b = z at HT HO
  generalize CmF cm = fm at hB HF0 eg
  have HF := Lib.hid (fun w => HF0.out q w)
  clear HF0
  cases k
  · have HR : Hid (Bi.run l (.stands cm) [a, b] = .err 20) := Lib.hid (by rw [hrun]; simp)
    clear hrun HF eg
    go_enter Tryd.func99, Tryd.ntmps99
    go_wp2_with (first
      | (go_at_call 98; refine HT.out.mono ?_; clear HT; rintro e w5 ⟨⟨A1, A2, c1, c2, rfl, hy, hz⟩, hb5⟩; have hbo : Below w5.heap.size w5 ((w5.alloc (.cells #[.int .u8 y.k, .string y.s, .int .i64 y.n, .slice A1 y.l.length c1] 24)).alloc (.cells #[.int .u8 z.k, .string z.s, .int .i64 z.n, .slice A2 z.l.length c2] 24)) := ((Below.refl _ w5).alloc (Nat.le_refl _) _).alloc (by simp) _; have hB5 := held_cell hbo (held_cell hb5 hB); have hk5 := (HG.out.then hb5).then hbo; have hy5 := hy.below hbo; have hz5 := hz.below hbo)
      | (go_at_call 8; refine (HO.out _ _ _ hy5 hz5).mono ?_; clear HO; rintro e w6 ⟨rfl, hb6⟩; have hB6 := held_cell hb6 hB5; have hk6 := hk5.then hb6)
      | (go_at_call 95; refine (when_c p _ _).mono ?_; rintro e w7 ⟨rfl, hw7⟩; rw [hw7]; clear hw7))
    go_ret3
    exact ⟨by rw [HR.out]; rfl, hk6.b0⟩
  · have HR : Hid (Bi.run l (.stands cm) [a, b] = whenD l (cm.so q)) := Lib.hid (by rw [hrun]; simp)
    clear hrun
    generalize cm.so q = is at HR HF
    cases is
    · skip
      go_enter Tryd.func99, Tryd.ntmps99
      go_wp2_with (first
        | (go_at_call 98; refine HT.out.mono ?_; clear HT; rintro e w5 ⟨⟨A1, A2, c1, c2, rfl, hy, hz⟩, hb5⟩; have hbo : Below w5.heap.size w5 ((w5.alloc (.cells #[.int .u8 y.k, .string y.s, .int .i64 y.n, .slice A1 y.l.length c1] 24)).alloc (.cells #[.int .u8 z.k, .string z.s, .int .i64 z.n, .slice A2 z.l.length c2] 24)) := ((Below.refl _ w5).alloc (Nat.le_refl _) _).alloc (by simp) _; have hB5 := held_cell hbo (held_cell hb5 hB); have hk5 := (HG.out.then hb5).then hbo; have hy5 := hy.below hbo; have hz5 := hz.below hbo)
        | (go_at_call 8; refine (HO.out _ _ _ hy5 hz5).mono ?_; clear HO; rintro e w6 ⟨rfl, hb6⟩; have hB6 := held_cell hb6 hB5; have hk6 := hk5.then hb6)
        | (go_at_call 95; refine (when_c p _ _).mono ?_; rintro e w7 ⟨rfl, hw7⟩; rw [hw7]; clear hw7)
        | (refine (HF.out _).mono ?_; rintro e w8 ⟨rfl, hw8⟩; rw [hw8]; clear hw8))
      go_ret3
      rw [HR.out]
      exact whenD_post (is := false) hk6.sub hk6.b0
    · skip
      go_enter Tryd.func99, Tryd.ntmps99
      go_wp2_with (first
        | (go_at_call 98; refine HT.out.mono ?_; clear HT; rintro e w5 ⟨⟨A1, A2, c1, c2, rfl, hy, hz⟩, hb5⟩; have hbo : Below w5.heap.size w5 ((w5.alloc (.cells #[.int .u8 y.k, .string y.s, .int .i64 y.n, .slice A1 y.l.length c1] 24)).alloc (.cells #[.int .u8 z.k, .string z.s, .int .i64 z.n, .slice A2 z.l.length c2] 24)) := ((Below.refl _ w5).alloc (Nat.le_refl _) _).alloc (by simp) _; have hB5 := held_cell hbo (held_cell hb5 hB); have hk5 := (HG.out.then hb5).then hbo; have hy5 := hy.below hbo; have hz5 := hz.below hbo)
        | (go_at_call 8; refine (HO.out _ _ _ hy5 hz5).mono ?_; clear HO; rintro e w6 ⟨rfl, hb6⟩; have hB6 := held_cell hb6 hB5; have hk6 := hk5.then hb6)
        | (go_at_call 95; refine (when_c p _ _).mono ?_; rintro e w7 ⟨rfl, hw7⟩; rw [hw7]; clear hw7)
        | (refine (HF.out _).mono ?_; rintro e w8 ⟨rfl, hw8⟩; rw [hw8]; clear hw8))
      go_ret3
      rw [HR.out]
      exact whenD_post (is := true) hk6.sub hk6.b0
end Go.Proofs.YtgcbanljifalnaaDoor

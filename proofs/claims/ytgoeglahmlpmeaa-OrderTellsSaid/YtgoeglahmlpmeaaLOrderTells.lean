/- The law OrderTells, walked. Conditions: the arguments read; what they are made of is in its bounds. -/
import Derived.Test.YtgoeglahmlpmeaaF7
set_option linter.unusedVariables false
set_option linter.unusedSimpArgs false
namespace Go.Proofs.Ytgoeglahmlpmeaa
open Go.RowKit
attribute [local go_sem ↓] Go.wp_at_zero Go.wp_at_succ

set_option maxRecDepth 100000 in
set_option maxHeartbeats 8000000 in
theorem OrderTells_c (a b : Tm) (v v' : Value) (w : World) (ok : Nat → Prop) (hv : TmV w ok a v) (hv' : TmV w ok b v') (ha : a.Wf) (hb : b.Wf) :
    Calls Try.prog 7 #[v, v'] w fun e w' => e = .returned (.bool true) ∧ Below w.heap.size w w' := by
  obtain ⟨u, rfl, hS⟩ := hv
  obtain ⟨u', rfl, hS'⟩ := hv'
  obtain ⟨A, c, rfl⟩ := hS.form
  obtain ⟨A', c', rfl⟩ := hS'.form
  have hwf : WfL [a, b] := by simp [WfL, ha, hb]
  have HG := Lib.hid (fun W (hW : Below w.heap.size w W) => Great_c [a, b] _ _ _ (lit2 (w := w) (W := W) (ok := ok) (hS.below hW) (hS'.below hW) hW) hwf)
  have HB := Lib.hid (Bx.two hS hS')
  obtain ⟨c0, c1, c2, c3, -⟩ := HB.out.1.held
  obtain ⟨d0, d1, d2, d3, -⟩ := HB.out.2.held
  clear hS hS'
  cases hgr : great [a, b] with
  | true =>
    rw [hgr] at HG
    go_enter Try.func7, Try.ntmps7
    go_wp2_with (first
      | (go_at_call 13; have hq := HG.out _ HB.out.1.below; rw [World.size_alloc, World.size_alloc] at hq; refine hq.mono ?_; clear hq HG; rintro e w1 ⟨rfl, hb1⟩; have x1 := (HB.out.1.alloc _).then hb1)
      | (go_at_call 32; refine (wakes02_c _).mono ?_; rintro e w2 ⟨rfl, hb2⟩))
    go_ret
    exact ⟨rfl, (x1.then hb2).below⟩
  | false =>
    rw [hgr] at HG
    have hsz := great_siz hgr
    simp only [sizL] at hsz
    have hza : a.siz ≤ 1000000 := by omega
    have hzb : b.siz ≤ 1000000 := by omega
    clear hgr hsz hwf
    have HDa := Lib.hid (fun W (hW : Bx w ok w.heap.size a (.slice A a.l.length c) W) => refGood_c a _ W _ hW.tmv hza ha)
    have HDb := Lib.hid (fun W (hW : Bx w ok (w.heap.size + 1) b (.slice A' b.l.length c') W) => refGood_c b _ W _ hW.tmv hzb hb)
    cases hga : a.good with
    | false =>
      rw [hga] at HDa
      go_enter Try.func7, Try.ntmps7
      go_wp2_with (first
        | (go_at_call 13; have hq := HG.out _ HB.out.1.below; rw [World.size_alloc, World.size_alloc] at hq; refine hq.mono ?_; clear hq HG; rintro e w1 ⟨rfl, hb1⟩; have x1 := (HB.out.1.alloc _).then hb1; obtain ⟨e0, e1, e2, e3, -⟩ := x1.held)
        | (go_at_call 25; refine (HDa.out _ x1).mono ?_; clear HDa; rintro e w2 ⟨rfl, hb2⟩; replace x1 := x1.then hb2)
        | (go_at_call 32; refine (wakes02_c _).mono ?_; rintro e w3 ⟨rfl, hb3⟩))
      go_ret
      exact ⟨rfl, (x1.then hb3).below⟩
    | true =>
      rw [hga] at HDa
      cases hgb : b.good with
      | false =>
        rw [hgb] at HDb
        go_enter Try.func7, Try.ntmps7
        go_wp2_with (first
          | (go_at_call 13; have hq := HG.out _ HB.out.1.below; rw [World.size_alloc, World.size_alloc] at hq; refine hq.mono ?_; clear hq HG; rintro e w1 ⟨rfl, hb1⟩; have x1 := (HB.out.1.alloc _).then hb1; have x2 := (HB.out.2.alloc _).then hb1; obtain ⟨e0, e1, e2, e3, -⟩ := x1.held; obtain ⟨f0, f1, f2, f3, -⟩ := x2.held)
          | (go_at_call_has 25 (Value.slice A a.l.length c); refine (HDa.out _ x1).mono ?_; clear HDa; rintro e w2 ⟨rfl, hb2⟩; replace x1 := x1.then hb2; replace x2 := x2.then hb2; obtain ⟨f0, f1, f2, f3, -⟩ := x2.held)
          | (go_at_call 25; refine (HDb.out _ x2).mono ?_; clear HDb; rintro e w3 ⟨rfl, hb3⟩; replace x1 := x1.then hb3)
          | (go_at_call 32; refine (wakes02_c _).mono ?_; rintro e w4 ⟨rfl, hb4⟩))
        go_ret
        exact ⟨rfl, (x1.then hb4).below⟩
      | true =>
        rw [hgb] at HDb
        have HRC := Lib.hid (ref_cmp_good hga hgb)
        clear hga hgb
        go_enter Try.func7, Try.ntmps7
        go_wp2_with (first
          | (go_at_call 13; have hq := HG.out _ HB.out.1.below; rw [World.size_alloc, World.size_alloc] at hq; refine hq.mono ?_; clear hq HG; rintro e w1 ⟨rfl, hb1⟩; have x1 := (HB.out.1.alloc _).then hb1; have x2 := (HB.out.2.alloc _).then hb1; obtain ⟨e0, e1, e2, e3, -⟩ := x1.held; obtain ⟨f0, f1, f2, f3, -⟩ := x2.held)
          | (go_at_call_has 25 (Value.slice A a.l.length c); refine (HDa.out _ x1).mono ?_; clear HDa; rintro e w2 ⟨rfl, hb2⟩; replace x1 := x1.then hb2; replace x2 := x2.then hb2; obtain ⟨f0, f1, f2, f3, -⟩ := x2.held)
          | (go_at_call 25; refine (HDb.out _ x2).mono ?_; clear HDb; rintro e w3 ⟨rfl, hb3⟩; replace x1 := x1.then hb3; replace x2 := x2.then hb3; clear hb3))
        obtain ⟨e0, e1, e2, e3, -⟩ := x1.held
        obtain ⟨f0, f1, f2, f3, -⟩ := x2.held
        have x1h := Lib.hid x1
        have x2h := Lib.hid x2
        have HX := Lib.hid (show cmpT a b = refT a b from HRC.out.symm)
        have HS := Lib.hid (cmpT_self a)
        have he : ∀ x : Int, (x == x) = true := fun x => by simp
        clear x1 x2 HB c0 c1 c2 c3 d0 d1 d2 d3 hb1 hb2
        refine wp_region_held_drew (S := (fun W => W.cell? ⟨w.heap.size, 0, none⟩ = some (.int .u8 a.k) ∧ W.cell? ⟨w.heap.size, 1, none⟩ = some (.string a.s) ∧ W.cell? ⟨w.heap.size, 2, none⟩ = some (.int .i64 a.n) ∧ W.cell? ⟨w.heap.size, 3, none⟩ = some (.slice A a.l.length c) ∧ W.cell? ⟨w.heap.size + 1, 0, none⟩ = some (.int .u8 b.k) ∧ W.cell? ⟨w.heap.size + 1, 1, none⟩ = some (.string b.s) ∧ W.cell? ⟨w.heap.size + 1, 2, none⟩ = some (.int .i64 b.n) ∧ W.cell? ⟨w.heap.size + 1, 3, none⟩ = some (.slice A' b.l.length c') ∧ Bx w ok w.heap.size a (.slice A a.l.length c) W ∧ Bx w ok (w.heap.size + 1) b (.slice A' b.l.length c') W)) (by kernel_rfl) ?_ (fun hHeld => ?_)
        · exact ⟨e0, e1, e2, e3, f0, f1, f2, f3, x1h.out.drew, x2h.out.drew⟩
        change wpAnyH _ .any _ _ _ 17 (Array.replicate 17 false) _ _
        refine wpAnyH_take (i := 0) (oi := ⟨some 20, _, _, _, _, _⟩) (v := ?_) rfl (by kernel_rfl) (by kernel_rfl) (by kernel_rfl) (fun _ _ _ h => h) (Or.inl ⟨by rfl, ?_⟩) (by assumption) ?_
        rotate_left
        · (intro w hSw; (try dsimp only at hSw); go_simp; try (with_reducible rfl))
        (try simp only [Act.put, List.setIfInBounds_toArray, List.set_cons_zero, List.set_cons_succ])
        refine wpAnyH_take (i := 1) (oi := ⟨some 21, _, _, _, _, _⟩) (v := ?_) rfl (by kernel_rfl) (by kernel_rfl) (by kernel_rfl) (fun _ _ _ h => h) (Or.inl ⟨by rfl, ?_⟩) (by assumption) ?_
        rotate_left
        · (intro w hSw; (try dsimp only at hSw); go_simp; try (with_reducible rfl))
        (try simp only [Act.put, List.setIfInBounds_toArray, List.set_cons_zero, List.set_cons_succ])
        refine wpAnyH_take (i := 3) (oi := ⟨some 23, _, _, _, _, _⟩) (v := ?_) rfl (by kernel_rfl) (by kernel_rfl) (by kernel_rfl) (fun _ _ _ h => h) (Or.inl ⟨by rfl, ?_⟩) (by assumption) ?_
        rotate_left
        · (intro w hSw; (try dsimp only at hSw); go_simp; try (with_reducible rfl))
        (try simp only [Act.put, List.setIfInBounds_toArray, List.set_cons_zero, List.set_cons_succ])
        refine wpAnyH_take (i := 4) (oi := ⟨some 24, _, _, _, _, _⟩) (v := ?_) rfl (by kernel_rfl) (by kernel_rfl) (by kernel_rfl) (fun _ _ _ h => h) (Or.inl ⟨by rfl, ?_⟩) (by assumption) ?_
        rotate_left
        · (intro w hSw; (try dsimp only at hSw); go_simp; try (with_reducible rfl))
        (try simp only [Act.put, List.setIfInBounds_toArray, List.set_cons_zero, List.set_cons_succ])
        refine wpAnyH_ready (rs := [2]) (by kernel_rfl) (by simp) ?_
        refine AllReadyH.cons (o := ⟨some 22, _, _, _, _, _⟩) rfl (fun K hK => ?_) AllReadyH.nil
        go_simp
        have hq := Compare_c a b _ _ _ _ _ hHeld.2.2.2.2.2.2.2.2.1.tmv hHeld.2.2.2.2.2.2.2.2.2.tmv
        rw [HX.out] at hq
        refine hq.mono ?_
        clear hq
        rintro e w5 ⟨rfl, hb5⟩
        go_wp2_with fail
        refine hK.out _ _ (by obtain ⟨q0, q1, q2, q3, q4, q5, q6, q7, r0, r1⟩ := hHeld; exact ⟨held_cell hb5 q0, held_cell hb5 q1, held_cell hb5 q2, held_cell hb5 q3, held_cell hb5 q4, held_cell hb5 q5, held_cell hb5 q6, held_cell hb5 q7, r0.then hb5, r1.then hb5⟩) (fun hHeld => ?_)
        clear hK K
        (try simp only [Act.put, List.setIfInBounds_toArray, List.set_cons_zero, List.set_cons_succ])
        refine wpAnyH_ready (rs := [5]) (by kernel_rfl) (by simp) ?_
        refine AllReadyH.cons (o := ⟨some 25, _, _, _, _, _⟩) rfl (fun K hK => ?_) AllReadyH.nil
        go_simp
        refine (refCompare_c a b _ _ _ _ _ hHeld.2.2.2.2.2.2.2.2.1.tmv hHeld.2.2.2.2.2.2.2.2.2.tmv ha hb).mono ?_
        rintro e w6 ⟨rfl, hb6⟩
        go_wp2_with fail
        refine hK.out _ _ (by obtain ⟨q0, q1, q2, q3, q4, q5, q6, q7, r0, r1⟩ := hHeld; exact ⟨held_cell hb6 q0, held_cell hb6 q1, held_cell hb6 q2, held_cell hb6 q3, held_cell hb6 q4, held_cell hb6 q5, held_cell hb6 q6, held_cell hb6 q7, r0.then hb6, r1.then hb6⟩) (fun hHeld => ?_)
        clear hK K
        (try simp only [Act.put, List.setIfInBounds_toArray, List.set_cons_zero, List.set_cons_succ])
        refine wpAnyH_take (i := 6) (oi := ⟨some 26, _, _, _, _, _⟩) (v := ?_) rfl (by kernel_rfl) (by kernel_rfl) (by kernel_rfl) (fun _ _ _ h => h) (Or.inl ⟨by rfl, ?_⟩) (by assumption) ?_
        rotate_left
        · (intro w hSw; (try dsimp only at hSw); go_simp; try (with_reducible rfl))
        (try simp only [Act.put, List.setIfInBounds_toArray, List.set_cons_zero, List.set_cons_succ])
        refine wpAnyH_take (i := 7) (oi := ⟨some 27, _, _, _, _, _⟩) (v := ?_) rfl (by kernel_rfl) (by kernel_rfl) (by kernel_rfl) (fun _ _ _ h => h) (Or.inl ⟨by rfl, ?_⟩) (by assumption) ?_
        rotate_left
        · (intro w hSw; (try dsimp only at hSw); go_simp; try (with_reducible rfl))
        (try simp only [Act.put, List.setIfInBounds_toArray, List.set_cons_zero, List.set_cons_succ])
        refine wpAnyH_take (i := 8) (oi := ⟨some 28, _, _, _, _, _⟩) (v := ?_) rfl (by kernel_rfl) (by kernel_rfl) (by kernel_rfl) (fun _ _ _ h => h) (Or.inl ⟨by rfl, ?_⟩) (by assumption) ?_
        rotate_left
        · (intro w hSw; (try dsimp only at hSw); go_simp; try (with_reducible rfl))
        (try simp only [Act.put, List.setIfInBounds_toArray, List.set_cons_zero, List.set_cons_succ])
        refine wpAnyH_take (i := 9) (oi := ⟨some 29, _, _, _, _, _⟩) (v := ?_) rfl (by kernel_rfl) (by kernel_rfl) (by kernel_rfl) (fun _ _ _ h => h) (Or.inl ⟨by rfl, ?_⟩) (by assumption) ?_
        rotate_left
        · (intro w hSw; (try dsimp only at hSw); go_simp; try (with_reducible rfl))
        (try simp only [Act.put, List.setIfInBounds_toArray, List.set_cons_zero, List.set_cons_succ])
        refine wpAnyH_ready (rs := [10]) (by kernel_rfl) (by simp) ?_
        refine AllReadyH.cons (o := ⟨some 30, _, _, _, _, _⟩) rfl (fun K hK => ?_) AllReadyH.nil
        go_simp
        have hq := Compare_c a a _ _ _ _ _ hHeld.2.2.2.2.2.2.2.2.1.tmv hHeld.2.2.2.2.2.2.2.2.1.tmv
        rw [HS.out] at hq
        refine hq.mono ?_
        clear hq
        rintro e w7 ⟨rfl, hb7⟩
        go_wp2_with fail
        refine hK.out _ _ (by obtain ⟨q0, q1, q2, q3, q4, q5, q6, q7, r0, r1⟩ := hHeld; exact ⟨held_cell hb7 q0, held_cell hb7 q1, held_cell hb7 q2, held_cell hb7 q3, held_cell hb7 q4, held_cell hb7 q5, held_cell hb7 q6, held_cell hb7 q7, r0.then hb7, r1.then hb7⟩) (fun hHeld => ?_)
        clear hK K
        (try simp only [Act.put, List.setIfInBounds_toArray, List.set_cons_zero, List.set_cons_succ])
        refine wpAnyH_take (i := 11) (oi := ⟨some 31, _, _, _, _, _⟩) (v := ?_) rfl (by kernel_rfl) (by kernel_rfl) (by kernel_rfl) (fun _ _ _ h => h) (Or.inl ⟨by rfl, ?_⟩) (by assumption) ?_
        rotate_left
        · (intro w hSw; (try dsimp only at hSw); go_simp; try (with_reducible rfl))
        (try simp only [Act.put, List.setIfInBounds_toArray, List.set_cons_zero, List.set_cons_succ])
        refine wpAnyH_take (i := 12) (oi := ⟨some 32, _, _, _, _, _⟩) (v := ?_) rfl (by kernel_rfl) (by kernel_rfl) (by kernel_rfl) (fun _ _ _ h => h) (Or.inl ⟨by rfl, ?_⟩) (by assumption) ?_
        rotate_left
        · (intro w hSw; (try dsimp only at hSw); go_simp; try (with_reducible rfl))
        (try simp only [Act.put, List.setIfInBounds_toArray, List.set_cons_zero, List.set_cons_succ])
        refine wpAnyH_take (i := 13) (oi := ⟨some 33, _, _, _, _, _⟩) (v := ?_) rfl (by kernel_rfl) (by kernel_rfl) (by kernel_rfl) (fun _ _ _ h => h) (Or.inl ⟨by rfl, ?_⟩) (by assumption) ?_
        rotate_left
        · (intro w hSw; (try dsimp only at hSw); go_simp; try (with_reducible rfl))
        (try simp only [Act.put, List.setIfInBounds_toArray, List.set_cons_zero, List.set_cons_succ])
        refine wpAnyH_ready (rs := [14]) (by kernel_rfl) (by simp) ?_
        refine AllReadyH.cons (o := ⟨some 34, _, _, _, _, _⟩) rfl (fun K hK => ?_) AllReadyH.nil
        go_simp
        refine (wakes02_c _).mono ?_
        rintro e w8 ⟨rfl, hb8⟩
        go_wp2_with fail
        refine hK.out _ _ (by obtain ⟨q0, q1, q2, q3, q4, q5, q6, q7, r0, r1⟩ := hHeld; exact ⟨held_cell hb8 q0, held_cell hb8 q1, held_cell hb8 q2, held_cell hb8 q3, held_cell hb8 q4, held_cell hb8 q5, held_cell hb8 q6, held_cell hb8 q7, r0.then hb8, r1.then hb8⟩) (fun hHeld => ?_)
        clear hK K
        (try simp only [Act.put, List.setIfInBounds_toArray, List.set_cons_zero, List.set_cons_succ])
        refine wpAnyH_take (i := 15) (oi := ⟨some 35, _, _, _, _, _⟩) (v := ?_) rfl (by kernel_rfl) (by kernel_rfl) (by kernel_rfl) (fun _ _ _ h => h) (Or.inl ⟨by rfl, ?_⟩) (by assumption) ?_
        rotate_left
        · (intro w hSw; (try dsimp only at hSw); go_simp; try (with_reducible rfl))
        (try simp only [Act.put, List.setIfInBounds_toArray, List.set_cons_zero, List.set_cons_succ])
        refine wpAnyH_take (i := 16) (oi := ⟨some 4, _, _, _, _, _⟩) (v := ?_) rfl (by kernel_rfl) (by kernel_rfl) (by kernel_rfl) (fun _ _ _ h => h) (Or.inl ⟨by rfl, ?_⟩) (by assumption) ?_
        rotate_left
        · (intro w hSw; (try dsimp only at hSw); go_simp; try (with_reducible rfl))
        (try simp only [Act.put, List.setIfInBounds_toArray, List.set_cons_zero, List.set_cons_succ])
        refine wpAnyH_done (by kernel_rfl) ?_ _
        have hH := hHeld
        clear hHeld
        go_wp2
        go_ret
        exact ⟨rfl, hH.2.2.2.2.2.2.2.2.1.below⟩
end Go.Proofs.Ytgoeglahmlpmeaa

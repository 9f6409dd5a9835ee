/- Walks of the library's merge by turning: one element and others. Conditions: the row is the call's own. -/
import Derived.Test.YtdflckjnpgbjlaaZd
import Derived.Test.YtdflckjnpgbjlaaZe
set_option linter.unusedVariables false
set_option maxRecDepth 20000
set_option linter.unusedSimpArgs false
namespace Go.Proofs.Ytdflckjnpgbjlaa
open Go.RowKit
attribute [local go_sem ↓] Go.wp_at_zero Go.wp_at_succ
set_option maxRecDepth 100000 in
set_option maxHeartbeats 8000000 in
theorem sm1_c (g cap : Nat) (ok : Nat → Prop) (P : List Tm) (x : Tm) (R Q : List Tm) (w : World) (hR : Rw g cap ok (P ++ ([x] ++ (R ++ Q))) w) (hn : (P ++ ([x] ++ (R ++ Q))).length ≤ 1000000) (hS : Sd R) {N a m b : Nat} (hN : N = (P ++ ([x] ++ (R ++ Q))).length) (ha : a = P.length) (hm : m = a + 1) (hb : b = m + R.length) :
    Calls Try.prog 152 #[.slice (some ⟨g, 0, none⟩) N cap, .int .i64 (a : Int), .int .i64 (m : Int), .int .i64 (b : Int), .func (.func 51) #[] #[]] w fun e w' => e = .returned (.tuple #[]) ∧ (∃ M, Sd M ∧ M.Perm ([x] ++ R) ∧ Rw g cap ok (P ++ (M ++ Q)) w') ∧ Keeps (fun k => k = g) w w' := by
  have hNc : N ≤ cap := by rw [hN]; exact hR.len
  rw [← hN] at hn
  have hNN : N = P.length + 1 + R.length + Q.length := by rw [hN]; simp; omega
  have hbs := BsI.start R (fun y => cmpT y x < 0) m
  rw [← hb] at hbs
  have HBS := Lib.hid hbs
  have HL := Lib.hid (And.intro hNN (And.intro ha (And.intro hm hb)))
  have HSd := Lib.hid hS
  have hMv := MvR.start P x
  obtain ⟨zs, hzs⟩ : ∃ zs, zs = P ++ ([x] ++ (R ++ Q)) := ⟨_, rfl⟩
  rw [← hzs] at hR hN
  have HZ := Lib.hid hzs
  have HR := Lib.hid hR
  have hw1 : IntKind.i64.wrap ((m : Int) - (a : Int)) = 1 := by rw [IntKind.wrap_i64]; omega
  have ham : a < m := by omega
  have hmb : m ≤ b := by omega
  have hbN : b ≤ N := by omega
  clear hR hN hNN ha hm hb hbs hS hMv hzs
  go_enter Try.func152, Try.ntmps152
  go_wp2
  go_loopw [10, 11] (fun u v wr => ∃ (i j : Nat), u = .int .i64 (i : Int) ∧ v = .int .i64 (j : Int) ∧ Hid (BsI R (fun y => cmpT y x < 0) m i j) ∧ Rw g cap ok zs wr ∧ Keeps (fun k => k = g) w wr) (fun u v _ => (intOf v).toNat - (intOf u).toNat)
  case atStart => exact ⟨m, b, rfl, rfl, HBS, HR.out, Keeps.refl _ _⟩
  case round =>
    clear HR HBS hw1
    obtain ⟨i, j, rfl, rfl, hB, hR, hK⟩ := hrel
    obtain ⟨hi1, hi2, hi3⟩ := hB.out.len
    have hjb : j ≤ b := by obtain ⟨l1, l2, l3, l4⟩ := HL.out; omega
    clear hi3
    by_cases hlt : i < j
    · have hil : (i : Int) < (j : Int) := by omega
      obtain ⟨h, hh⟩ : ∃ h, h = (i + j) / 2 := ⟨_, rfl⟩
      have hhd : ((i : Int) + (j : Int)) / 2 = (h : Int) := by omega
      have hih : i ≤ h := by omega
      have hhj : h < j := by omega
      have hzl : zs.length = N := by rw [HZ.out]; have := HL.out.1; simp; omega
      have hxl : h < zs.length := by omega
      have hyl : a < zs.length := by omega
      have hRl : h - m < R.length := by obtain ⟨l1, l2, l3, l4⟩ := HL.out; omega
      have hst := hB.out.step HSd.out (fun y z h1 h2 => lt_of_le h1 h2) hih hhj hRl
      have ex : zs[h] = R[h - m] := by
        have l := HL.out
        simp only [HZ.out]
        exact get_R (L := [x]) hRl (by simp; omega) _
      have ey : zs[a] = x := by
        have l := HL.out
        simp only [HZ.out]
        exact get_L (L := [x]) (i := 0) (by simp) (by omega) _
      obtain ⟨ux, k0, k1, k2, k3, -, -, -, -, k4⟩ := hR.elem hxl
      obtain ⟨uy, n0, n1, n2, n3, -, -, -, -, n4⟩ := hR.elem hyl
      obtain ⟨uA, uc, rfl⟩ := k4.form
      obtain ⟨vA, vc, rfl⟩ := n4.form
      rw [← ex] at hst
      rw [ey] at n0 n1 n2 n3 n4
      have HI1 := Lib.hid hst.1
      have HI2 := Lib.hid hst.2
      have HRb := Lib.hid hR
      have HKb := Lib.hid hK
      have q1 : (h : Int) < N := by omega
      have q2 : (a : Int) < N := by omega
      have q3 : (h : Int) < cap := by omega
      have q4 : (a : Int) < cap := by omega
      have hglt := hR.lt
      clear hst ex ey hR hK hB hRl hh
      generalize zs[h] = t at k0 k1 k2 k3 k4 HI1 HI2
      have HC := Lib.hid (fun W (h1 : Kd.tm.S W ok t.l (.slice uA t.l.length uc)) (h2 : Kd.tm.S W ok x.l (.slice vA x.l.length vc)) => Compare_c t x W ok ok _ _ ⟨_, rfl, h1⟩ ⟨_, rfl, h2⟩)
      generalize cmpT t x = c at HC HI1 HI2
      by_cases hx : c < 0
      · have hx' : decide (c < 0) = true := by simpa using hx
        go_wp2
        refine wp_region_held_drew (S := (fun W => W.cell? ⟨g, h * 4, none⟩ = some (.int .u8 t.k) ∧ W.cell? ⟨g, h * 4 + 1, none⟩ = some (.string t.s) ∧ W.cell? ⟨g, h * 4 + 2, none⟩ = some (.int .i64 t.n) ∧ W.cell? ⟨g, h * 4 + 3, none⟩ = some (.slice uA t.l.length uc) ∧ W.cell? ⟨g, a * 4, none⟩ = some (.int .u8 x.k) ∧ W.cell? ⟨g, a * 4 + 1, none⟩ = some (.string x.s) ∧ W.cell? ⟨g, a * 4 + 2, none⟩ = some (.int .i64 x.n) ∧ W.cell? ⟨g, a * 4 + 3, none⟩ = some (.slice vA x.l.length vc) ∧ Kd.tm.S W ok t.l (.slice uA t.l.length uc) ∧ Kd.tm.S W ok x.l (.slice vA x.l.length vc) ∧ Rw g cap ok zs W ∧ Keeps (fun k => k = g) w W)) (by kernel_rfl) ?_ (fun hHeld => ?_)
        · exact ⟨k0, k1, k2, k3, n0, n1, n2, n3, k4.below (Below.refl _ wr).drew, n4.below (Below.refl _ wr).drew, HRb.out.then (Below.refl _ _).drew, HKb.out.drew⟩
        change wpAnyH _ .any _ _ _ 11 (Array.replicate 11 false) _ _
        refine wpAnyH_take (i := 0) (oi := ⟨some 40, _, _, _, _, _⟩) (v := ?_) rfl (by kernel_rfl) (by kernel_rfl) (by kernel_rfl) (fun _ _ _ h => h) (Or.inl ⟨by rfl, ?_⟩) (by assumption) ?_
        rotate_left
        · (intro w hSw; (try dsimp only at hSw); go_simp; try (with_reducible rfl))
        (try simp only [Act.put, List.setIfInBounds_toArray, List.set_cons_zero, List.set_cons_succ])
        refine wpAnyH_take (i := 1) (oi := ⟨some 41, _, _, _, _, _⟩) (v := ?_) rfl (by kernel_rfl) (by kernel_rfl) (by kernel_rfl) (fun _ _ _ h => h) (Or.inl ⟨by rfl, ?_⟩) (by assumption) ?_
        rotate_left
        · (intro w hSw; (try dsimp only at hSw); go_simp; try (with_reducible rfl))
        (try simp only [Act.put, List.setIfInBounds_toArray, List.set_cons_zero, List.set_cons_succ])
        refine wpAnyH_take (i := 2) (oi := ⟨some 42, _, _, _, _, _⟩) (v := ?_) rfl (by kernel_rfl) (by kernel_rfl) (by kernel_rfl) (fun _ _ _ h => h) (Or.inl ⟨by rfl, ?_⟩) (by assumption) ?_
        rotate_left
        · (intro w hSw; (try dsimp only at hSw); go_simp; try (with_reducible rfl))
        (try simp only [Act.put, List.setIfInBounds_toArray, List.set_cons_zero, List.set_cons_succ])
        refine wpAnyH_take (i := 3) (oi := ⟨some 43, _, _, _, _, _⟩) (v := ?_) rfl (by kernel_rfl) (by kernel_rfl) (by kernel_rfl) (fun _ _ _ h => h) (Or.inl ⟨by rfl, ?_⟩) (by assumption) ?_
        rotate_left
        · (intro w hSw; (try dsimp only at hSw); go_simp; try (with_reducible rfl))
        (try simp only [Act.put, List.setIfInBounds_toArray, List.set_cons_zero, List.set_cons_succ])
        refine wpAnyH_take (i := 4) (oi := ⟨some 44, _, _, _, _, _⟩) (v := ?_) rfl (by kernel_rfl) (by kernel_rfl) (by kernel_rfl) (fun _ _ _ h => h) (Or.inl ⟨by rfl, ?_⟩) (by assumption) ?_
        rotate_left
        · (intro w hSw; (try dsimp only at hSw); go_simp; try (with_reducible rfl))
        (try simp only [Act.put, List.setIfInBounds_toArray, List.set_cons_zero, List.set_cons_succ])
        refine wpAnyH_take (i := 5) (oi := ⟨some 45, _, _, _, _, _⟩) (v := ?_) rfl (by kernel_rfl) (by kernel_rfl) (by kernel_rfl) (fun _ _ _ h => h) (Or.inl ⟨by rfl, ?_⟩) (by assumption) ?_
        rotate_left
        · (intro w hSw; (try dsimp only at hSw); go_simp; try (with_reducible rfl))
        (try simp only [Act.put, List.setIfInBounds_toArray, List.set_cons_zero, List.set_cons_succ])
        refine wpAnyH_take (i := 6) (oi := ⟨some 46, _, _, _, _, _⟩) (v := ?_) rfl (by kernel_rfl) (by kernel_rfl) (by kernel_rfl) (fun _ _ _ h => h) (Or.inl ⟨by rfl, ?_⟩) (by assumption) ?_
        rotate_left
        · (intro w hSw; (try dsimp only at hSw); go_simp; try (with_reducible rfl))
        (try simp only [Act.put, List.setIfInBounds_toArray, List.set_cons_zero, List.set_cons_succ])
        refine wpAnyH_take (i := 7) (oi := ⟨some 47, _, _, _, _, _⟩) (v := ?_) rfl (by kernel_rfl) (by kernel_rfl) (by kernel_rfl) (fun _ _ _ h => h) (Or.inl ⟨by rfl, ?_⟩) (by assumption) ?_
        rotate_left
        · (intro w hSw; (try dsimp only at hSw); go_simp; try (with_reducible rfl))
        (try simp only [Act.put, List.setIfInBounds_toArray, List.set_cons_zero, List.set_cons_succ])
        refine wpAnyH_take (i := 8) (oi := ⟨some 48, _, _, _, _, _⟩) (v := ?_) rfl (by kernel_rfl) (by kernel_rfl) (by kernel_rfl) (fun _ _ _ h => h) (Or.inl ⟨by rfl, ?_⟩) (by assumption) ?_
        rotate_left
        · (intro w hSw; (try dsimp only at hSw); go_simp; try (with_reducible rfl))
        (try simp only [Act.put, List.setIfInBounds_toArray, List.set_cons_zero, List.set_cons_succ])
        refine wpAnyH_ready (rs := [9]) (by kernel_rfl) (by simp) ?_
        refine AllReadyH.cons (o := ⟨some 49, _, _, _, _, _⟩) rfl (fun K hK => ?_) AllReadyH.nil
        go_simp
        refine (HC.out _ hHeld.2.2.2.2.2.2.2.2.1 hHeld.2.2.2.2.2.2.2.2.2.1).mono ?_
        rintro e w9 ⟨rfl, hb9⟩
        go_wp2_with fail
        refine hK.out _ _ (by obtain ⟨q0, q1, q2, q3, q4, q5, q6, q7, q8, q9, qR, qK⟩ := hHeld; exact ⟨held_cell hb9 q0, held_cell hb9 q1, held_cell hb9 q2, held_cell hb9 q3, held_cell hb9 q4, held_cell hb9 q5, held_cell hb9 q6, held_cell hb9 q7, q8.below hb9, q9.below hb9, qR.then hb9, qK.then hb9⟩) (fun hHeld => ?_)
        clear hK K
        (try simp only [Act.put, List.setIfInBounds_toArray, List.set_cons_zero, List.set_cons_succ])
        refine wpAnyH_take (i := 10) (oi := ⟨some 50, _, _, _, _, _⟩) (v := ?_) rfl (by kernel_rfl) (by kernel_rfl) (by kernel_rfl) (fun _ _ _ h => h) (Or.inl ⟨by rfl, ?_⟩) (by assumption) ?_
        rotate_left
        · (intro w hSw; (try dsimp only at hSw); go_simp; try (with_reducible rfl))
        (try simp only [Act.put, List.setIfInBounds_toArray, List.set_cons_zero, List.set_cons_succ])
        refine wpAnyH_done (by kernel_rfl) ?_ _
        have hH := hHeld
        clear hHeld
        go_wp2
        go_roundw
        case rel => exact ⟨h + 1, j, by go_num, rfl, Lib.hid (HI1.out hx), hH.2.2.2.2.2.2.2.2.2.2.1, hH.2.2.2.2.2.2.2.2.2.2.2⟩
        case measure => simp [intOf]; omega
      · have hx' : decide (c < 0) = false := by simpa using hx
        go_wp2
        refine wp_region_held_drew (S := (fun W => W.cell? ⟨g, h * 4, none⟩ = some (.int .u8 t.k) ∧ W.cell? ⟨g, h * 4 + 1, none⟩ = some (.string t.s) ∧ W.cell? ⟨g, h * 4 + 2, none⟩ = some (.int .i64 t.n) ∧ W.cell? ⟨g, h * 4 + 3, none⟩ = some (.slice uA t.l.length uc) ∧ W.cell? ⟨g, a * 4, none⟩ = some (.int .u8 x.k) ∧ W.cell? ⟨g, a * 4 + 1, none⟩ = some (.string x.s) ∧ W.cell? ⟨g, a * 4 + 2, none⟩ = some (.int .i64 x.n) ∧ W.cell? ⟨g, a * 4 + 3, none⟩ = some (.slice vA x.l.length vc) ∧ Kd.tm.S W ok t.l (.slice uA t.l.length uc) ∧ Kd.tm.S W ok x.l (.slice vA x.l.length vc) ∧ Rw g cap ok zs W ∧ Keeps (fun k => k = g) w W)) (by kernel_rfl) ?_ (fun hHeld => ?_)
        · exact ⟨k0, k1, k2, k3, n0, n1, n2, n3, k4.below (Below.refl _ wr).drew, n4.below (Below.refl _ wr).drew, HRb.out.then (Below.refl _ _).drew, HKb.out.drew⟩
        change wpAnyH _ .any _ _ _ 11 (Array.replicate 11 false) _ _
        refine wpAnyH_take (i := 0) (oi := ⟨some 40, _, _, _, _, _⟩) (v := ?_) rfl (by kernel_rfl) (by kernel_rfl) (by kernel_rfl) (fun _ _ _ h => h) (Or.inl ⟨by rfl, ?_⟩) (by assumption) ?_
        rotate_left
        · (intro w hSw; (try dsimp only at hSw); go_simp; try (with_reducible rfl))
        (try simp only [Act.put, List.setIfInBounds_toArray, List.set_cons_zero, List.set_cons_succ])
        refine wpAnyH_take (i := 1) (oi := ⟨some 41, _, _, _, _, _⟩) (v := ?_) rfl (by kernel_rfl) (by kernel_rfl) (by kernel_rfl) (fun _ _ _ h => h) (Or.inl ⟨by rfl, ?_⟩) (by assumption) ?_
        rotate_left
        · (intro w hSw; (try dsimp only at hSw); go_simp; try (with_reducible rfl))
        (try simp only [Act.put, List.setIfInBounds_toArray, List.set_cons_zero, List.set_cons_succ])
        refine wpAnyH_take (i := 2) (oi := ⟨some 42, _, _, _, _, _⟩) (v := ?_) rfl (by kernel_rfl) (by kernel_rfl) (by kernel_rfl) (fun _ _ _ h => h) (Or.inl ⟨by rfl, ?_⟩) (by assumption) ?_
        rotate_left
        · (intro w hSw; (try dsimp only at hSw); go_simp; try (with_reducible rfl))
        (try simp only [Act.put, List.setIfInBounds_toArray, List.set_cons_zero, List.set_cons_succ])
        refine wpAnyH_take (i := 3) (oi := ⟨some 43, _, _, _, _, _⟩) (v := ?_) rfl (by kernel_rfl) (by kernel_rfl) (by kernel_rfl) (fun _ _ _ h => h) (Or.inl ⟨by rfl, ?_⟩) (by assumption) ?_
        rotate_left
        · (intro w hSw; (try dsimp only at hSw); go_simp; try (with_reducible rfl))
        (try simp only [Act.put, List.setIfInBounds_toArray, List.set_cons_zero, List.set_cons_succ])
        refine wpAnyH_take (i := 4) (oi := ⟨some 44, _, _, _, _, _⟩) (v := ?_) rfl (by kernel_rfl) (by kernel_rfl) (by kernel_rfl) (fun _ _ _ h => h) (Or.inl ⟨by rfl, ?_⟩) (by assumption) ?_
        rotate_left
        · (intro w hSw; (try dsimp only at hSw); go_simp; try (with_reducible rfl))
        (try simp only [Act.put, List.setIfInBounds_toArray, List.set_cons_zero, List.set_cons_succ])
        refine wpAnyH_take (i := 5) (oi := ⟨some 45, _, _, _, _, _⟩) (v := ?_) rfl (by kernel_rfl) (by kernel_rfl) (by kernel_rfl) (fun _ _ _ h => h) (Or.inl ⟨by rfl, ?_⟩) (by assumption) ?_
        rotate_left
        · (intro w hSw; (try dsimp only at hSw); go_simp; try (with_reducible rfl))
        (try simp only [Act.put, List.setIfInBounds_toArray, List.set_cons_zero, List.set_cons_succ])
        refine wpAnyH_take (i := 6) (oi := ⟨some 46, _, _, _, _, _⟩) (v := ?_) rfl (by kernel_rfl) (by kernel_rfl) (by kernel_rfl) (fun _ _ _ h => h) (Or.inl ⟨by rfl, ?_⟩) (by assumption) ?_
        rotate_left
        · (intro w hSw; (try dsimp only at hSw); go_simp; try (with_reducible rfl))
        (try simp only [Act.put, List.setIfInBounds_toArray, List.set_cons_zero, List.set_cons_succ])
        refine wpAnyH_take (i := 7) (oi := ⟨some 47, _, _, _, _, _⟩) (v := ?_) rfl (by kernel_rfl) (by kernel_rfl) (by kernel_rfl) (fun _ _ _ h => h) (Or.inl ⟨by rfl, ?_⟩) (by assumption) ?_
        rotate_left
        · (intro w hSw; (try dsimp only at hSw); go_simp; try (with_reducible rfl))
        (try simp only [Act.put, List.setIfInBounds_toArray, List.set_cons_zero, List.set_cons_succ])
        refine wpAnyH_take (i := 8) (oi := ⟨some 48, _, _, _, _, _⟩) (v := ?_) rfl (by kernel_rfl) (by kernel_rfl) (by kernel_rfl) (fun _ _ _ h => h) (Or.inl ⟨by rfl, ?_⟩) (by assumption) ?_
        rotate_left
        · (intro w hSw; (try dsimp only at hSw); go_simp; try (with_reducible rfl))
        (try simp only [Act.put, List.setIfInBounds_toArray, List.set_cons_zero, List.set_cons_succ])
        refine wpAnyH_ready (rs := [9]) (by kernel_rfl) (by simp) ?_
        refine AllReadyH.cons (o := ⟨some 49, _, _, _, _, _⟩) rfl (fun K hK => ?_) AllReadyH.nil
        go_simp
        refine (HC.out _ hHeld.2.2.2.2.2.2.2.2.1 hHeld.2.2.2.2.2.2.2.2.2.1).mono ?_
        rintro e w9 ⟨rfl, hb9⟩
        go_wp2_with fail
        refine hK.out _ _ (by obtain ⟨q0, q1, q2, q3, q4, q5, q6, q7, q8, q9, qR, qK⟩ := hHeld; exact ⟨held_cell hb9 q0, held_cell hb9 q1, held_cell hb9 q2, held_cell hb9 q3, held_cell hb9 q4, held_cell hb9 q5, held_cell hb9 q6, held_cell hb9 q7, q8.below hb9, q9.below hb9, qR.then hb9, qK.then hb9⟩) (fun hHeld => ?_)
        clear hK K
        (try simp only [Act.put, List.setIfInBounds_toArray, List.set_cons_zero, List.set_cons_succ])
        refine wpAnyH_take (i := 10) (oi := ⟨some 50, _, _, _, _, _⟩) (v := ?_) rfl (by kernel_rfl) (by kernel_rfl) (by kernel_rfl) (fun _ _ _ h => h) (Or.inl ⟨by rfl, ?_⟩) (by assumption) ?_
        rotate_left
        · (intro w hSw; (try dsimp only at hSw); go_simp; try (with_reducible rfl))
        (try simp only [Act.put, List.setIfInBounds_toArray, List.set_cons_zero, List.set_cons_succ])
        refine wpAnyH_done (by kernel_rfl) ?_ _
        have hH := hHeld
        clear hHeld
        go_wp2
        go_roundw
        case rel => exact ⟨i, h, rfl, rfl, Lib.hid (HI2.out hx), hH.2.2.2.2.2.2.2.2.2.2.1, hH.2.2.2.2.2.2.2.2.2.2.2⟩
        case measure => simp [intOf]; omega
    · have hil : ¬ (i : Int) < (j : Int) := by omega
      obtain rfl : i = j := by omega
      obtain ⟨A, C, eR, ei, hA, hC⟩ := hB.out.fin
      obtain ⟨e, he⟩ : ∃ e, e = a + A.length := ⟨_, rfl⟩
      have hwe : IntKind.i64.wrap ((i : Int) - 1) = (e : Int) := by obtain ⟨l1, l2, l3, l4⟩ := HL.out; rw [IntKind.wrap_i64]; omega
      have hmv : MvR P x A (C ++ Q) a zs := by
        have h1 := MvR.start P x A (C ++ Q)
        rw [HZ.out, HL.out.2.1, eR]
        simpa using h1
      have HM := Lib.hid hmv
      have HF : Hid (Sd (A ++ x :: C) ∧ (A ++ x :: C).Perm ([x] ++ R)) := Lib.hid (by
        have hs := HSd.out
        rw [eR] at hs ⊢
        exact ⟨Sd.put hs (fun y hy => Le.of_lt (hA y hy)) (fun y hy => not_lt.1 (hC y hy)), List.perm_middle⟩)
      have HE := Lib.hid he
      have HRb := Lib.hid hR
      have HKb := Lib.hid hK
      have hae : a ≤ e := by omega
      have heN : e < N := by obtain ⟨l1, l2, l3, l4⟩ := HL.out; omega
      clear hB eR ei hA hC he hmv hR hK hi1 hi2 hjb hmb
      go_wp2
      go_loopw [13] (fun q wr => ∃ (k : Nat) (ys : List Tm), q = .int .i64 (k : Int) ∧ Hid (MvR P x A (C ++ Q) k ys) ∧ Rw g cap ok ys wr ∧ Keeps (fun k => k = g) w wr) (fun q _ => e - (intOf q).toNat)
      case atStart => exact ⟨a, zs, rfl, HM, HRb.out, HKb.out⟩
      case round =>
        clear HM HRb HKb
        obtain ⟨k, ys, rfl, hM, hR, hK⟩ := hrel
        have hml := hM.out.len
        by_cases hke : k < e
        · have hke' : (k : Int) < (e : Int) := by omega
          have hyN : ys.length = N := by
            have h1 := hml.2.2
            have h2 := HL.out
            have h3 := HF.out.2.length_eq
            simp only [List.length_append, List.length_cons, List.length_nil] at h1 h3
            omega
          have hxl : k < ys.length := by omega
          have hyl : k + 1 < ys.length := by omega
          have HST : Hid (MvR P x A (C ++ Q) (k + 1) ((ys.set k ys[k + 1]).set (k + 1) ys[k])) := Lib.hid (hM.out.step (by have := HE.out; have := HL.out; omega) hxl hyl)
          obtain ⟨ux, k0, k1, k2, k3, fk0, fk1, fk2, fk3, k4⟩ := hR.elem hxl
          obtain ⟨uy, n0, n1, n2, n3, fn0, fn1, fn2, fn3, n4⟩ := hR.elem hyl
          obtain ⟨uA, uc, rfl⟩ := k4.form
          obtain ⟨vA, vc, rfl⟩ := n4.form
          have HSW := Lib.hid (hR.swap hxl hyl k4 n4)
          have HKW := Lib.hid (hK.swap (g := g) (x := k) (y := k + 1) (t := ys[k + 1]) (u := ys[k]) (vt := .slice vA ys[k + 1].l.length vc) (vu := .slice uA ys[k].l.length uc))
          have hglt := hR.lt
          have hk1 : IntKind.i64.wrap ((k : Int) + 1) = (k : Int) + 1 := by rw [IntKind.wrap_i64]; omega
          have q5 : (0 : Int) ≤ (k : Int) + 1 := by omega
          have q1 : (k : Int) < N := by omega
          have q2 : (k : Int) + 1 < N := by omega
          have q3 : (k : Int) < cap := by omega
          have q4 : (k : Int) + 1 < cap := by omega
          clear hR hK hM hyN hml
          generalize hxs : (ys.set k ys[k + 1]).set (k + 1) ys[k] = zz at HSW HST
          generalize ys[k] = t at k0 k1 k2 k3 k4 HSW HKW
          generalize ys[k + 1] = u at n0 n1 n2 n3 n4 HSW HKW
          unfold set4 at HSW HKW
          clear hxs hxl hyl k4 n4
          go_wp2
          refine wp_region_held_drew (S := (fun _ => True)) (by kernel_rfl) ?_ (fun hHeld => ?_)
          · trivial
          change wpAnyH _ .any _ _ _ 18 (Array.replicate 18 false) _ _
          refine wpAnyH_take (i := 0) (oi := ⟨some 61, _, _, _, _, _⟩) (v := ?_) rfl (by kernel_rfl) (by kernel_rfl) (by kernel_rfl) (fun _ _ _ h => h) (Or.inl ⟨by rfl, ?_⟩) (by assumption) ?_
          rotate_left
          · (intro w hSw; (try dsimp only at hSw); go_simp; try (with_reducible rfl))
          (try simp only [Act.put, List.setIfInBounds_toArray, List.set_cons_zero, List.set_cons_succ])
          refine wpAnyH_take (i := 1) (oi := ⟨some 62, _, _, _, _, _⟩) (v := ?_) rfl (by kernel_rfl) (by kernel_rfl) (by kernel_rfl) (fun _ _ _ h => h) (Or.inl ⟨by rfl, ?_⟩) (by assumption) ?_
          rotate_left
          · (intro w hSw; (try dsimp only at hSw); go_simp; try (with_reducible rfl))
          (try simp only [Act.put, List.setIfInBounds_toArray, List.set_cons_zero, List.set_cons_succ])
          refine wpAnyH_take (i := 2) (oi := ⟨some 63, _, _, _, _, _⟩) (v := ?_) rfl (by kernel_rfl) (by kernel_rfl) (by kernel_rfl) (fun _ _ _ h => h) (Or.inl ⟨by rfl, ?_⟩) (by assumption) ?_
          rotate_left
          · (intro w hSw; (try dsimp only at hSw); go_simp; try (with_reducible rfl))
          (try simp only [Act.put, List.setIfInBounds_toArray, List.set_cons_zero, List.set_cons_succ])
          refine wpAnyH_take (i := 3) (oi := ⟨some 64, _, _, _, _, _⟩) (v := ?_) rfl (by kernel_rfl) (by kernel_rfl) (by kernel_rfl) (fun _ _ _ h => h) (Or.inl ⟨by rfl, ?_⟩) (by assumption) ?_
          rotate_left
          · (intro w hSw; (try dsimp only at hSw); go_simp; try (with_reducible rfl))
          (try simp only [Act.put, List.setIfInBounds_toArray, List.set_cons_zero, List.set_cons_succ])
          refine wpAnyH_take (i := 4) (oi := ⟨some 65, _, _, _, _, _⟩) (v := ?_) rfl (by kernel_rfl) (by kernel_rfl) (by kernel_rfl) (fun _ _ _ h => h) (Or.inl ⟨by rfl, ?_⟩) (by assumption) ?_
          rotate_left
          · (intro w hSw; (try dsimp only at hSw); go_simp; try (with_reducible rfl))
          (try simp only [Act.put, List.setIfInBounds_toArray, List.set_cons_zero, List.set_cons_succ])
          refine wpAnyH_take (i := 5) (oi := ⟨some 66, _, _, _, _, _⟩) (v := ?_) rfl (by kernel_rfl) (by kernel_rfl) (by kernel_rfl) (fun _ _ _ h => h) (Or.inl ⟨by rfl, ?_⟩) (by assumption) ?_
          rotate_left
          · (intro w hSw; (try dsimp only at hSw); go_simp; try (with_reducible rfl))
          (try simp only [Act.put, List.setIfInBounds_toArray, List.set_cons_zero, List.set_cons_succ])
          refine wpAnyH_take (i := 6) (oi := ⟨some 67, _, _, _, _, _⟩) (v := ?_) rfl (by kernel_rfl) (by kernel_rfl) (by kernel_rfl) (fun _ _ _ h => h) (Or.inl ⟨by rfl, ?_⟩) (by assumption) ?_
          rotate_left
          · (intro w hSw; (try dsimp only at hSw); go_simp; try (with_reducible rfl))
          (try simp only [Act.put, List.setIfInBounds_toArray, List.set_cons_zero, List.set_cons_succ])
          refine wpAnyH_take (i := 7) (oi := ⟨some 68, _, _, _, _, _⟩) (v := ?_) rfl (by kernel_rfl) (by kernel_rfl) (by kernel_rfl) (fun _ _ _ h => h) (Or.inl ⟨by rfl, ?_⟩) (by assumption) ?_
          rotate_left
          · (intro w hSw; (try dsimp only at hSw); go_simp; try (with_reducible rfl))
          (try simp only [Act.put, List.setIfInBounds_toArray, List.set_cons_zero, List.set_cons_succ])
          refine wpAnyH_take (i := 8) (oi := ⟨some 69, _, _, _, _, _⟩) (v := ?_) rfl (by kernel_rfl) (by kernel_rfl) (by kernel_rfl) (fun _ _ _ h => h) (Or.inl ⟨by rfl, ?_⟩) (by assumption) ?_
          rotate_left
          · (intro w hSw; (try dsimp only at hSw); go_simp; try (with_reducible rfl))
          (try simp only [Act.put, List.setIfInBounds_toArray, List.set_cons_zero, List.set_cons_succ])
          refine wpAnyH_take (i := 10) (oi := ⟨some 71, _, _, _, _, _⟩) (v := ?_) rfl (by kernel_rfl) (by kernel_rfl) (by kernel_rfl) (fun _ _ _ h => h) (Or.inl ⟨by rfl, ?_⟩) (by assumption) ?_
          rotate_left
          · (intro w hSw; (try dsimp only at hSw); go_simp; try (with_reducible rfl))
          (try simp only [Act.put, List.setIfInBounds_toArray, List.set_cons_zero, List.set_cons_succ])
          refine wpAnyH_take (i := 11) (oi := ⟨some 72, _, _, _, _, _⟩) (v := ?_) rfl (by kernel_rfl) (by kernel_rfl) (by kernel_rfl) (fun _ _ _ h => h) (Or.inl ⟨by rfl, ?_⟩) (by assumption) ?_
          rotate_left
          · (intro w hSw; (try dsimp only at hSw); go_simp; try (with_reducible rfl))
          (try simp only [Act.put, List.setIfInBounds_toArray, List.set_cons_zero, List.set_cons_succ])
          refine wpAnyH_take (i := 12) (oi := ⟨some 73, _, _, _, _, _⟩) (v := ?_) rfl (by kernel_rfl) (by kernel_rfl) (by kernel_rfl) (fun _ _ _ h => h) (Or.inl ⟨by rfl, ?_⟩) (by assumption) ?_
          rotate_left
          · (intro w hSw; (try dsimp only at hSw); go_simp; try (with_reducible rfl))
          (try simp only [Act.put, List.setIfInBounds_toArray, List.set_cons_zero, List.set_cons_succ])
          refine wpAnyH_ready (rs := [9, 13]) (by kernel_rfl) (by simp) ?_
          refine AllReadyH.cons (o := ⟨some 70, _, _, _, _, _⟩) rfl (fun K hK => ?_) (AllReadyH.cons (o := ⟨some 74, _, _, _, _, _⟩) rfl (fun K hK => ?_) AllReadyH.nil)
          · go_simp
            refine hK.out _ _ trivial (fun hHeld => ?_)
            clear hK K
            (try simp only [Act.put, List.setIfInBounds_toArray, List.set_cons_zero, List.set_cons_succ])
            refine wpAnyH_ready (rs := [13]) (by kernel_rfl) (by simp) ?_
            refine AllReadyH.cons (o := ⟨some 74, _, _, _, _, _⟩) rfl (fun K hK => ?_) AllReadyH.nil
            go_simp
            refine hK.out _ _ trivial (fun hHeld => ?_)
            clear hK K
            (try simp only [Act.put, List.setIfInBounds_toArray, List.set_cons_zero, List.set_cons_succ])
            refine wpAnyH_take (i := 14) (oi := ⟨some 75, _, _, _, _, _⟩) (v := ?_) rfl (by kernel_rfl) (by kernel_rfl) (by kernel_rfl) (fun _ _ _ h => h) (Or.inl ⟨by rfl, ?_⟩) (by assumption) ?_
            rotate_left
            · (intro w hSw; (try dsimp only at hSw); go_simp; try (with_reducible rfl))
            (try simp only [Act.put, List.setIfInBounds_toArray, List.set_cons_zero, List.set_cons_succ])
            refine wpAnyH_ready (rs := [15]) (by kernel_rfl) (by simp) ?_
            refine AllReadyH.cons (o := ⟨none, _, _, _, _, _⟩) rfl (fun K hK => ?_) AllReadyH.nil
            go_simp
            refine hK.out _ _ trivial (fun hHeld => ?_)
            clear hK K
            (try simp only [Act.put, List.setIfInBounds_toArray, List.set_cons_zero, List.set_cons_succ])
            refine wpAnyH_take (i := 16) (oi := ⟨some 76, _, _, _, _, _⟩) (v := ?_) rfl (by kernel_rfl) (by kernel_rfl) (by kernel_rfl) (fun _ _ _ h => h) (Or.inl ⟨by rfl, ?_⟩) (by assumption) ?_
            rotate_left
            · (intro w hSw; (try dsimp only at hSw); go_simp; try (with_reducible rfl))
            (try simp only [Act.put, List.setIfInBounds_toArray, List.set_cons_zero, List.set_cons_succ])
            refine wpAnyH_ready (rs := [17]) (by kernel_rfl) (by simp) ?_
            refine AllReadyH.cons (o := ⟨none, _, _, _, _, _⟩) rfl (fun K hK => ?_) AllReadyH.nil
            go_simp
            refine hK.out _ _ trivial (fun hHeld => ?_)
            clear hK K
            (try simp only [Act.put, List.setIfInBounds_toArray, List.set_cons_zero, List.set_cons_succ])
            refine wpAnyH_done (by kernel_rfl) ?_ _
            go_wp2
            go_roundw
            case rel => exact ⟨k + 1, _, by go_num, Lib.hid (HST.out), HSW.out.then (Below.refl _ _).drew, HKW.out.drew⟩
            case measure => simp [intOf]; omega
          · go_simp
            refine hK.out _ _ trivial (fun hHeld => ?_)
            clear hK K
            (try simp only [Act.put, List.setIfInBounds_toArray, List.set_cons_zero, List.set_cons_succ])
            refine wpAnyH_ready (rs := [9]) (by kernel_rfl) (by simp) ?_
            refine AllReadyH.cons (o := ⟨some 70, _, _, _, _, _⟩) rfl (fun K hK => ?_) AllReadyH.nil
            go_simp
            refine hK.out _ _ trivial (fun hHeld => ?_)
            clear hK K
            (try simp only [Act.put, List.setIfInBounds_toArray, List.set_cons_zero, List.set_cons_succ])
            refine wpAnyH_take (i := 14) (oi := ⟨some 75, _, _, _, _, _⟩) (v := ?_) rfl (by kernel_rfl) (by kernel_rfl) (by kernel_rfl) (fun _ _ _ h => h) (Or.inl ⟨by rfl, ?_⟩) (by assumption) ?_
            rotate_left
            · (intro w hSw; (try dsimp only at hSw); go_simp; try (with_reducible rfl))
            (try simp only [Act.put, List.setIfInBounds_toArray, List.set_cons_zero, List.set_cons_succ])
            refine wpAnyH_ready (rs := [15]) (by kernel_rfl) (by simp) ?_
            refine AllReadyH.cons (o := ⟨none, _, _, _, _, _⟩) rfl (fun K hK => ?_) AllReadyH.nil
            go_simp
            refine hK.out _ _ trivial (fun hHeld => ?_)
            clear hK K
            (try simp only [Act.put, List.setIfInBounds_toArray, List.set_cons_zero, List.set_cons_succ])
            refine wpAnyH_take (i := 16) (oi := ⟨some 76, _, _, _, _, _⟩) (v := ?_) rfl (by kernel_rfl) (by kernel_rfl) (by kernel_rfl) (fun _ _ _ h => h) (Or.inl ⟨by rfl, ?_⟩) (by assumption) ?_
            rotate_left
            · (intro w hSw; (try dsimp only at hSw); go_simp; try (with_reducible rfl))
            (try simp only [Act.put, List.setIfInBounds_toArray, List.set_cons_zero, List.set_cons_succ])
            refine wpAnyH_ready (rs := [17]) (by kernel_rfl) (by simp) ?_
            refine AllReadyH.cons (o := ⟨none, _, _, _, _, _⟩) rfl (fun K hK => ?_) AllReadyH.nil
            go_simp
            refine hK.out _ _ trivial (fun hHeld => ?_)
            clear hK K
            (try simp only [Act.put, List.setIfInBounds_toArray, List.set_cons_zero, List.set_cons_succ])
            refine wpAnyH_done (by kernel_rfl) ?_ _
            go_wp2
            go_roundw
            case rel => exact ⟨k + 1, _, by go_num, Lib.hid (HST.out), HSW.out.then (Below.refl _ _).drew, HKW.out.drew⟩
            case measure => simp [intOf]; omega
        · have hke' : ¬ (k : Int) < (e : Int) := by omega
          have HZF : Hid (ys = P ++ ((A ++ [x]) ++ (C ++ Q))) := Lib.hid (hM.out.fin (by have := HE.out; have := HL.out; omega))
          clear hM hml
          go_wp2
          refine bodyPost_ret (v := .tuple #[]) (by simp [results, Try.results152, go_sem]) rfl ?_
          refine ⟨rfl, ⟨A ++ x :: C, HF.out.1, HF.out.2, ?_⟩, hK⟩
          rw [HZF.out] at hR
          simpa using hR
end Go.Proofs.Ytdflckjnpgbjlaa

/- Walks of the library's merge by turning: others and one element. Conditions: the row is the call's own. -/
import Derived.Test.YtdflckjnpgbjlaaZf
set_option linter.unusedVariables false
set_option maxRecDepth 20000
set_option linter.unusedSimpArgs false
namespace Go.Proofs.Ytdflckjnpgbjlaa
open Go.RowKit
attribute [local go_sem ↓] Go.wp_at_zero Go.wp_at_succ
/-- Not behind, as the merge asks. -/
def NotLt (y z : Tm) : Prop := ¬ cmpT y z < 0
set_option maxRecDepth 100000 in
set_option maxHeartbeats 8000000 in
theorem sm2_c (g cap : Nat) (ok : Nat → Prop) (P L : List Tm) (y : Tm) (Q : List Tm) (w : World) (hR : Rw g cap ok (P ++ (L ++ ([y] ++ Q))) w) (hn : (P ++ (L ++ ([y] ++ Q))).length ≤ 1000000) (hS : Sd L) (hL2 : 2 ≤ L.length) {N a m b : Nat} (hN : N = (P ++ (L ++ ([y] ++ Q))).length) (ha : a = P.length) (hm : m = a + L.length) (hb : b = m + 1) :
    Calls Try.prog 152 #[.slice (some ⟨g, 0, none⟩) N cap, .int .i64 (a : Int), .int .i64 (m : Int), .int .i64 (b : Int), .func (.func 51) #[] #[]] w fun e w' => e = .returned (.tuple #[]) ∧ (∃ M, Sd M ∧ M.Perm (L ++ [y]) ∧ Rw g cap ok (P ++ (M ++ Q)) w') ∧ Keeps (fun k => k = g) w w' := by
  have hNc : N ≤ cap := by rw [hN]; exact hR.len
  rw [← hN] at hn
  have hNN : N = P.length + L.length + 1 + Q.length := by rw [hN]; simp; omega
  have hbs := BsI.start L (NotLt y) a
  rw [← hm] at hbs
  have HBS := Lib.hid hbs
  have HL := Lib.hid (And.intro hNN (And.intro ha (And.intro hm hb)))
  have HSd := Lib.hid hS
  obtain ⟨zs, hzs⟩ : ∃ zs, zs = P ++ (L ++ ([y] ++ Q)) := ⟨_, rfl⟩
  rw [← hzs] at hR hN
  have HZ := Lib.hid hzs
  have HR := Lib.hid hR
  obtain ⟨d, hd⟩ : ∃ d, d = L.length := ⟨_, rfl⟩
  have hw0 : IntKind.i64.wrap ((m : Int) - (a : Int)) = (d : Int) := by rw [IntKind.wrap_i64]; omega
  have hd1 : ((d : Int) == 1) = false := by rw [beq_eq_false_iff_ne]; omega
  have hd2 : ¬ (d : Int) = 1 := by omega
  have hw1 : IntKind.i64.wrap ((b : Int) - (m : Int)) = 1 := by rw [IntKind.wrap_i64]; omega
  have ham : a < m := by omega
  have hmb : m < b := by omega
  have hbN : b ≤ N := by omega
  clear hR hN hNN ha hm hb hbs hS hzs hd hL2
  go_enter Try.func152, Try.ntmps152
  go_wp2
  go_loopw [14, 15] (fun u v wr => ∃ (i j : Nat), u = .int .i64 (i : Int) ∧ v = .int .i64 (j : Int) ∧ Hid (BsI L (NotLt y) a i j) ∧ Rw g cap ok zs wr ∧ Keeps (fun k => k = g) w wr) (fun u v _ => (intOf v).toNat - (intOf u).toNat)
  case atStart => exact ⟨a, m, rfl, rfl, HBS, HR.out, Keeps.refl _ _⟩
  case round =>
    clear HR HBS hw1 hw0 hd1 hd2
    obtain ⟨i, j, rfl, rfl, hB, hR, hK⟩ := hrel
    obtain ⟨hi1, hi2, hi3⟩ := hB.out.len
    have hjb : j ≤ m := by obtain ⟨l1, l2, l3, l4⟩ := HL.out; omega
    clear hi3
    by_cases hlt : i < j
    · have hil : (i : Int) < (j : Int) := by omega
      obtain ⟨h, hh⟩ : ∃ h, h = (i + j) / 2 := ⟨_, rfl⟩
      have hhd : ((i : Int) + (j : Int)) / 2 = (h : Int) := by omega
      have hih : i ≤ h := by omega
      have hhj : h < j := by omega
      have hzl : zs.length = N := by rw [HZ.out]; have := HL.out.1; simp; omega
      have hxl : m < zs.length := by omega
      have hyl : h < zs.length := by omega
      have hRl : h - a < L.length := by obtain ⟨l1, l2, l3, l4⟩ := HL.out; omega
      have hst := hB.out.step HSd.out (fun z' z h1 h2 => not_lt.2 (h1.trans (not_lt.1 h2))) hih hhj hRl
      have ex : zs[h] = L[h - a] := by
        have l := HL.out
        simp only [HZ.out]
        exact get_L hRl (by omega) _
      have ey : zs[m] = y := by
        have l := HL.out
        simp only [HZ.out]
        exact get_R (R := [y]) (i := 0) (by simp) (by omega) _
      obtain ⟨ux, k0, k1, k2, k3, -, -, -, -, k4⟩ := hR.elem hxl
      obtain ⟨uy, n0, n1, n2, n3, -, -, -, -, n4⟩ := hR.elem hyl
      obtain ⟨uA, uc, rfl⟩ := k4.form
      obtain ⟨vA, vc, rfl⟩ := n4.form
      rw [← ex] at hst
      rw [ey] at k0 k1 k2 k3 k4
      have HI1 : Hid (¬ cmpT y zs[h] < 0 → BsI L (NotLt y) a (h + 1) j) := Lib.hid (fun q => hst.1 q)
      have HI2 : Hid (cmpT y zs[h] < 0 → BsI L (NotLt y) a i h) := Lib.hid (fun q => hst.2 (fun r => r q))
      have HRb := Lib.hid hR
      have HKb := Lib.hid hK
      have q1 : (h : Int) < N := by omega
      have q2 : (m : Int) < N := by omega
      have q3 : (h : Int) < cap := by omega
      have q4 : (m : Int) < cap := by omega
      have hglt := hR.lt
      clear hst ex ey hR hK hB hRl hh
      generalize zs[h] = t at n0 n1 n2 n3 n4 HI1 HI2
      have HC := Lib.hid (fun W (h1 : Kd.tm.S W ok y.l (.slice uA y.l.length uc)) (h2 : Kd.tm.S W ok t.l (.slice vA t.l.length vc)) => Compare_c y t W ok ok _ _ ⟨_, rfl, h1⟩ ⟨_, rfl, h2⟩)
      generalize cmpT y t = c at HC HI1 HI2
      by_cases hx : c < 0
      · have hx' : decide (c < 0) = true := by simpa using hx
        go_wp2
        refine wp_region_held_drew (S := (fun W => W.cell? ⟨g, m * 4, none⟩ = some (.int .u8 y.k) ∧ W.cell? ⟨g, m * 4 + 1, none⟩ = some (.string y.s) ∧ W.cell? ⟨g, m * 4 + 2, none⟩ = some (.int .i64 y.n) ∧ W.cell? ⟨g, m * 4 + 3, none⟩ = some (.slice uA y.l.length uc) ∧ W.cell? ⟨g, h * 4, none⟩ = some (.int .u8 t.k) ∧ W.cell? ⟨g, h * 4 + 1, none⟩ = some (.string t.s) ∧ W.cell? ⟨g, h * 4 + 2, none⟩ = some (.int .i64 t.n) ∧ W.cell? ⟨g, h * 4 + 3, none⟩ = some (.slice vA t.l.length vc) ∧ Kd.tm.S W ok y.l (.slice uA y.l.length uc) ∧ Kd.tm.S W ok t.l (.slice vA t.l.length vc) ∧ Rw g cap ok zs W ∧ Keeps (fun k => k = g) w W)) (by kernel_rfl) ?_ (fun hHeld => ?_)
        · exact ⟨k0, k1, k2, k3, n0, n1, n2, n3, k4.below (Below.refl _ wr).drew, n4.below (Below.refl _ wr).drew, HRb.out.then (Below.refl _ _).drew, HKb.out.drew⟩
        change wpAnyH _ .any _ _ _ 12 (Array.replicate 12 false) _ _
        refine wpAnyH_take (i := 0) (oi := ⟨some 92, _, _, _, _, _⟩) (v := ?_) rfl (by kernel_rfl) (by kernel_rfl) (by kernel_rfl) (fun _ _ _ h => h) (Or.inl ⟨by rfl, ?_⟩) (by assumption) ?_
        rotate_left
        · (intro w hSw; (try dsimp only at hSw); go_simp; try (with_reducible rfl))
        (try simp only [Act.put, List.setIfInBounds_toArray, List.set_cons_zero, List.set_cons_succ])
        refine wpAnyH_take (i := 1) (oi := ⟨some 93, _, _, _, _, _⟩) (v := ?_) rfl (by kernel_rfl) (by kernel_rfl) (by kernel_rfl) (fun _ _ _ h => h) (Or.inl ⟨by rfl, ?_⟩) (by assumption) ?_
        rotate_left
        · (intro w hSw; (try dsimp only at hSw); go_simp; try (with_reducible rfl))
        (try simp only [Act.put, List.setIfInBounds_toArray, List.set_cons_zero, List.set_cons_succ])
        refine wpAnyH_take (i := 2) (oi := ⟨some 94, _, _, _, _, _⟩) (v := ?_) rfl (by kernel_rfl) (by kernel_rfl) (by kernel_rfl) (fun _ _ _ h => h) (Or.inl ⟨by rfl, ?_⟩) (by assumption) ?_
        rotate_left
        · (intro w hSw; (try dsimp only at hSw); go_simp; try (with_reducible rfl))
        (try simp only [Act.put, List.setIfInBounds_toArray, List.set_cons_zero, List.set_cons_succ])
        refine wpAnyH_take (i := 3) (oi := ⟨some 95, _, _, _, _, _⟩) (v := ?_) rfl (by kernel_rfl) (by kernel_rfl) (by kernel_rfl) (fun _ _ _ h => h) (Or.inl ⟨by rfl, ?_⟩) (by assumption) ?_
        rotate_left
        · (intro w hSw; (try dsimp only at hSw); go_simp; try (with_reducible rfl))
        (try simp only [Act.put, List.setIfInBounds_toArray, List.set_cons_zero, List.set_cons_succ])
        refine wpAnyH_take (i := 4) (oi := ⟨some 96, _, _, _, _, _⟩) (v := ?_) rfl (by kernel_rfl) (by kernel_rfl) (by kernel_rfl) (fun _ _ _ h => h) (Or.inl ⟨by rfl, ?_⟩) (by assumption) ?_
        rotate_left
        · (intro w hSw; (try dsimp only at hSw); go_simp; try (with_reducible rfl))
        (try simp only [Act.put, List.setIfInBounds_toArray, List.set_cons_zero, List.set_cons_succ])
        refine wpAnyH_take (i := 5) (oi := ⟨some 97, _, _, _, _, _⟩) (v := ?_) rfl (by kernel_rfl) (by kernel_rfl) (by kernel_rfl) (fun _ _ _ h => h) (Or.inl ⟨by rfl, ?_⟩) (by assumption) ?_
        rotate_left
        · (intro w hSw; (try dsimp only at hSw); go_simp; try (with_reducible rfl))
        (try simp only [Act.put, List.setIfInBounds_toArray, List.set_cons_zero, List.set_cons_succ])
        refine wpAnyH_take (i := 6) (oi := ⟨some 98, _, _, _, _, _⟩) (v := ?_) rfl (by kernel_rfl) (by kernel_rfl) (by kernel_rfl) (fun _ _ _ h => h) (Or.inl ⟨by rfl, ?_⟩) (by assumption) ?_
        rotate_left
        · (intro w hSw; (try dsimp only at hSw); go_simp; try (with_reducible rfl))
        (try simp only [Act.put, List.setIfInBounds_toArray, List.set_cons_zero, List.set_cons_succ])
        refine wpAnyH_take (i := 7) (oi := ⟨some 99, _, _, _, _, _⟩) (v := ?_) rfl (by kernel_rfl) (by kernel_rfl) (by kernel_rfl) (fun _ _ _ h => h) (Or.inl ⟨by rfl, ?_⟩) (by assumption) ?_
        rotate_left
        · (intro w hSw; (try dsimp only at hSw); go_simp; try (with_reducible rfl))
        (try simp only [Act.put, List.setIfInBounds_toArray, List.set_cons_zero, List.set_cons_succ])
        refine wpAnyH_take (i := 8) (oi := ⟨some 100, _, _, _, _, _⟩) (v := ?_) rfl (by kernel_rfl) (by kernel_rfl) (by kernel_rfl) (fun _ _ _ h => h) (Or.inl ⟨by rfl, ?_⟩) (by assumption) ?_
        rotate_left
        · (intro w hSw; (try dsimp only at hSw); go_simp; try (with_reducible rfl))
        (try simp only [Act.put, List.setIfInBounds_toArray, List.set_cons_zero, List.set_cons_succ])
        refine wpAnyH_ready (rs := [9]) (by kernel_rfl) (by simp) ?_
        refine AllReadyH.cons (o := ⟨some 101, _, _, _, _, _⟩) rfl (fun K hK => ?_) AllReadyH.nil
        go_simp
        refine (HC.out _ hHeld.2.2.2.2.2.2.2.2.1 hHeld.2.2.2.2.2.2.2.2.2.1).mono ?_
        rintro e w9 ⟨rfl, hb9⟩
        go_wp2_with fail
        refine hK.out _ _ (by obtain ⟨q0, q1, q2, q3, q4, q5, q6, q7, q8, q9, qR, qK⟩ := hHeld; exact ⟨held_cell hb9 q0, held_cell hb9 q1, held_cell hb9 q2, held_cell hb9 q3, held_cell hb9 q4, held_cell hb9 q5, held_cell hb9 q6, held_cell hb9 q7, q8.below hb9, q9.below hb9, qR.then hb9, qK.then hb9⟩) (fun hHeld => ?_)
        clear hK K
        (try simp only [Act.put, List.setIfInBounds_toArray, List.set_cons_zero, List.set_cons_succ])
        refine wpAnyH_take (i := 10) (oi := ⟨some 102, _, _, _, _, _⟩) (v := ?_) rfl (by kernel_rfl) (by kernel_rfl) (by kernel_rfl) (fun _ _ _ h => h) (Or.inl ⟨by rfl, ?_⟩) (by assumption) ?_
        rotate_left
        · (intro w hSw; (try dsimp only at hSw); go_simp; try (with_reducible rfl))
        (try simp only [Act.put, List.setIfInBounds_toArray, List.set_cons_zero, List.set_cons_succ])
        refine wpAnyH_take (i := 11) (oi := ⟨some 103, _, _, _, _, _⟩) (v := ?_) rfl (by kernel_rfl) (by kernel_rfl) (by kernel_rfl) (fun _ _ _ h => h) (Or.inl ⟨by rfl, ?_⟩) (by assumption) ?_
        rotate_left
        · (intro w hSw; (try dsimp only at hSw); go_simp; try (with_reducible rfl))
        (try simp only [Act.put, List.setIfInBounds_toArray, List.set_cons_zero, List.set_cons_succ])
        refine wpAnyH_done (by kernel_rfl) ?_ _
        have hH := hHeld
        clear hHeld
        go_wp2
        go_roundw
        case rel => exact ⟨i, h, rfl, rfl, Lib.hid (HI2.out hx), hH.2.2.2.2.2.2.2.2.2.2.1, hH.2.2.2.2.2.2.2.2.2.2.2⟩
        case measure => simp [intOf]; omega
      · have hx' : decide (c < 0) = false := by simpa using hx
        go_wp2
        refine wp_region_held_drew (S := (fun W => W.cell? ⟨g, m * 4, none⟩ = some (.int .u8 y.k) ∧ W.cell? ⟨g, m * 4 + 1, none⟩ = some (.string y.s) ∧ W.cell? ⟨g, m * 4 + 2, none⟩ = some (.int .i64 y.n) ∧ W.cell? ⟨g, m * 4 + 3, none⟩ = some (.slice uA y.l.length uc) ∧ W.cell? ⟨g, h * 4, none⟩ = some (.int .u8 t.k) ∧ W.cell? ⟨g, h * 4 + 1, none⟩ = some (.string t.s) ∧ W.cell? ⟨g, h * 4 + 2, none⟩ = some (.int .i64 t.n) ∧ W.cell? ⟨g, h * 4 + 3, none⟩ = some (.slice vA t.l.length vc) ∧ Kd.tm.S W ok y.l (.slice uA y.l.length uc) ∧ Kd.tm.S W ok t.l (.slice vA t.l.length vc) ∧ Rw g cap ok zs W ∧ Keeps (fun k => k = g) w W)) (by kernel_rfl) ?_ (fun hHeld => ?_)
        · exact ⟨k0, k1, k2, k3, n0, n1, n2, n3, k4.below (Below.refl _ wr).drew, n4.below (Below.refl _ wr).drew, HRb.out.then (Below.refl _ _).drew, HKb.out.drew⟩
        change wpAnyH _ .any _ _ _ 12 (Array.replicate 12 false) _ _
        refine wpAnyH_take (i := 0) (oi := ⟨some 92, _, _, _, _, _⟩) (v := ?_) rfl (by kernel_rfl) (by kernel_rfl) (by kernel_rfl) (fun _ _ _ h => h) (Or.inl ⟨by rfl, ?_⟩) (by assumption) ?_
        rotate_left
        · (intro w hSw; (try dsimp only at hSw); go_simp; try (with_reducible rfl))
        (try simp only [Act.put, List.setIfInBounds_toArray, List.set_cons_zero, List.set_cons_succ])
        refine wpAnyH_take (i := 1) (oi := ⟨some 93, _, _, _, _, _⟩) (v := ?_) rfl (by kernel_rfl) (by kernel_rfl) (by kernel_rfl) (fun _ _ _ h => h) (Or.inl ⟨by rfl, ?_⟩) (by assumption) ?_
        rotate_left
        · (intro w hSw; (try dsimp only at hSw); go_simp; try (with_reducible rfl))
        (try simp only [Act.put, List.setIfInBounds_toArray, List.set_cons_zero, List.set_cons_succ])
        refine wpAnyH_take (i := 2) (oi := ⟨some 94, _, _, _, _, _⟩) (v := ?_) rfl (by kernel_rfl) (by kernel_rfl) (by kernel_rfl) (fun _ _ _ h => h) (Or.inl ⟨by rfl, ?_⟩) (by assumption) ?_
        rotate_left
        · (intro w hSw; (try dsimp only at hSw); go_simp; try (with_reducible rfl))
        (try simp only [Act.put, List.setIfInBounds_toArray, List.set_cons_zero, List.set_cons_succ])
        refine wpAnyH_take (i := 3) (oi := ⟨some 95, _, _, _, _, _⟩) (v := ?_) rfl (by kernel_rfl) (by kernel_rfl) (by kernel_rfl) (fun _ _ _ h => h) (Or.inl ⟨by rfl, ?_⟩) (by assumption) ?_
        rotate_left
        · (intro w hSw; (try dsimp only at hSw); go_simp; try (with_reducible rfl))
        (try simp only [Act.put, List.setIfInBounds_toArray, List.set_cons_zero, List.set_cons_succ])
        refine wpAnyH_take (i := 4) (oi := ⟨some 96, _, _, _, _, _⟩) (v := ?_) rfl (by kernel_rfl) (by kernel_rfl) (by kernel_rfl) (fun _ _ _ h => h) (Or.inl ⟨by rfl, ?_⟩) (by assumption) ?_
        rotate_left
        · (intro w hSw; (try dsimp only at hSw); go_simp; try (with_reducible rfl))
        (try simp only [Act.put, List.setIfInBounds_toArray, List.set_cons_zero, List.set_cons_succ])
        refine wpAnyH_take (i := 5) (oi := ⟨some 97, _, _, _, _, _⟩) (v := ?_) rfl (by kernel_rfl) (by kernel_rfl) (by kernel_rfl) (fun _ _ _ h => h) (Or.inl ⟨by rfl, ?_⟩) (by assumption) ?_
        rotate_left
        · (intro w hSw; (try dsimp only at hSw); go_simp; try (with_reducible rfl))
        (try simp only [Act.put, List.setIfInBounds_toArray, List.set_cons_zero, List.set_cons_succ])
        refine wpAnyH_take (i := 6) (oi := ⟨some 98, _, _, _, _, _⟩) (v := ?_) rfl (by kernel_rfl) (by kernel_rfl) (by kernel_rfl) (fun _ _ _ h => h) (Or.inl ⟨by rfl, ?_⟩) (by assumption) ?_
        rotate_left
        · (intro w hSw; (try dsimp only at hSw); go_simp; try (with_reducible rfl))
        (try simp only [Act.put, List.setIfInBounds_toArray, List.set_cons_zero, List.set_cons_succ])
        refine wpAnyH_take (i := 7) (oi := ⟨some 99, _, _, _, _, _⟩) (v := ?_) rfl (by kernel_rfl) (by kernel_rfl) (by kernel_rfl) (fun _ _ _ h => h) (Or.inl ⟨by rfl, ?_⟩) (by assumption) ?_
        rotate_left
        · (intro w hSw; (try dsimp only at hSw); go_simp; try (with_reducible rfl))
        (try simp only [Act.put, List.setIfInBounds_toArray, List.set_cons_zero, List.set_cons_succ])
        refine wpAnyH_take (i := 8) (oi := ⟨some 100, _, _, _, _, _⟩) (v := ?_) rfl (by kernel_rfl) (by kernel_rfl) (by kernel_rfl) (fun _ _ _ h => h) (Or.inl ⟨by rfl, ?_⟩) (by assumption) ?_
        rotate_left
        · (intro w hSw; (try dsimp only at hSw); go_simp; try (with_reducible rfl))
        (try simp only [Act.put, List.setIfInBounds_toArray, List.set_cons_zero, List.set_cons_succ])
        refine wpAnyH_ready (rs := [9]) (by kernel_rfl) (by simp) ?_
        refine AllReadyH.cons (o := ⟨some 101, _, _, _, _, _⟩) rfl (fun K hK => ?_) AllReadyH.nil
        go_simp
        refine (HC.out _ hHeld.2.2.2.2.2.2.2.2.1 hHeld.2.2.2.2.2.2.2.2.2.1).mono ?_
        rintro e w9 ⟨rfl, hb9⟩
        go_wp2_with fail
        refine hK.out _ _ (by obtain ⟨q0, q1, q2, q3, q4, q5, q6, q7, q8, q9, qR, qK⟩ := hHeld; exact ⟨held_cell hb9 q0, held_cell hb9 q1, held_cell hb9 q2, held_cell hb9 q3, held_cell hb9 q4, held_cell hb9 q5, held_cell hb9 q6, held_cell hb9 q7, q8.below hb9, q9.below hb9, qR.then hb9, qK.then hb9⟩) (fun hHeld => ?_)
        clear hK K
        (try simp only [Act.put, List.setIfInBounds_toArray, List.set_cons_zero, List.set_cons_succ])
        refine wpAnyH_take (i := 10) (oi := ⟨some 102, _, _, _, _, _⟩) (v := ?_) rfl (by kernel_rfl) (by kernel_rfl) (by kernel_rfl) (fun _ _ _ h => h) (Or.inl ⟨by rfl, ?_⟩) (by assumption) ?_
        rotate_left
        · (intro w hSw; (try dsimp only at hSw); go_simp; try (with_reducible rfl))
        (try simp only [Act.put, List.setIfInBounds_toArray, List.set_cons_zero, List.set_cons_succ])
        refine wpAnyH_take (i := 11) (oi := ⟨some 103, _, _, _, _, _⟩) (v := ?_) rfl (by kernel_rfl) (by kernel_rfl) (by kernel_rfl) (fun _ _ _ h => h) (Or.inl ⟨by rfl, ?_⟩) (by assumption) ?_
        rotate_left
        · (intro w hSw; (try dsimp only at hSw); go_simp; try (with_reducible rfl))
        (try simp only [Act.put, List.setIfInBounds_toArray, List.set_cons_zero, List.set_cons_succ])
        refine wpAnyH_done (by kernel_rfl) ?_ _
        have hH := hHeld
        clear hHeld
        go_wp2
        go_roundw
        case rel => exact ⟨h + 1, j, by go_num, rfl, Lib.hid (HI1.out hx), hH.2.2.2.2.2.2.2.2.2.2.1, hH.2.2.2.2.2.2.2.2.2.2.2⟩
        case measure => simp [intOf]; omega
    · have hil : ¬ (i : Int) < (j : Int) := by omega
      obtain rfl : i = j := by omega
      obtain ⟨A, C, eR, ei, hA, hC⟩ := hB.out.fin
      have HF : Hid (Sd (A ++ y :: C) ∧ (A ++ y :: C).Perm (L ++ [y])) := Lib.hid (by
        have hs := HSd.out
        rw [eR] at hs ⊢
        refine ⟨Sd.put hs (fun z hz => Le.of_not (hA z hz)) (fun z hz => Le.of_lt (Classical.not_not.1 (hC z hz))), ?_⟩
        exact List.perm_middle.trans (List.perm_append_comm (l₁ := [y]) (l₂ := A ++ C)))
      have hmv : MvL (P ++ A) y C Q m zs := by
        have h1 := MvL.start (P ++ A) y C Q
        have e1 : (P ++ A).length + C.length = m := by obtain ⟨l1, l2, l3, l4⟩ := HL.out; rw [eR] at l3; simp only [List.length_append] at l3 ⊢; omega
        rw [e1] at h1
        rw [HZ.out, eR]
        simpa using h1
      have HM := Lib.hid hmv
      have HE : Hid (i = (P ++ A).length) := Lib.hid (by obtain ⟨l1, l2, l3, l4⟩ := HL.out; simp only [List.length_append]; omega)
      have HYN : Hid ((P ++ A).length + 1 + C.length + Q.length = N) := Lib.hid (by obtain ⟨l1, l2, l3, l4⟩ := HL.out; rw [eR] at l1; simp only [List.length_append] at l1 ⊢; omega)
      have HRb := Lib.hid hR
      have HKb := Lib.hid hK
      have him : i ≤ m := by omega
      have hmN : m < N := by omega
      clear hB eR ei hA hC hmv hR hK hi1 hi2 hjb hmb hbN
      go_wp2
      go_loopw [17] (fun q wr => ∃ (k : Nat) (ys : List Tm), k ≤ m ∧ q = .int .i64 (k : Int) ∧ Hid (MvL (P ++ A) y C Q k ys) ∧ Rw g cap ok ys wr ∧ Keeps (fun k => k = g) w wr) (fun q _ => (intOf q).toNat)
      case atStart => exact ⟨m, zs, Nat.le_refl _, rfl, HM, HRb.out, HKb.out⟩
      case round =>
        clear HM HRb HKb
        obtain ⟨k, ys, hkm, rfl, hM, hR, hK⟩ := hrel
        have hml := hM.out.len
        have hyN : ys.length = N := by have := HYN.out; omega
        by_cases hki : k = i
        · subst hki
          have HZF : Hid (ys = (P ++ A) ++ ((y :: C) ++ Q)) := Lib.hid (by
            have h1 := hM.out
            rw [HE.out] at h1
            exact h1.fin)
          clear hM hml hyN
          go_wp2
          refine bodyPost_ret (v := .tuple #[]) (by simp [results, Try.results152, go_sem]) rfl ?_
          refine ⟨rfl, ⟨A ++ y :: C, HF.out.1, HF.out.2, ?_⟩, hK⟩
          rw [HZF.out] at hR
          simpa using hR
        · have hik : i < k := by have := HE.out; omega
          obtain ⟨k, rfl⟩ : ∃ k', k = k' + 1 := ⟨k - 1, by omega⟩
          have hke' : (i : Int) < (k : Int) + 1 := by omega
          have hxl : k + 1 < ys.length := by omega
          have hyl : k < ys.length := by omega
          have HST : Hid (MvL (P ++ A) y C Q k ((ys.set (k + 1) ys[k]).set k ys[k + 1])) := Lib.hid (hM.out.step (by have := HE.out; omega) hyl hxl)
          obtain ⟨ux, k0, k1, k2, k3, fk0, fk1, fk2, fk3, k4⟩ := hR.elem hxl
          obtain ⟨uy, n0, n1, n2, n3, fn0, fn1, fn2, fn3, n4⟩ := hR.elem hyl
          obtain ⟨uA, uc, rfl⟩ := k4.form
          obtain ⟨vA, vc, rfl⟩ := n4.form
          have HSW := Lib.hid (hR.swap hxl hyl k4 n4)
          have HKW := Lib.hid (hK.swap (g := g) (x := k + 1) (y := k) (t := ys[k]) (u := ys[k + 1]) (vt := .slice vA ys[k].l.length vc) (vu := .slice uA ys[k + 1].l.length uc))
          have hglt := hR.lt
          have hjw : IntKind.i64.wrap (((k + 1 : Nat) : Int) - 1) = k := by rw [IntKind.wrap_i64]; omega
          have hjw2 : IntKind.i64.wrap ((k : Int) + 1 - 1) = k := by rw [IntKind.wrap_i64]; omega
          have hjw3 : IntKind.i64.wrap (k : Int) = k := by rw [IntKind.wrap_i64]; omega
          have q5 : (0 : Int) ≤ (k : Int) + 1 := by omega
          have q1 : (k : Int) < N := by omega
          have q2 : (k : Int) + 1 < N := by omega
          have q3 : (k : Int) < cap := by omega
          have q4 : (k : Int) + 1 < cap := by omega
          clear hR hK hM hyN hml hki
          generalize hxs : (ys.set (k + 1) ys[k]).set k ys[k + 1] = zz at HSW HST
          generalize ys[k + 1] = t at k0 k1 k2 k3 k4 HSW HKW
          generalize ys[k] = u at n0 n1 n2 n3 n4 HSW HKW
          unfold set4 at HSW HKW
          clear hxs hxl hyl k4 n4
          go_wp2
          refine wp_region_held_drew (S := (fun _ => True)) (by kernel_rfl) ?_ (fun hHeld => ?_)
          · trivial
          change wpAnyH _ .any _ _ _ 18 (Array.replicate 18 false) _ _
          refine wpAnyH_take (i := 0) (oi := ⟨some 113, _, _, _, _, _⟩) (v := ?_) rfl (by kernel_rfl) (by kernel_rfl) (by kernel_rfl) (fun _ _ _ h => h) (Or.inl ⟨by rfl, ?_⟩) (by assumption) ?_
          rotate_left
          · (intro w hSw; (try dsimp only at hSw); go_simp; try (with_reducible rfl))
          (try simp only [Act.put, List.setIfInBounds_toArray, List.set_cons_zero, List.set_cons_succ])
          refine wpAnyH_take (i := 1) (oi := ⟨some 114, _, _, _, _, _⟩) (v := ?_) rfl (by kernel_rfl) (by kernel_rfl) (by kernel_rfl) (fun _ _ _ h => h) (Or.inl ⟨by rfl, ?_⟩) (by assumption) ?_
          rotate_left
          · (intro w hSw; (try dsimp only at hSw); go_simp; try (with_reducible rfl))
          (try simp only [Act.put, List.setIfInBounds_toArray, List.set_cons_zero, List.set_cons_succ])
          refine wpAnyH_take (i := 2) (oi := ⟨some 115, _, _, _, _, _⟩) (v := ?_) rfl (by kernel_rfl) (by kernel_rfl) (by kernel_rfl) (fun _ _ _ h => h) (Or.inl ⟨by rfl, ?_⟩) (by assumption) ?_
          rotate_left
          · (intro w hSw; (try dsimp only at hSw); go_simp; try (with_reducible rfl))
          (try simp only [Act.put, List.setIfInBounds_toArray, List.set_cons_zero, List.set_cons_succ])
          refine wpAnyH_take (i := 3) (oi := ⟨some 116, _, _, _, _, _⟩) (v := ?_) rfl (by kernel_rfl) (by kernel_rfl) (by kernel_rfl) (fun _ _ _ h => h) (Or.inl ⟨by rfl, ?_⟩) (by assumption) ?_
          rotate_left
          · (intro w hSw; (try dsimp only at hSw); go_simp; try (with_reducible rfl))
          (try simp only [Act.put, List.setIfInBounds_toArray, List.set_cons_zero, List.set_cons_succ])
          refine wpAnyH_take (i := 4) (oi := ⟨some 117, _, _, _, _, _⟩) (v := ?_) rfl (by kernel_rfl) (by kernel_rfl) (by kernel_rfl) (fun _ _ _ h => h) (Or.inl ⟨by rfl, ?_⟩) (by assumption) ?_
          rotate_left
          · (intro w hSw; (try dsimp only at hSw); go_simp; try (with_reducible rfl))
          (try simp only [Act.put, List.setIfInBounds_toArray, List.set_cons_zero, List.set_cons_succ])
          refine wpAnyH_take (i := 5) (oi := ⟨some 118, _, _, _, _, _⟩) (v := ?_) rfl (by kernel_rfl) (by kernel_rfl) (by kernel_rfl) (fun _ _ _ h => h) (Or.inl ⟨by rfl, ?_⟩) (by assumption) ?_
          rotate_left
          · (intro w hSw; (try dsimp only at hSw); go_simp; try (with_reducible rfl))
          (try simp only [Act.put, List.setIfInBounds_toArray, List.set_cons_zero, List.set_cons_succ])
          refine wpAnyH_take (i := 6) (oi := ⟨some 119, _, _, _, _, _⟩) (v := ?_) rfl (by kernel_rfl) (by kernel_rfl) (by kernel_rfl) (fun _ _ _ h => h) (Or.inl ⟨by rfl, ?_⟩) (by assumption) ?_
          rotate_left
          · (intro w hSw; (try dsimp only at hSw); go_simp; try (with_reducible rfl))
          (try simp only [Act.put, List.setIfInBounds_toArray, List.set_cons_zero, List.set_cons_succ])
          refine wpAnyH_take (i := 7) (oi := ⟨some 120, _, _, _, _, _⟩) (v := ?_) rfl (by kernel_rfl) (by kernel_rfl) (by kernel_rfl) (fun _ _ _ h => h) (Or.inl ⟨by rfl, ?_⟩) (by assumption) ?_
          rotate_left
          · (intro w hSw; (try dsimp only at hSw); go_simp; try (with_reducible rfl))
          (try simp only [Act.put, List.setIfInBounds_toArray, List.set_cons_zero, List.set_cons_succ])
          refine wpAnyH_take (i := 8) (oi := ⟨some 121, _, _, _, _, _⟩) (v := ?_) rfl (by kernel_rfl) (by kernel_rfl) (by kernel_rfl) (fun _ _ _ h => h) (Or.inl ⟨by rfl, ?_⟩) (by assumption) ?_
          rotate_left
          · (intro w hSw; (try dsimp only at hSw); go_simp; try (with_reducible rfl))
          (try simp only [Act.put, List.setIfInBounds_toArray, List.set_cons_zero, List.set_cons_succ])
          refine wpAnyH_take (i := 10) (oi := ⟨some 123, _, _, _, _, _⟩) (v := ?_) rfl (by kernel_rfl) (by kernel_rfl) (by kernel_rfl) (fun _ _ _ h => h) (Or.inl ⟨by rfl, ?_⟩) (by assumption) ?_
          rotate_left
          · (intro w hSw; (try dsimp only at hSw); go_simp; try (with_reducible rfl))
          (try simp only [Act.put, List.setIfInBounds_toArray, List.set_cons_zero, List.set_cons_succ])
          refine wpAnyH_take (i := 11) (oi := ⟨some 124, _, _, _, _, _⟩) (v := ?_) rfl (by kernel_rfl) (by kernel_rfl) (by kernel_rfl) (fun _ _ _ h => h) (Or.inl ⟨by rfl, ?_⟩) (by assumption) ?_
          rotate_left
          · (intro w hSw; (try dsimp only at hSw); go_simp; try (with_reducible rfl))
          (try simp only [Act.put, List.setIfInBounds_toArray, List.set_cons_zero, List.set_cons_succ])
          refine wpAnyH_take (i := 12) (oi := ⟨some 125, _, _, _, _, _⟩) (v := ?_) rfl (by kernel_rfl) (by kernel_rfl) (by kernel_rfl) (fun _ _ _ h => h) (Or.inl ⟨by rfl, ?_⟩) (by assumption) ?_
          rotate_left
          · (intro w hSw; (try dsimp only at hSw); go_simp; try (with_reducible rfl))
          (try simp only [Act.put, List.setIfInBounds_toArray, List.set_cons_zero, List.set_cons_succ])
          refine wpAnyH_ready (rs := [9, 13]) (by kernel_rfl) (by simp) ?_
          refine AllReadyH.cons (o := ⟨some 122, _, _, _, _, _⟩) rfl (fun K hK => ?_) (AllReadyH.cons (o := ⟨some 126, _, _, _, _, _⟩) rfl (fun K hK => ?_) AllReadyH.nil)
          · go_simp
            refine hK.out _ _ trivial (fun hHeld => ?_)
            clear hK K
            (try simp only [Act.put, List.setIfInBounds_toArray, List.set_cons_zero, List.set_cons_succ])
            refine wpAnyH_ready (rs := [13]) (by kernel_rfl) (by simp) ?_
            refine AllReadyH.cons (o := ⟨some 126, _, _, _, _, _⟩) rfl (fun K hK => ?_) AllReadyH.nil
            go_simp
            refine hK.out _ _ trivial (fun hHeld => ?_)
            clear hK K
            (try simp only [Act.put, List.setIfInBounds_toArray, List.set_cons_zero, List.set_cons_succ])
            refine wpAnyH_take (i := 14) (oi := ⟨some 127, _, _, _, _, _⟩) (v := ?_) rfl (by kernel_rfl) (by kernel_rfl) (by kernel_rfl) (fun _ _ _ h => h) (Or.inl ⟨by rfl, ?_⟩) (by assumption) ?_
            rotate_left
            · (intro w hSw; (try dsimp only at hSw); go_simp; try (with_reducible rfl))
            (try simp only [Act.put, List.setIfInBounds_toArray, List.set_cons_zero, List.set_cons_succ])
            refine wpAnyH_ready (rs := [15]) (by kernel_rfl) (by simp) ?_
            refine AllReadyH.cons (o := ⟨none, _, _, _, _, _⟩) rfl (fun K hK => ?_) AllReadyH.nil
            go_simp
            refine hK.out _ _ trivial (fun hHeld => ?_)
            clear hK K
            (try simp only [Act.put, List.setIfInBounds_toArray, List.set_cons_zero, List.set_cons_succ])
            refine wpAnyH_take (i := 16) (oi := ⟨some 128, _, _, _, _, _⟩) (v := ?_) rfl (by kernel_rfl) (by kernel_rfl) (by kernel_rfl) (fun _ _ _ h => h) (Or.inl ⟨by rfl, ?_⟩) (by assumption) ?_
            rotate_left
            · (intro w hSw; (try dsimp only at hSw); go_simp; try (with_reducible rfl))
            (try simp only [Act.put, List.setIfInBounds_toArray, List.set_cons_zero, List.set_cons_succ])
            refine wpAnyH_ready (rs := [17]) (by kernel_rfl) (by simp) ?_
            refine AllReadyH.cons (o := ⟨none, _, _, _, _, _⟩) rfl (fun K hK => ?_) AllReadyH.nil
            go_simp
            refine hK.out _ _ trivial (fun hHeld => ?_)
            clear hK K
            (try simp only [Act.put, List.setIfInBounds_toArray, List.set_cons_zero, List.set_cons_succ])
            refine wpAnyH_done (by kernel_rfl) ?_ _
            go_wp2
            go_roundw
            case rel => exact ⟨k, _, by omega, rfl, Lib.hid (HST.out), HSW.out.then (Below.refl _ _).drew, HKW.out.drew⟩
            case measure => simp [intOf]
          · go_simp
            refine hK.out _ _ trivial (fun hHeld => ?_)
            clear hK K
            (try simp only [Act.put, List.setIfInBounds_toArray, List.set_cons_zero, List.set_cons_succ])
            refine wpAnyH_ready (rs := [9]) (by kernel_rfl) (by simp) ?_
            refine AllReadyH.cons (o := ⟨some 122, _, _, _, _, _⟩) rfl (fun K hK => ?_) AllReadyH.nil
            go_simp
            refine hK.out _ _ trivial (fun hHeld => ?_)
            clear hK K
            (try simp only [Act.put, List.setIfInBounds_toArray, List.set_cons_zero, List.set_cons_succ])
            refine wpAnyH_take (i := 14) (oi := ⟨some 127, _, _, _, _, _⟩) (v := ?_) rfl (by kernel_rfl) (by kernel_rfl) (by kernel_rfl) (fun _ _ _ h => h) (Or.inl ⟨by rfl, ?_⟩) (by assumption) ?_
            rotate_left
            · (intro w hSw; (try dsimp only at hSw); go_simp; try (with_reducible rfl))
            (try simp only [Act.put, List.setIfInBounds_toArray, List.set_cons_zero, List.set_cons_succ])
            refine wpAnyH_ready (rs := [15]) (by kernel_rfl) (by simp) ?_
            refine AllReadyH.cons (o := ⟨none, _, _, _, _, _⟩) rfl (fun K hK => ?_) AllReadyH.nil
            go_simp
            refine hK.out _ _ trivial (fun hHeld => ?_)
            clear hK K
            (try simp only [Act.put, List.setIfInBounds_toArray, List.set_cons_zero, List.set_cons_succ])
            refine wpAnyH_take (i := 16) (oi := ⟨some 128, _, _, _, _, _⟩) (v := ?_) rfl (by kernel_rfl) (by kernel_rfl) (by kernel_rfl) (fun _ _ _ h => h) (Or.inl ⟨by rfl, ?_⟩) (by assumption) ?_
            rotate_left
            · (intro w hSw; (try dsimp only at hSw); go_simp; try (with_reducible rfl))
            (try simp only [Act.put, List.setIfInBounds_toArray, List.set_cons_zero, List.set_cons_succ])
            refine wpAnyH_ready (rs := [17]) (by kernel_rfl) (by simp) ?_
            refine AllReadyH.cons (o := ⟨none, _, _, _, _, _⟩) rfl (fun K hK => ?_) AllReadyH.nil
            go_simp
            refine hK.out _ _ trivial (fun hHeld => ?_)
            clear hK K
            (try simp only [Act.put, List.setIfInBounds_toArray, List.set_cons_zero, List.set_cons_succ])
            refine wpAnyH_done (by kernel_rfl) ?_ _
            go_wp2
            go_roundw
            case rel => exact ⟨k, _, by omega, rfl, Lib.hid (HST.out), HSW.out.then (Below.refl _ _).drew, HKW.out.drew⟩
            case measure => simp [intOf]
end Go.Proofs.Ytdflckjnpgbjlaa

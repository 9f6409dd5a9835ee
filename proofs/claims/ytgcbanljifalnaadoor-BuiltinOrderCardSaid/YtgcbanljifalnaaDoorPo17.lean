import Derived.Test.YtgcbanljifalnaaDoorPo16
import Derived.Shelf.Strings.Fields
import Derived.Test.YtgcbanljifalnaaDoorProg
set_option linter.unusedVariables false
set_option maxRecDepth 20000
set_option linter.unusedSimpArgs false
/- Layer 14 (builtin): the builtins' functions, walked (5): kinds. Conditions: the arguments read. -/
namespace Go.Proofs.YtgcbanljifalnaaDoor
open Go.RowKit
attribute [local go_sem ↓] Go.wp_at_zero Go.wp_at_succ
theorem IndexU_c (l : List Int) (n : Int) (v : Value) (w : World) (ok : Nat → Prop) (hv : (Kd.int .u8).S w ok l v) :
    Calls Tryd.prog 118 #[v, .int .u8 n] w fun e w' => (∃ i : Int, e = .returned (.int .i64 i) ∧ (decide (0 ≤ i) = decide (n ∈ l)) ∧ -1 ≤ i) ∧ Below w.heap.size w w' := by
  obtain ⟨A, c, rfl, hl, hc, hA⟩ := hv
  unfold maxLen at hc
  go_enter Tryd.func118, Tryd.ntmps118
  go_wp2
  go_loopw [8] (fun i wr => ∃ j : Nat, j ≤ l.length ∧ i = .int .i64 j ∧ n ∉ l.take j ∧ Below w.heap.size w wr) (fun i _ => l.length - (intOf i).toNat)
  case atStart => exact ⟨0, Nat.zero_le _, rfl, by simp, Below.refl _ _⟩
  case round =>
    obtain ⟨j, hj, rfl, hn, hb⟩ := hrel
    by_cases hlt : j < l.length
    · obtain ⟨b, o, rfl, hok, hlo, h0⟩ := int_elem hA hlt
      have g0 := cell_below hb h0 hlo
      clear hA h0
      by_cases he : (n == l[j]) = true
      · have : n ∈ l := by rw [beq_iff_eq] at he; rw [he]; exact List.getElem_mem hlt
        go_wp2
        go_ret
        exact ⟨⟨j, rfl, by simp [this], by omega⟩, hb⟩
      · have he' : (n == l[j]) = false := by simpa using he
        have hn' : n ∉ l.take (j + 1) := by
          rw [take_succ_at l hlt, List.mem_append, List.mem_singleton]
          rintro (h | h)
          · exact hn h
          · exact he (by rw [← h]; simp)
        clear he
        go_wp2
        go_roundw
        case rel => exact ⟨j + 1, by omega, by go_num, hn', hb⟩
        case measure => simp [intOf]; omega
    · clear hA
      rw [List.take_of_length_le (by omega)] at hn
      go_wp2
      go_ret
      exact ⟨⟨-1, rfl, by simp [hn], by omega⟩, hb⟩
theorem ContainsU_c (l : List Int) (n : Int) (v : Value) (w : World) (ok : Nat → Prop) (hv : (Kd.int .u8).S w ok l v) :
    Calls Tryd.prog 103 #[v, .int .u8 n] w fun e w' => e = .returned (.bool (decide (n ∈ l))) ∧ Below w.heap.size w w' := by
  have H := IndexU_c l n v w ok hv
  go_enter Tryd.func103, Tryd.ntmps103
  go_wp2_with (go_at_call 118; refine H.mono ?_; rintro e w1 ⟨⟨i, rfl, hi, hlo⟩, hb1⟩; have HI := Lib.hid hi; clear hi)
  go_ret
  exact ⟨ret_bool (by rw [← HI.out]), hb1⟩


theorem Tryd.fldK (x1 x2 x3 x4 : Value) (W : World) : (Instr.field 24 (.agg #[x1, x2, x3, x4]) 0).run Tryd.prog W = .ok x1 W := by kernel_rfl
set_option maxRecDepth 100000 in
set_option maxHeartbeats 8000000 in
theorem kinds_c (l : Bs) (p m : Nat) (a : Tm) (v : Value) (w : World) (hs : Sub w (fun _ => True) l p m) (hv : Kd.tm.S w (fun _ => True) [a] v) (wa : a.Wf) (ks : List Int) (B0 : Nat) (KA : Option Addr) (kc : Nat) (hB : w.cell? ⟨B0, 0, none⟩ = some (.slice KA ks.length kc)) (hK : (Kd.int .u8).S w (fun _ => True) ks (.slice KA ks.length kc)) :
    Calls Tryd.prog 102 #[.pointer (some ⟨p, 0, none⟩), v, .pointer (some ⟨B0, 0, none⟩)] w (DPost w.heap.size (Bi.run l (.kinds ks) [a]) w) := by
  obtain ⟨A0, c, rfl⟩ := hv.form
  have HV := hv
  obtain ⟨g, o, rfl⟩ := elemA0 hv (by simp)
  obtain ⟨A, ac, y0, y1, y2, y3, y4⟩ := elemS0 hv (j := 0) (by simp)
  simp only [Nat.zero_mul, Nat.add_zero, List.getElem_cons_zero] at y0 y1 y2 y3 y4
  have HG : Hid (GK w l p m [a] (.slice (some ⟨g, o, none⟩) 1 c) w) := Lib.hid ⟨Below.refl _ _, hs, HV⟩
  have HA := Lib.hid (fun W (h1 : Kd.tm.S W (fun _ => True) a.l (.slice A a.l.length ac)) (hk : GK w l p m [a] (.slice (some ⟨g, o, none⟩) 1 c) W) => Walk_c l p m a (.agg #[.int .u8 a.k, .string a.s, .int .i64 a.n, .slice A a.l.length ac]) W _ hk.sub ⟨_, rfl, h1⟩ wa)
  have HW := Lib.hid (fun is W => when_c p is W)
  have HC := Lib.hid (fun W (h : (Kd.int .u8).S W (fun _ => True) ks (.slice KA ks.length kc)) => ContainsU_c ks (wlk l a).k _ W _ h)
  have HR : Hid (Bi.run l (.kinds ks) [a] = whenD l (decide ((wlk l a).k ∈ ks))) := Lib.hid rfl
  have hfl := Tryd.fldK
  clear hs hv HV wa
  generalize decide ((wlk l a).k ∈ ks) = is at HC HR
  have HW2 := Lib.hid (HW.out is)
  clear HW
  cases is
  · simp only [if_true, Bool.false_eq_true, if_false] at HW2
    go_enter Tryd.func102, Tryd.ntmps102
    go_wp2
    refine wp_region_held_drew (S := (fun W => W.cell? ⟨B0, 0, none⟩ = some (.slice KA ks.length kc) ∧ W.cell? ⟨g, o, none⟩ = some (.int .u8 a.k) ∧ W.cell? ⟨g, o + 1, none⟩ = some (.string a.s) ∧ W.cell? ⟨g, o + 2, none⟩ = some (.int .i64 a.n) ∧ W.cell? ⟨g, o + 3, none⟩ = some (.slice A a.l.length ac) ∧ Kd.tm.S W (fun _ => True) a.l (.slice A a.l.length ac) ∧ (Kd.int .u8).S W (fun _ => True) ks (.slice KA ks.length kc) ∧ GK w l p m [a] (.slice (some ⟨g, o, none⟩) 1 c) W)) (by kernel_rfl) ?_ (fun hHeld => ?_)
    · exact ⟨hB, y0, y1, y2, y3, y4.below (Below.refl _ _).drew, hK.below (Below.refl _ _).drew, HG.out.then (Below.refl _ _).drew⟩
    change wpAnyH _ .any _ _ _ 16 (Array.replicate 16 false) _ _
    refine wpAnyH_take (i := 0) (oi := ⟨some 8, _, _, _, _, _⟩) (v := ?_) rfl (by kernel_rfl) (by kernel_rfl) (by kernel_rfl) (fun _ _ _ h => h) (Or.inl ⟨by rfl, ?_⟩) (by assumption) ?_
    rotate_left
    · (intro w hSw; (try dsimp only at hSw); go_simp; try (with_reducible rfl))
    (try simp only [Act.put, List.setIfInBounds_toArray, List.set_cons_zero, List.set_cons_succ])
    refine wpAnyH_take (i := 1) (oi := ⟨some 9, _, _, _, _, _⟩) (v := ?_) rfl (by kernel_rfl) (by kernel_rfl) (by kernel_rfl) (fun _ _ _ h => h) (Or.inl ⟨by rfl, ?_⟩) (by assumption) ?_
    rotate_left
    · (intro w hSw; (try dsimp only at hSw); go_simp; try (with_reducible rfl))
    (try simp only [Act.put, List.setIfInBounds_toArray, List.set_cons_zero, List.set_cons_succ])
    refine wpAnyH_take (i := 2) (oi := ⟨some 10, _, _, _, _, _⟩) (v := ?_) rfl (by kernel_rfl) (by kernel_rfl) (by kernel_rfl) (fun _ _ _ h => h) (Or.inl ⟨by rfl, ?_⟩) (by assumption) ?_
    rotate_left
    · (intro w hSw; (try dsimp only at hSw); go_simp; try (with_reducible rfl))
    (try simp only [Act.put, List.setIfInBounds_toArray, List.set_cons_zero, List.set_cons_succ])
    refine wpAnyH_take (i := 3) (oi := ⟨some 11, _, _, _, _, _⟩) (v := ?_) rfl (by kernel_rfl) (by kernel_rfl) (by kernel_rfl) (fun _ _ _ h => h) (Or.inl ⟨by rfl, ?_⟩) (by assumption) ?_
    rotate_left
    · (intro w hSw; (try dsimp only at hSw); go_simp; try (with_reducible rfl))
    (try simp only [Act.put, List.setIfInBounds_toArray, List.set_cons_zero, List.set_cons_succ])
    refine wpAnyH_take (i := 4) (oi := ⟨some 12, _, _, _, _, _⟩) (v := ?_) rfl (by kernel_rfl) (by kernel_rfl) (by kernel_rfl) (fun _ _ _ h => h) (Or.inl ⟨by rfl, ?_⟩) (by assumption) ?_
    rotate_left
    · (intro w hSw; (try dsimp only at hSw); go_simp; try (with_reducible rfl))
    (try simp only [Act.put, List.setIfInBounds_toArray, List.set_cons_zero, List.set_cons_succ])
    refine wpAnyH_take (i := 5) (oi := ⟨some 13, _, _, _, _, _⟩) (v := ?_) rfl (by kernel_rfl) (by kernel_rfl) (by kernel_rfl) (fun _ _ _ h => h) (Or.inl ⟨by rfl, ?_⟩) (by assumption) ?_
    rotate_left
    · (intro w hSw; (try dsimp only at hSw); go_simp; try (with_reducible rfl))
    (try simp only [Act.put, List.setIfInBounds_toArray, List.set_cons_zero, List.set_cons_succ])
    refine wpAnyH_ready (rs := [6]) (by kernel_rfl) (by simp) ?_
    refine AllReadyH.cons (o := ⟨some 14, _, _, _, _, _⟩) rfl (fun K hK => ?_) AllReadyH.nil
    go_simp
    obtain ⟨q0, q1, q2, q3, q4, q5, q6, q7⟩ := id hHeld
    have hq := HA.out _ q5 q7
    clear q0 q1 q2 q3 q4 q5 q6 q7
    refine hq.mono ?_
    clear hq
    rintro e w9 ⟨⟨u, rfl, ⟨uu, rfl, huu⟩⟩, hb9⟩
    go_wp2_with fail
    refine hK.out _ _ (by obtain ⟨q0, q1, q2, q3, q4, q5, q6, q7⟩ := hHeld; exact ⟨held_cell hb9 q0, held_cell hb9 q1, held_cell hb9 q2, held_cell hb9 q3, held_cell hb9 q4, q5.below hb9, q6.below hb9, q7.then hb9⟩) (fun hHeld => ?_)
    clear hK K
    (try simp only [Act.put, List.setIfInBounds_toArray, List.set_cons_zero, List.set_cons_succ])
    refine wpAnyH_take (i := 7) (oi := ⟨some 15, _, _, _, _, _⟩) (v := ?_) rfl (by kernel_rfl) (by kernel_rfl) (by kernel_rfl) (fun _ _ _ h => h) (Or.inl ⟨by rfl, ?_⟩) (by assumption) ?_
    rotate_left
    · (intro w hSw; (try dsimp only at hSw); go_simp; try (with_reducible rfl))
    (try simp only [Act.put, List.setIfInBounds_toArray, List.set_cons_zero, List.set_cons_succ])
    refine wpAnyH_ready (rs := [8]) (by kernel_rfl) (by simp) ?_
    refine AllReadyH.cons (o := ⟨some 16, _, _, _, _, _⟩) rfl (fun K hK => ?_) AllReadyH.nil
    go_simp
    obtain ⟨q0, q1, q2, q3, q4, q5, q6, q7⟩ := id hHeld
    have hq := HC.out _ q6
    clear q0 q1 q2 q3 q4 q5 q6 q7
    refine hq.mono ?_
    clear hq
    rintro e w10 ⟨rfl, hb10⟩
    go_wp2_with fail
    refine hK.out _ _ (by obtain ⟨q0, q1, q2, q3, q4, q5, q6, q7⟩ := hHeld; exact ⟨held_cell hb10 q0, held_cell hb10 q1, held_cell hb10 q2, held_cell hb10 q3, held_cell hb10 q4, q5.below hb10, q6.below hb10, q7.then hb10⟩) (fun hHeld => ?_)
    clear hK K
    (try simp only [Act.put, List.setIfInBounds_toArray, List.set_cons_zero, List.set_cons_succ])
    refine wpAnyH_ready (rs := [9]) (by kernel_rfl) (by simp) ?_
    refine AllReadyH.cons (o := ⟨some 17, _, _, _, _, _⟩) rfl (fun K hK => ?_) AllReadyH.nil
    go_simp
    refine (HW2.out _).mono ?_
    rintro e w7 ⟨rfl, hw7⟩
    rw [hw7]
    clear hw7 w7
    go_wp2_with fail
    refine hK.out _ _ hHeld (fun hHeld => ?_)
    clear hK K
    (try simp only [Act.put, List.setIfInBounds_toArray, List.set_cons_zero, List.set_cons_succ])
    refine wpAnyH_take (i := 10) (oi := ⟨some 18, _, _, _, _, _⟩) (v := ?_) rfl (by kernel_rfl) (by kernel_rfl) (by kernel_rfl) (fun _ _ _ h => h) (Or.inl ⟨by rfl, ?_⟩) (by assumption) ?_
    rotate_left
    · (intro w hSw; (try dsimp only at hSw); go_simp; try (with_reducible rfl))
    (try simp only [Act.put, List.setIfInBounds_toArray, List.set_cons_zero, List.set_cons_succ])
    refine wpAnyH_take (i := 11) (oi := ⟨some 19, _, _, _, _, _⟩) (v := ?_) rfl (by kernel_rfl) (by kernel_rfl) (by kernel_rfl) (fun _ _ _ h => h) (Or.inl ⟨by rfl, ?_⟩) (by assumption) ?_
    rotate_left
    · (intro w hSw; (try dsimp only at hSw); go_simp; try (with_reducible rfl))
    (try simp only [Act.put, List.setIfInBounds_toArray, List.set_cons_zero, List.set_cons_succ])
    refine wpAnyH_take (i := 12) (oi := ⟨some 20, _, _, _, _, _⟩) (v := ?_) rfl (by kernel_rfl) (by kernel_rfl) (by kernel_rfl) (fun _ _ _ h => h) (Or.inl ⟨by rfl, ?_⟩) (by assumption) ?_
    rotate_left
    · (intro w hSw; (try dsimp only at hSw); go_simp; try (with_reducible rfl))
    (try simp only [Act.put, List.setIfInBounds_toArray, List.set_cons_zero, List.set_cons_succ])
    refine wpAnyH_take (i := 13) (oi := ⟨some 5, _, _, _, _, _⟩) (v := ?_) rfl (by kernel_rfl) (by kernel_rfl) (by kernel_rfl) (fun _ _ _ h => h) (Or.inl ⟨by rfl, ?_⟩) (by assumption) ?_
    rotate_left
    · (intro w hSw; (try dsimp only at hSw); go_simp; try (with_reducible rfl))
    (try simp only [Act.put, List.setIfInBounds_toArray, List.set_cons_zero, List.set_cons_succ])
    refine wpAnyH_take (i := 14) (oi := ⟨some 6, _, _, _, _, _⟩) (v := ?_) rfl (by kernel_rfl) (by kernel_rfl) (by kernel_rfl) (fun _ _ _ h => h) (Or.inl ⟨by rfl, ?_⟩) (by assumption) ?_
    rotate_left
    · (intro w hSw; (try dsimp only at hSw); go_simp; try (with_reducible rfl))
    (try simp only [Act.put, List.setIfInBounds_toArray, List.set_cons_zero, List.set_cons_succ])
    refine wpAnyH_take (i := 15) (oi := ⟨some 7, _, _, _, _, _⟩) (v := ?_) rfl (by kernel_rfl) (by kernel_rfl) (by kernel_rfl) (fun _ _ _ h => h) (Or.inl ⟨by rfl, ?_⟩) (by assumption) ?_
    rotate_left
    · (intro w hSw; (try dsimp only at hSw); go_simp; try (with_reducible rfl))
    (try simp only [Act.put, List.setIfInBounds_toArray, List.set_cons_zero, List.set_cons_succ])
    refine wpAnyH_done (by kernel_rfl) ?_ _
    have hH := hHeld.2.2.2.2.2.2.2
    clear hHeld
    go_wp2
    go_ret3
    rw [HR.out]
    exact whenD_post (is := false) hH.sub hH.b0
  · simp only [if_true, Bool.false_eq_true, if_false] at HW2
    go_enter Tryd.func102, Tryd.ntmps102
    go_wp2
    refine wp_region_held_drew (S := (fun W => W.cell? ⟨B0, 0, none⟩ = some (.slice KA ks.length kc) ∧ W.cell? ⟨g, o, none⟩ = some (.int .u8 a.k) ∧ W.cell? ⟨g, o + 1, none⟩ = some (.string a.s) ∧ W.cell? ⟨g, o + 2, none⟩ = some (.int .i64 a.n) ∧ W.cell? ⟨g, o + 3, none⟩ = some (.slice A a.l.length ac) ∧ Kd.tm.S W (fun _ => True) a.l (.slice A a.l.length ac) ∧ (Kd.int .u8).S W (fun _ => True) ks (.slice KA ks.length kc) ∧ GK w l p m [a] (.slice (some ⟨g, o, none⟩) 1 c) W)) (by kernel_rfl) ?_ (fun hHeld => ?_)
    · exact ⟨hB, y0, y1, y2, y3, y4.below (Below.refl _ _).drew, hK.below (Below.refl _ _).drew, HG.out.then (Below.refl _ _).drew⟩
    change wpAnyH _ .any _ _ _ 16 (Array.replicate 16 false) _ _
    refine wpAnyH_take (i := 0) (oi := ⟨some 8, _, _, _, _, _⟩) (v := ?_) rfl (by kernel_rfl) (by kernel_rfl) (by kernel_rfl) (fun _ _ _ h => h) (Or.inl ⟨by rfl, ?_⟩) (by assumption) ?_
    rotate_left
    · (intro w hSw; (try dsimp only at hSw); go_simp; try (with_reducible rfl))
    (try simp only [Act.put, List.setIfInBounds_toArray, List.set_cons_zero, List.set_cons_succ])
    refine wpAnyH_take (i := 1) (oi := ⟨some 9, _, _, _, _, _⟩) (v := ?_) rfl (by kernel_rfl) (by kernel_rfl) (by kernel_rfl) (fun _ _ _ h => h) (Or.inl ⟨by rfl, ?_⟩) (by assumption) ?_
    rotate_left
    · (intro w hSw; (try dsimp only at hSw); go_simp; try (with_reducible rfl))
    (try simp only [Act.put, List.setIfInBounds_toArray, List.set_cons_zero, List.set_cons_succ])
    refine wpAnyH_take (i := 2) (oi := ⟨some 10, _, _, _, _, _⟩) (v := ?_) rfl (by kernel_rfl) (by kernel_rfl) (by kernel_rfl) (fun _ _ _ h => h) (Or.inl ⟨by rfl, ?_⟩) (by assumption) ?_
    rotate_left
    · (intro w hSw; (try dsimp only at hSw); go_simp; try (with_reducible rfl))
    (try simp only [Act.put, List.setIfInBounds_toArray, List.set_cons_zero, List.set_cons_succ])
    refine wpAnyH_take (i := 3) (oi := ⟨some 11, _, _, _, _, _⟩) (v := ?_) rfl (by kernel_rfl) (by kernel_rfl) (by kernel_rfl) (fun _ _ _ h => h) (Or.inl ⟨by rfl, ?_⟩) (by assumption) ?_
    rotate_left
    · (intro w hSw; (try dsimp only at hSw); go_simp; try (with_reducible rfl))
    (try simp only [Act.put, List.setIfInBounds_toArray, List.set_cons_zero, List.set_cons_succ])
    refine wpAnyH_take (i := 4) (oi := ⟨some 12, _, _, _, _, _⟩) (v := ?_) rfl (by kernel_rfl) (by kernel_rfl) (by kernel_rfl) (fun _ _ _ h => h) (Or.inl ⟨by rfl, ?_⟩) (by assumption) ?_
    rotate_left
    · (intro w hSw; (try dsimp only at hSw); go_simp; try (with_reducible rfl))
    (try simp only [Act.put, List.setIfInBounds_toArray, List.set_cons_zero, List.set_cons_succ])
    refine wpAnyH_take (i := 5) (oi := ⟨some 13, _, _, _, _, _⟩) (v := ?_) rfl (by kernel_rfl) (by kernel_rfl) (by kernel_rfl) (fun _ _ _ h => h) (Or.inl ⟨by rfl, ?_⟩) (by assumption) ?_
    rotate_left
    · (intro w hSw; (try dsimp only at hSw); go_simp; try (with_reducible rfl))
    (try simp only [Act.put, List.setIfInBounds_toArray, List.set_cons_zero, List.set_cons_succ])
    refine wpAnyH_ready (rs := [6]) (by kernel_rfl) (by simp) ?_
    refine AllReadyH.cons (o := ⟨some 14, _, _, _, _, _⟩) rfl (fun K hK => ?_) AllReadyH.nil
    go_simp
    obtain ⟨q0, q1, q2, q3, q4, q5, q6, q7⟩ := id hHeld
    have hq := HA.out _ q5 q7
    clear q0 q1 q2 q3 q4 q5 q6 q7
    refine hq.mono ?_
    clear hq
    rintro e w9 ⟨⟨u, rfl, ⟨uu, rfl, huu⟩⟩, hb9⟩
    go_wp2_with fail
    refine hK.out _ _ (by obtain ⟨q0, q1, q2, q3, q4, q5, q6, q7⟩ := hHeld; exact ⟨held_cell hb9 q0, held_cell hb9 q1, held_cell hb9 q2, held_cell hb9 q3, held_cell hb9 q4, q5.below hb9, q6.below hb9, q7.then hb9⟩) (fun hHeld => ?_)
    clear hK K
    (try simp only [Act.put, List.setIfInBounds_toArray, List.set_cons_zero, List.set_cons_succ])
    refine wpAnyH_take (i := 7) (oi := ⟨some 15, _, _, _, _, _⟩) (v := ?_) rfl (by kernel_rfl) (by kernel_rfl) (by kernel_rfl) (fun _ _ _ h => h) (Or.inl ⟨by rfl, ?_⟩) (by assumption) ?_
    rotate_left
    · (intro w hSw; (try dsimp only at hSw); go_simp; try (with_reducible rfl))
    (try simp only [Act.put, List.setIfInBounds_toArray, List.set_cons_zero, List.set_cons_succ])
    refine wpAnyH_ready (rs := [8]) (by kernel_rfl) (by simp) ?_
    refine AllReadyH.cons (o := ⟨some 16, _, _, _, _, _⟩) rfl (fun K hK => ?_) AllReadyH.nil
    go_simp
    obtain ⟨q0, q1, q2, q3, q4, q5, q6, q7⟩ := id hHeld
    have hq := HC.out _ q6
    clear q0 q1 q2 q3 q4 q5 q6 q7
    refine hq.mono ?_
    clear hq
    rintro e w10 ⟨rfl, hb10⟩
    go_wp2_with fail
    refine hK.out _ _ (by obtain ⟨q0, q1, q2, q3, q4, q5, q6, q7⟩ := hHeld; exact ⟨held_cell hb10 q0, held_cell hb10 q1, held_cell hb10 q2, held_cell hb10 q3, held_cell hb10 q4, q5.below hb10, q6.below hb10, q7.then hb10⟩) (fun hHeld => ?_)
    clear hK K
    (try simp only [Act.put, List.setIfInBounds_toArray, List.set_cons_zero, List.set_cons_succ])
    refine wpAnyH_ready (rs := [9]) (by kernel_rfl) (by simp) ?_
    refine AllReadyH.cons (o := ⟨some 17, _, _, _, _, _⟩) rfl (fun K hK => ?_) AllReadyH.nil
    go_simp
    refine (HW2.out _).mono ?_
    rintro e w7 ⟨rfl, hw7⟩
    rw [hw7]
    clear hw7 w7
    go_wp2_with fail
    refine hK.out _ _ hHeld (fun hHeld => ?_)
    clear hK K
    (try simp only [Act.put, List.setIfInBounds_toArray, List.set_cons_zero, List.set_cons_succ])
    refine wpAnyH_take (i := 10) (oi := ⟨some 18, _, _, _, _, _⟩) (v := ?_) rfl (by kernel_rfl) (by kernel_rfl) (by kernel_rfl) (fun _ _ _ h => h) (Or.inl ⟨by rfl, ?_⟩) (by assumption) ?_
    rotate_left
    · (intro w hSw; (try dsimp only at hSw); go_simp; try (with_reducible rfl))
    (try simp only [Act.put, List.setIfInBounds_toArray, List.set_cons_zero, List.set_cons_succ])
    refine wpAnyH_take (i := 11) (oi := ⟨some 19, _, _, _, _, _⟩) (v := ?_) rfl (by kernel_rfl) (by kernel_rfl) (by kernel_rfl) (fun _ _ _ h => h) (Or.inl ⟨by rfl, ?_⟩) (by assumption) ?_
    rotate_left
    · (intro w hSw; (try dsimp only at hSw); go_simp; try (with_reducible rfl))
    (try simp only [Act.put, List.setIfInBounds_toArray, List.set_cons_zero, List.set_cons_succ])
    refine wpAnyH_take (i := 12) (oi := ⟨some 20, _, _, _, _, _⟩) (v := ?_) rfl (by kernel_rfl) (by kernel_rfl) (by kernel_rfl) (fun _ _ _ h => h) (Or.inl ⟨by rfl, ?_⟩) (by assumption) ?_
    rotate_left
    · (intro w hSw; (try dsimp only at hSw); go_simp; try (with_reducible rfl))
    (try simp only [Act.put, List.setIfInBounds_toArray, List.set_cons_zero, List.set_cons_succ])
    refine wpAnyH_take (i := 13) (oi := ⟨some 5, _, _, _, _, _⟩) (v := ?_) rfl (by kernel_rfl) (by kernel_rfl) (by kernel_rfl) (fun _ _ _ h => h) (Or.inl ⟨by rfl, ?_⟩) (by assumption) ?_
    rotate_left
    · (intro w hSw; (try dsimp only at hSw); go_simp; try (with_reducible rfl))
    (try simp only [Act.put, List.setIfInBounds_toArray, List.set_cons_zero, List.set_cons_succ])
    refine wpAnyH_take (i := 14) (oi := ⟨some 6, _, _, _, _, _⟩) (v := ?_) rfl (by kernel_rfl) (by kernel_rfl) (by kernel_rfl) (fun _ _ _ h => h) (Or.inl ⟨by rfl, ?_⟩) (by assumption) ?_
    rotate_left
    · (intro w hSw; (try dsimp only at hSw); go_simp; try (with_reducible rfl))
    (try simp only [Act.put, List.setIfInBounds_toArray, List.set_cons_zero, List.set_cons_succ])
    refine wpAnyH_take (i := 15) (oi := ⟨some 7, _, _, _, _, _⟩) (v := ?_) rfl (by kernel_rfl) (by kernel_rfl) (by kernel_rfl) (fun _ _ _ h => h) (Or.inl ⟨by rfl, ?_⟩) (by assumption) ?_
    rotate_left
    · (intro w hSw; (try dsimp only at hSw); go_simp; try (with_reducible rfl))
    (try simp only [Act.put, List.setIfInBounds_toArray, List.set_cons_zero, List.set_cons_succ])
    refine wpAnyH_done (by kernel_rfl) ?_ _
    have hH := hHeld.2.2.2.2.2.2.2
    clear hHeld
    go_wp2
    go_ret3
    rw [HR.out]
    exact whenD_post (is := true) hH.sub hH.b0
end Go.Proofs.YtgcbanljifalnaaDoor
/- Layer 14 (builtin): a function value that stands for a builtin; called, it does what the builtin does. Conditions: the arguments read; what they are made of is bounded. -/
namespace Go.Proofs.YtgcbanljifalnaaDoor
open Go.RowKit
/-- A box of one cell. -/
def Cap (W : World) (cap : Array Value) (u : Value) : Prop := ∃ B, cap = #[.pointer (some ⟨B, 0, none⟩)] ∧ W.cell? ⟨B, 0, none⟩ = some u
/-- A function and what it holds stand for a builtin. -/
def BiV (W : World) (g : Nat) (cap : Array Value) : Bi → Prop
  | .always is => g = 94 ∧ Cap W cap (.bool is)
  | .uni => g = 61 ∧ cap = #[]
  | .dif => g = 62 ∧ cap = #[]
  | .alike want => g = 97 ∧ Cap W cap (.bool want)
  | .stands m => g = 99 ∧ Cap W cap (.func (.func (CmF m)) #[] #[])
  | .becomes => g = 65 ∧ cap = #[]
  | .reckons m => g = 101 ∧ Cap W cap (.func (.func (CmF m)) #[] #[])
  | .kinds ks => g = 102 ∧ ∃ A c, Cap W cap (.slice A ks.length c) ∧ (Kd.int .u8).S W (fun _ => True) ks (.slice A ks.length c)
theorem two_of {xs : List Tm} (h : 2 = xs.length) : ∃ a b, xs = [a, b] := by
  match xs, h with
  | [a, b], _ => exact ⟨a, b, rfl⟩
theorem one_of {xs : List Tm} (h : 1 = xs.length) : ∃ a, xs = [a] := by
  match xs, h with
  | [a], _ => exact ⟨a, rfl⟩
theorem bi_call (l : Bs) (p m : Nat) (bi : Bi) (g : Nat) (cap : Array Value) (xs : List Tm) (v : Value) (w : World) (hb : BiV w g cap bi) (hs : Sub w (fun _ => True) l p m) (hv : Kd.tm.S w (fun _ => True) xs v) (hg : GB l xs) (hn : bi.ar = xs.length) :
    Calls Tryd.prog g (#[.pointer (some ⟨p, 0, none⟩), v] ++ cap) w (DPost w.heap.size (Bi.run l bi xs) w) := by
  cases bi with
  | always is =>
    obtain ⟨rfl, B, rfl, hB⟩ := hb
    exact always_c l p m is v w B hs hB
  | uni =>
    obtain ⟨rfl, rfl⟩ := hb
    obtain ⟨a, b, rfl⟩ := two_of hn
    exact unifies_c l p m a b v w hs hv hg
  | dif =>
    obtain ⟨rfl, rfl⟩ := hb
    obtain ⟨a, b, rfl⟩ := two_of hn
    exact differs_c l p m a b v w hs hv hg
  | alike want =>
    obtain ⟨rfl, B, rfl, hB⟩ := hb
    obtain ⟨a, b, rfl⟩ := two_of hn
    by_cases he : (visA l a).length ≤ 4096 ∧ (visA l b).length ≤ 4096
    · exact alike_ok l p m a b v w B want hs hv hg hB he.1 he.2
    · exact alike_err l p m a b v w B want hs hv hg hB he
  | stands cm =>
    obtain ⟨rfl, B, rfl, hB⟩ := hb
    obtain ⟨a, b, rfl⟩ := two_of hn
    by_cases he : (visA l a).length ≤ 4096 ∧ (visA l b).length ≤ 4096
    · exact stands_ok l p m a b v w B cm hs hv hg hB he.1 he.2
    · exact stands_err l p m a b v w B cm hs hv hg hB he
  | becomes =>
    obtain ⟨rfl, rfl⟩ := hb
    obtain ⟨a, b, rfl⟩ := two_of hn
    exact becomes_c l p m a b v w hs hv hg
  | reckons cm =>
    obtain ⟨rfl, B, rfl, hB⟩ := hb
    obtain ⟨a, b, rfl⟩ := two_of hn
    exact reckons_c l p m a b v w hs hv hg cm B hB
  | kinds ks =>
    obtain ⟨rfl, A, c, ⟨B, rfl, hB⟩, hK⟩ := hb
    obtain ⟨a, rfl⟩ := one_of hn
    exact kinds_c l p m a v w hs hv hg.wf.1 ks B A c hB hK
end Go.Proofs.YtgcbanljifalnaaDoor
/- Layer 14 (builtin): the builtins' functions are made. No condition. -/
namespace Go.Proofs.YtgcbanljifalnaaDoor
open Go.RowKit
theorem mk_always (is : Bool) (w : World) : Calls Tryd.prog 60 #[.bool is] w fun e w' => e = .returned (.func (.func 94) #[] #[.pointer (some ⟨w.heap.size, 0, none⟩)]) ∧ w' = w.alloc (.cells #[.bool is] 4) := by
  have hmf : ∀ (fn : Go.Fn) (first cap : Array Value) (w : World), (Instr.makeFunc fn first cap).run Tryd.prog w = .ok (.func fn first cap) w := fun _ _ _ _ => rfl
  go_enter Tryd.func60, Tryd.ntmps60
  go_wp2
  go_ret
  exact ⟨rfl, rfl⟩
theorem mk_alike (is : Bool) (w : World) : Calls Tryd.prog 63 #[.bool is] w fun e w' => e = .returned (.func (.func 97) #[] #[.pointer (some ⟨w.heap.size, 0, none⟩)]) ∧ w' = w.alloc (.cells #[.bool is] 4) := by
  have hmf : ∀ (fn : Go.Fn) (first cap : Array Value) (w : World), (Instr.makeFunc fn first cap).run Tryd.prog w = .ok (.func fn first cap) w := fun _ _ _ _ => rfl
  go_enter Tryd.func63, Tryd.ntmps63
  go_wp2
  go_ret
  exact ⟨rfl, rfl⟩
theorem mk_stands (f : Nat) (w : World) : Calls Tryd.prog 64 #[.func (.func f) #[] #[]] w fun e w' => e = .returned (.func (.func 99) #[] #[.pointer (some ⟨w.heap.size, 0, none⟩)]) ∧ w' = w.alloc (.cells #[.func (.func f) #[] #[]] 85) := by
  have hmf : ∀ (fn : Go.Fn) (first cap : Array Value) (w : World), (Instr.makeFunc fn first cap).run Tryd.prog w = .ok (.func fn first cap) w := fun _ _ _ _ => rfl
  go_enter Tryd.func64, Tryd.ntmps64
  go_wp2
  go_ret
  exact ⟨rfl, rfl⟩
theorem mk_reckons (f : Nat) (w : World) : Calls Tryd.prog 66 #[.func (.func f) #[] #[]] w fun e w' => e = .returned (.func (.func 101) #[] #[.pointer (some ⟨w.heap.size, 0, none⟩)]) ∧ w' = w.alloc (.cells #[.func (.func f) #[] #[]] 85) := by
  have hmf : ∀ (fn : Go.Fn) (first cap : Array Value) (w : World), (Instr.makeFunc fn first cap).run Tryd.prog w = .ok (.func fn first cap) w := fun _ _ _ _ => rfl
  go_enter Tryd.func66, Tryd.ntmps66
  go_wp2
  go_ret
  exact ⟨rfl, rfl⟩
theorem mk_kinds (A : Option Addr) (n c : Nat) (w : World) : Calls Tryd.prog 67 #[.slice A n c] w fun e w' => e = .returned (.func (.func 102) #[] #[.pointer (some ⟨w.heap.size, 0, none⟩)]) ∧ w' = w.alloc (.cells #[.slice A n c] 102) := by
  have hmf : ∀ (fn : Go.Fn) (first cap : Array Value) (w : World), (Instr.makeFunc fn first cap).run Tryd.prog w = .ok (.func fn first cap) w := fun _ _ _ _ => rfl
  go_enter Tryd.func67, Tryd.ntmps67
  go_wp2
  go_ret
  exact ⟨rfl, rfl⟩
end Go.Proofs.YtgcbanljifalnaaDoor
/- Layer 14 (builtin): the map of all builtins. No condition. -/
namespace Go.Proofs.YtgcbanljifalnaaDoor
open Go.RowKit Go.WideMaps
/-- Block b is no row of cells. -/
def NoC (W : World) (b : Nat) : Prop := ∀ c t f, W.heap[b]? ≠ some (.cells c t f)
theorem Mp.noC {W : World} {b : Nat} {L : List (Value × Value)} (h : Mp W b L) : NoC W b := fun c t f e => by
  obtain ⟨E, clock, h1, _⟩ := h
  rw [h1] at e
  cases e
theorem cell_noC {W W' : World} {b B o : Nat} {u : Value} (hn : NoC W b) (hg : W.grownBy W' (some b)) (h : W.cell? ⟨B, o, none⟩ = some u) : W'.cell? ⟨B, o, none⟩ = some u := by
  have hlt := cell_lt h
  have hne : B ≠ b := fun e => by
    subst e
    unfold World.cell? at h
    cases hb : W.heap[B]? with
    | none => rw [hb] at h; simp at h
    | some x =>
      cases x with
      | cells c t f => exact hn c t f hb
      | _ => rw [hb] at h; simp at h
  rw [World.cell?_of_block (a := ⟨B, o, none⟩) (hg.block B hlt (fun e => hne (by injection e)))]
  exact h
theorem int_noC {W W' : World} {b : Nat} {k : IntKind} {ks : List Int} {v : Value} (hn : NoC W b) (hg : W.grownBy W' (some b)) (h : (Kd.int k).S W (fun _ => True) ks v) : (Kd.int k).S W' (fun _ => True) ks v := by
  have h1 := Kd.S.apart' (m := b) (fun x cs hk => hk) hn h
  exact (Kd.S.grown hg (fun i hi e => hi.2 (by injection e)) h1).mono (fun _ _ => trivial)
theorem Cap.grown {W W' : World} {b : Nat} {cap : Array Value} {u : Value} (hn : NoC W b) (hg : W.grownBy W' (some b)) (h : Cap W cap u) : Cap W' cap u := by
  obtain ⟨B, e, h1⟩ := h
  exact ⟨B, e, cell_noC hn hg h1⟩
theorem BiV.grown {W W' : World} {b g : Nat} {cap : Array Value} {bi : Bi} (hn : NoC W b) (hg : W.grownBy W' (some b)) (h : BiV W g cap bi) : BiV W' g cap bi := by
  cases bi with
  | always is => exact ⟨h.1, h.2.grown hn hg⟩
  | uni => exact h
  | dif => exact h
  | alike want => exact ⟨h.1, h.2.grown hn hg⟩
  | stands m => exact ⟨h.1, h.2.grown hn hg⟩
  | becomes => exact h
  | reckons m => exact ⟨h.1, h.2.grown hn hg⟩
  | kinds ks =>
    obtain ⟨h1, A, c, h2, h3⟩ := h
    exact ⟨h1, A, c, h2.grown hn hg, int_noC hn hg h3⟩
theorem Cap.below {W W' : World} {cap : Array Value} {u : Value} (hb : Below W.heap.size W W') (h : Cap W cap u) : Cap W' cap u := by
  obtain ⟨B, e, h1⟩ := h
  exact ⟨B, e, cell_below hb h1 (cell_lt h1)⟩
theorem BiV.below {W W' : World} {g : Nat} {cap : Array Value} {bi : Bi} (hb : Below W.heap.size W W') (h : BiV W g cap bi) : BiV W' g cap bi := by
  cases bi with
  | always is => exact ⟨h.1, h.2.below hb⟩
  | uni => exact h
  | dif => exact h
  | alike want => exact ⟨h.1, h.2.below hb⟩
  | stands m => exact ⟨h.1, h.2.below hb⟩
  | becomes => exact h
  | reckons m => exact ⟨h.1, h.2.below hb⟩
  | kinds ks =>
    obtain ⟨h1, A, c, h2, h3⟩ := h
    exact ⟨h1, A, c, h2.below hb, h3.below hb⟩
/-- An entry stands for a builtin. -/
def EnB (W : World) (p : Value × Value) (q : ByteArray × Bi) : Prop := p.1 = .string q.1 ∧ ∃ g cap, p.2 = .func (.func g) #[] cap ∧ BiV W g cap q.2
/-- The entries laid so far. -/
inductive En2 (W : World) : List (Value × Value) → List (ByteArray × Bi) → Prop
  | nil : En2 W [] []
  | snoc {L B p q} : En2 W L B → EnB W p q → En2 W (L ++ [p]) (B ++ [q])
theorem En2.move {W W' : World} (hm : ∀ p q, EnB W p q → EnB W' p q) {L : List (Value × Value)} {B : List (ByteArray × Bi)} (h : En2 W L B) : En2 W' L B := by
  induction h with
  | nil => exact .nil
  | snoc h1 h2 ih => exact ih.snoc (hm _ _ h2)
theorem EnB.grown {W W' : World} {b : Nat} (hn : NoC W b) (hg : W.grownBy W' (some b)) (p : Value × Value) (q : ByteArray × Bi) (h : EnB W p q) : EnB W' p q := by
  obtain ⟨h1, g, cap, h2, h3⟩ := h
  exact ⟨h1, g, cap, h2, h3.grown hn hg⟩
theorem EnB.below {W W' : World} (hb : Below W.heap.size W W') (p : Value × Value) (q : ByteArray × Bi) (h : EnB W p q) : EnB W' p q := by
  obtain ⟨h1, g, cap, h2, h3⟩ := h
  exact ⟨h1, g, cap, h2, h3.below hb⟩
theorem En2.of_left {W : World} {L : List (Value × Value)} {B : List (ByteArray × Bi)} (h : En2 W L B) : ∀ p ∈ L, ∃ q ∈ B, EnB W p q := by
  induction h with
  | nil => intro p hp; cases hp
  | snoc h1 h2 ih =>
    intro p hp
    rcases List.mem_append.1 hp with hp | hp
    · obtain ⟨q, hq, h3⟩ := ih p hp
      exact ⟨q, List.mem_append_left _ hq, h3⟩
    · rw [List.mem_singleton.1 hp]
      exact ⟨_, List.mem_append_right _ (List.mem_singleton.2 rfl), h2⟩
theorem En2.of_right {W : World} {L : List (Value × Value)} {B : List (ByteArray × Bi)} (h : En2 W L B) : ∀ q ∈ B, ∃ p ∈ L, EnB W p q := by
  induction h with
  | nil => intro p hp; cases hp
  | snoc h1 h2 ih =>
    intro p hp
    rcases List.mem_append.1 hp with hp | hp
    · obtain ⟨q, hq, h3⟩ := ih p hp
      exact ⟨q, List.mem_append_left _ hq, h3⟩
    · rw [List.mem_singleton.1 hp]
      exact ⟨_, List.mem_append_right _ (List.mem_singleton.2 rfl), h2⟩
/-- The map, so far. -/
structure Al (w W : World) (b : Nat) (B : List (ByteArray × Bi)) : Prop where
  mp : ∃ L, Mp W b L ∧ En2 W L B
  bel : Below w.heap.size w W
  hb : w.heap.size ≤ b
  sz : ∀ q ∈ B, q.1.size ≤ 40
theorem Al.then {w W W' : World} {b : Nat} {B : List (ByteArray × Bi)} (h : Al w W b B) (hb : Below W.heap.size W W') : Al w W' b B := by
  obtain ⟨L, h1, h2⟩ := h.mp
  exact ⟨⟨L, h1.below hb h1.lt, h2.move (fun p q => EnB.below hb p q)⟩, below_then h.bel h.bel.size hb, h.hb, h.sz⟩
theorem En2.key {W : World} {L : List (Value × Value)} {B : List (ByteArray × Bi)} (h : En2 W L B) (hs : ∀ q ∈ B, q.1.size ≤ 40) : ∀ p ∈ L, ∃ l, keyOf Tryd.prog 9 p.1 = some l := fun p hp => by
  obtain ⟨q, hq, e, _⟩ := h.of_left p hp
  rw [e]
  exact str_key (by have := hs q hq; omega)
theorem Al.put {w W : World} {b : Nat} {B : List (ByteArray × Bi)} (h : Al w W b B) (s : ByteArray) (bi : Bi) (g : Nat) (cap : Array Value) (hv : BiV W g cap bi) (hs : s.size ≤ 40) (hk : ∀ q ∈ B, q.1 ≠ s) :
    ∃ W2, (Instr.mapUpdate 79 (.map (some b)) (.string s) (.func (.func g) #[] cap)).run Tryd.prog W = .ok () W2 ∧ Al w W2 b (B ++ [(s, bi)]) := by
  obtain ⟨L, h1, h2⟩ := h.mp
  obtain ⟨lk, hlk⟩ := str_key (s := s) (by omega)
  obtain ⟨W2, e, m, hg⟩ := Mp.put_new Tryd.strLaw Tryd.underlying79 h1 (v := .func (.func g) #[] cap) (h2.key h.sz) hlk (fun p hp e => by
    obtain ⟨q, hq, e2, _⟩ := h2.of_left p hp
    rw [e2] at e
    injection e with e
    exact hk q hq e)
  have hn := h1.noC
  refine ⟨W2, e, ⟨_, m, (h2.move (fun p q => EnB.grown hn hg p q)).snoc ⟨rfl, g, cap, rfl, hv.grown hn hg⟩⟩, below_of_grown (gfresh (r := none) (gnone h.bel) hg h.hb), h.hb, fun q hq => ?_⟩
  rcases List.mem_append.1 hq with hq | hq
  · exact h.sz q hq
  · rw [List.mem_singleton.1 hq]; exact hs
theorem Al.at {w W : World} {b : Nat} (h : Al w W b biL) {s : ByteArray} {bi : Bi} (hs : biOf s = some bi) : ∃ g cap, (Instr.lookup 79 (.map (some b)) (.string s) false).run Tryd.prog W = .ok (.func (.func g) #[] cap) W ∧ BiV W g cap bi := by
  obtain ⟨L, h1, h2⟩ := h.mp
  obtain ⟨p, hp, e1, g, cap, e2, h3⟩ := h2.of_right _ (biOf_some hs)
  refine ⟨g, cap, ?_, h3⟩
  have := Mp.look_some Tryd.strLaw Tryd.underlying79 h1 (h2.key h.sz) false (k := .string s) (v := .func (.func g) #[] cap) (by rw [← e1, ← e2]; exact hp)
  simpa using this
theorem cap_new (W : World) (u : Value) (t : TypeId) : Cap (W.alloc (.cells #[u] t)) #[.pointer (some ⟨W.heap.size, 0, none⟩)] u := ⟨_, rfl, by unfold World.cell?; simp only; rw [heap_alloc_new]; rfl⟩
theorem ks_new (W : World) (ks : List Int) (h0 : ks ≠ []) (hl : ks.length ≤ 4) : (Kd.int .u8).S (W.alloc (.cells (ks.map (Value.int .u8)).toArray 5)) (fun _ => True) ks (.slice (some ⟨W.heap.size, 0, none⟩) ks.length ks.length) := by
  refine ⟨_, _, rfl, Nat.le_refl _, by unfold maxLen; omega, .inr ⟨_, 0, rfl, trivial, fun j x hx => ⟨_, rfl, fun i u hu => ?_⟩⟩⟩
  cases i with
  | zero =>
    simp at hu
    subst hu
    have hj : j < ks.length := (List.getElem?_eq_some_iff.1 hx).1
    show World.cell? _ ⟨_, 0 + j * 1 + 0, none⟩ = _
    unfold World.cell?
    simp only
    rw [heap_alloc_new]
    simp [hx]
  | succ i => simp at hu
set_option maxRecDepth 100000 in
set_option maxHeartbeats 16000000 in
theorem biAll_c (w : World) : Calls Tryd.prog 39 #[] w fun e w' => (∃ b, e = .returned (.map (some b)) ∧ Al w w' b biL) ∧ Below w.heap.size w w' := by
  have hmm := @run_makeMap Tryd.prog
  have a0 : Al w (w.alloc (.map #[] 0)) w.heap.size [] := ⟨⟨[], Mp.made w, .nil⟩, (Below.refl _ w).alloc (Nat.le_refl _) _, Nat.le_refl _, fun q hq => by cases hq⟩
  obtain ⟨W1, e1, a1⟩ := (a0.then ((Below.refl _ (w.alloc (.map #[] 0))).alloc (Nat.le_refl _) _ : Below _ _ ((w.alloc (.map #[] 0)).alloc (.cells #[.bool true] 4)))).put ⟨#[116, 114, 117, 101]⟩ (.always true) 94 #[.pointer (some ⟨(w.alloc (.map #[] 0)).heap.size, 0, none⟩)] ⟨rfl, cap_new _ _ _⟩ (by decide) (by decide +kernel)
  obtain ⟨W2, e2, a2⟩ := (a1.then ((Below.refl _ W1).alloc (Nat.le_refl _) _ : Below _ _ (W1.alloc (.cells #[.bool false] 4)))).put ⟨#[102, 97, 105, 108]⟩ (.always false) 94 #[.pointer (some ⟨W1.heap.size, 0, none⟩)] ⟨rfl, cap_new _ _ _⟩ (by decide) (by decide +kernel)
  obtain ⟨W3, e3, a3⟩ := a2.put ⟨#[61]⟩ (.uni) 61 #[] ⟨rfl, rfl⟩ (by decide) (by decide +kernel)
  obtain ⟨W4, e4, a4⟩ := a3.put ⟨#[92, 61]⟩ (.dif) 62 #[] ⟨rfl, rfl⟩ (by decide) (by decide +kernel)
  obtain ⟨W5, e5, a5⟩ := (a4.then ((Below.refl _ W4).alloc (Nat.le_refl _) _ : Below _ _ (W4.alloc (.cells #[.bool true] 4)))).put ⟨#[61, 61]⟩ (.alike true) 97 #[.pointer (some ⟨W4.heap.size, 0, none⟩)] ⟨rfl, cap_new _ _ _⟩ (by decide) (by decide +kernel)
  obtain ⟨W6, e6, a6⟩ := (a5.then ((Below.refl _ W5).alloc (Nat.le_refl _) _ : Below _ _ (W5.alloc (.cells #[.bool false] 4)))).put ⟨#[92, 61, 61]⟩ (.alike false) 97 #[.pointer (some ⟨W5.heap.size, 0, none⟩)] ⟨rfl, cap_new _ _ _⟩ (by decide) (by decide +kernel)
  obtain ⟨W7, e7, a7⟩ := (a6.then ((Below.refl _ W6).alloc (Nat.le_refl _) _ : Below _ _ (W6.alloc (.cells #[.func (.func 54) #[] #[]] 85)))).put ⟨#[64, 60]⟩ (.stands .lt) 99 #[.pointer (some ⟨W6.heap.size, 0, none⟩)] ⟨rfl, cap_new _ _ _⟩ (by decide) (by decide +kernel)
  obtain ⟨W8, e8, a8⟩ := (a7.then ((Below.refl _ W7).alloc (Nat.le_refl _) _ : Below _ _ (W7.alloc (.cells #[.func (.func 55) #[] #[]] 85)))).put ⟨#[64, 62]⟩ (.stands .gt) 99 #[.pointer (some ⟨W7.heap.size, 0, none⟩)] ⟨rfl, cap_new _ _ _⟩ (by decide) (by decide +kernel)
  obtain ⟨W9, e9, a9⟩ := (a8.then ((Below.refl _ W8).alloc (Nat.le_refl _) _ : Below _ _ (W8.alloc (.cells #[.func (.func 58) #[] #[]] 85)))).put ⟨#[64, 61, 60]⟩ (.stands .le) 99 #[.pointer (some ⟨W8.heap.size, 0, none⟩)] ⟨rfl, cap_new _ _ _⟩ (by decide) (by decide +kernel)
  obtain ⟨W10, e10, a10⟩ := (a9.then ((Below.refl _ W9).alloc (Nat.le_refl _) _ : Below _ _ (W9.alloc (.cells #[.func (.func 59) #[] #[]] 85)))).put ⟨#[64, 62, 61]⟩ (.stands .ge) 99 #[.pointer (some ⟨W9.heap.size, 0, none⟩)] ⟨rfl, cap_new _ _ _⟩ (by decide) (by decide +kernel)
  obtain ⟨W11, e11, a11⟩ := a10.put ⟨#[105, 115]⟩ (.becomes) 65 #[] ⟨rfl, rfl⟩ (by decide) (by decide +kernel)
  obtain ⟨W12, e12, a12⟩ := (a11.then ((Below.refl _ W11).alloc (Nat.le_refl _) _ : Below _ _ (W11.alloc (.cells #[.func (.func 56) #[] #[]] 85)))).put ⟨#[61, 58, 61]⟩ (.reckons .eq) 101 #[.pointer (some ⟨W11.heap.size, 0, none⟩)] ⟨rfl, cap_new _ _ _⟩ (by decide) (by decide +kernel)
  obtain ⟨W13, e13, a13⟩ := (a12.then ((Below.refl _ W12).alloc (Nat.le_refl _) _ : Below _ _ (W12.alloc (.cells #[.func (.func 57) #[] #[]] 85)))).put ⟨#[61, 92, 61]⟩ (.reckons .ne) 101 #[.pointer (some ⟨W12.heap.size, 0, none⟩)] ⟨rfl, cap_new _ _ _⟩ (by decide) (by decide +kernel)
  obtain ⟨W14, e14, a14⟩ := (a13.then ((Below.refl _ W13).alloc (Nat.le_refl _) _ : Below _ _ (W13.alloc (.cells #[.func (.func 54) #[] #[]] 85)))).put ⟨#[60]⟩ (.reckons .lt) 101 #[.pointer (some ⟨W13.heap.size, 0, none⟩)] ⟨rfl, cap_new _ _ _⟩ (by decide) (by decide +kernel)
  obtain ⟨W15, e15, a15⟩ := (a14.then ((Below.refl _ W14).alloc (Nat.le_refl _) _ : Below _ _ (W14.alloc (.cells #[.func (.func 55) #[] #[]] 85)))).put ⟨#[62]⟩ (.reckons .gt) 101 #[.pointer (some ⟨W14.heap.size, 0, none⟩)] ⟨rfl, cap_new _ _ _⟩ (by decide) (by decide +kernel)
  obtain ⟨W16, e16, a16⟩ := (a15.then ((Below.refl _ W15).alloc (Nat.le_refl _) _ : Below _ _ (W15.alloc (.cells #[.func (.func 58) #[] #[]] 85)))).put ⟨#[61, 60]⟩ (.reckons .le) 101 #[.pointer (some ⟨W15.heap.size, 0, none⟩)] ⟨rfl, cap_new _ _ _⟩ (by decide) (by decide +kernel)
  obtain ⟨W17, e17, a17⟩ := (a16.then ((Below.refl _ W16).alloc (Nat.le_refl _) _ : Below _ _ (W16.alloc (.cells #[.func (.func 59) #[] #[]] 85)))).put ⟨#[62, 61]⟩ (.reckons .ge) 101 #[.pointer (some ⟨W16.heap.size, 0, none⟩)] ⟨rfl, cap_new _ _ _⟩ (by decide) (by decide +kernel)
  obtain ⟨W18, e18, a18⟩ := ((a17.then ((Below.refl _ W17).alloc (Nat.le_refl _) _ : Below _ _ (W17.alloc (.cells #[.int .u8 1] 5)))).then ((Below.refl _ (W17.alloc (.cells #[.int .u8 1] 5))).alloc (Nat.le_refl _) _ : Below _ _ ((W17.alloc (.cells #[.int .u8 1] 5)).alloc (.cells #[.slice (some ⟨W17.heap.size, 0, none⟩) 1 1] 102)))).put ⟨#[118, 97, 114]⟩ (.kinds [1]) 102 #[.pointer (some ⟨(W17.alloc (.cells #[.int .u8 1] 5)).heap.size, 0, none⟩)] ⟨rfl, some ⟨W17.heap.size, 0, none⟩, 1, cap_new _ _ _, (ks_new W17 [1] (by simp) (by simp)).below ((Below.refl _ _).alloc (Nat.le_refl _) _)⟩ (by decide) (by decide +kernel)
  obtain ⟨W19, e19, a19⟩ := ((a18.then ((Below.refl _ W18).alloc (Nat.le_refl _) _ : Below _ _ (W18.alloc (.cells #[.int .u8 2, .int .u8 3, .int .u8 4] 5)))).then ((Below.refl _ (W18.alloc (.cells #[.int .u8 2, .int .u8 3, .int .u8 4] 5))).alloc (Nat.le_refl _) _ : Below _ _ ((W18.alloc (.cells #[.int .u8 2, .int .u8 3, .int .u8 4] 5)).alloc (.cells #[.slice (some ⟨W18.heap.size, 0, none⟩) 3 3] 102)))).put ⟨#[110, 111, 110, 118, 97, 114]⟩ (.kinds [2, 3, 4]) 102 #[.pointer (some ⟨(W18.alloc (.cells #[.int .u8 2, .int .u8 3, .int .u8 4] 5)).heap.size, 0, none⟩)] ⟨rfl, some ⟨W18.heap.size, 0, none⟩, 3, cap_new _ _ _, (ks_new W18 [2, 3, 4] (by simp) (by simp)).below ((Below.refl _ _).alloc (Nat.le_refl _) _)⟩ (by decide) (by decide +kernel)
  obtain ⟨W20, e20, a20⟩ := ((a19.then ((Below.refl _ W19).alloc (Nat.le_refl _) _ : Below _ _ (W19.alloc (.cells #[.int .u8 3] 5)))).then ((Below.refl _ (W19.alloc (.cells #[.int .u8 3] 5))).alloc (Nat.le_refl _) _ : Below _ _ ((W19.alloc (.cells #[.int .u8 3] 5)).alloc (.cells #[.slice (some ⟨W19.heap.size, 0, none⟩) 1 1] 102)))).put ⟨#[97, 116, 111, 109]⟩ (.kinds [3]) 102 #[.pointer (some ⟨(W19.alloc (.cells #[.int .u8 3] 5)).heap.size, 0, none⟩)] ⟨rfl, some ⟨W19.heap.size, 0, none⟩, 1, cap_new _ _ _, (ks_new W19 [3] (by simp) (by simp)).below ((Below.refl _ _).alloc (Nat.le_refl _) _)⟩ (by decide) (by decide +kernel)
  obtain ⟨W21, e21, a21⟩ := ((a20.then ((Below.refl _ W20).alloc (Nat.le_refl _) _ : Below _ _ (W20.alloc (.cells #[.int .u8 2] 5)))).then ((Below.refl _ (W20.alloc (.cells #[.int .u8 2] 5))).alloc (Nat.le_refl _) _ : Below _ _ ((W20.alloc (.cells #[.int .u8 2] 5)).alloc (.cells #[.slice (some ⟨W20.heap.size, 0, none⟩) 1 1] 102)))).put ⟨#[105, 110, 116, 101, 103, 101, 114]⟩ (.kinds [2]) 102 #[.pointer (some ⟨(W20.alloc (.cells #[.int .u8 2] 5)).heap.size, 0, none⟩)] ⟨rfl, some ⟨W20.heap.size, 0, none⟩, 1, cap_new _ _ _, (ks_new W20 [2] (by simp) (by simp)).below ((Below.refl _ _).alloc (Nat.le_refl _) _)⟩ (by decide) (by decide +kernel)
  obtain ⟨W22, e22, a22⟩ := ((a21.then ((Below.refl _ W21).alloc (Nat.le_refl _) _ : Below _ _ (W21.alloc (.cells #[.int .u8 3, .int .u8 2] 5)))).then ((Below.refl _ (W21.alloc (.cells #[.int .u8 3, .int .u8 2] 5))).alloc (Nat.le_refl _) _ : Below _ _ ((W21.alloc (.cells #[.int .u8 3, .int .u8 2] 5)).alloc (.cells #[.slice (some ⟨W21.heap.size, 0, none⟩) 2 2] 102)))).put ⟨#[97, 116, 111, 109, 105, 99]⟩ (.kinds [3, 2]) 102 #[.pointer (some ⟨(W21.alloc (.cells #[.int .u8 3, .int .u8 2] 5)).heap.size, 0, none⟩)] ⟨rfl, some ⟨W21.heap.size, 0, none⟩, 2, cap_new _ _ _, (ks_new W21 [3, 2] (by simp) (by simp)).below ((Below.refl _ _).alloc (Nat.le_refl _) _)⟩ (by decide) (by decide +kernel)
  obtain ⟨W23, e23, a23⟩ := ((a22.then ((Below.refl _ W22).alloc (Nat.le_refl _) _ : Below _ _ (W22.alloc (.cells #[.int .u8 4] 5)))).then ((Below.refl _ (W22.alloc (.cells #[.int .u8 4] 5))).alloc (Nat.le_refl _) _ : Below _ _ ((W22.alloc (.cells #[.int .u8 4] 5)).alloc (.cells #[.slice (some ⟨W22.heap.size, 0, none⟩) 1 1] 102)))).put ⟨#[99, 111, 109, 112, 111, 117, 110, 100]⟩ (.kinds [4]) 102 #[.pointer (some ⟨(W22.alloc (.cells #[.int .u8 4] 5)).heap.size, 0, none⟩)] ⟨rfl, some ⟨W22.heap.size, 0, none⟩, 1, cap_new _ _ _, (ks_new W22 [4] (by simp) (by simp)).below ((Below.refl _ _).alloc (Nat.le_refl _) _)⟩ (by decide) (by decide +kernel)
  have A := Lib.hid (show Al w W23 w.heap.size biL from a23)
  clear a0 a1 a2 a3 a4 a5 a6 a7 a8 a9 a10 a11 a12 a13 a14 a15 a16 a17 a18 a19 a20 a21 a22 a23
  simp only [World.size_alloc] at e1 e5 e6 e18 e19 e20 e21 e22 e23
  go_enter Tryd.func39, Tryd.ntmps39
  go_wp2_with (first
    | (go_at_call 60; refine (mk_always _ _).mono ?_; rintro e w1 ⟨rfl, hw1⟩; rw [hw1]; clear hw1 w1)
    | (go_at_call 63; refine (mk_alike _ _).mono ?_; rintro e w1 ⟨rfl, hw1⟩; rw [hw1]; clear hw1 w1)
    | (go_at_call 64; refine (mk_stands _ _).mono ?_; rintro e w1 ⟨rfl, hw1⟩; rw [hw1]; clear hw1 w1)
    | (go_at_call 66; refine (mk_reckons _ _).mono ?_; rintro e w1 ⟨rfl, hw1⟩; rw [hw1]; clear hw1 w1)
    | (go_at_call 67; refine (mk_kinds _ _ _ _).mono ?_; rintro e w1 ⟨rfl, hw1⟩; rw [hw1]; clear hw1 w1))
  go_ret
  exact ⟨⟨_, rfl, A.out⟩, A.out.bel⟩
end Go.Proofs.YtgcbanljifalnaaDoor
/-
  DERIVED: THE SHELF's CONTRACTS AT THIS DUMP, IN PLAIN WORDS (tools/lay-plain.mjs out of 'TrydShelf.lean', which tools/lay-shelf.mjs wrote): THE SAME DECLARATIONS UNDER THE SAME NAMES: 'import', 'namespace', 'open', 'def', 'theorem' AND NOTHING ELSE: no command of the shelf's: FOR A HAND-IN. Each laying: the table of numbers ('.._ren') and one theorem, a field a fact of the dump's own or the kernel's comparison; each contract: ONE APPLICATION.
-/
namespace Go.Proofs
open Go.Shelf
def Tryd.lays157_ren : Go.Shelf.Ren := ⟨fun | 157 => 113 | 229 => 126 | 199 => 127 | 261 => 138 | 311 => 149 | 312 => 150 | n => n, fun | 9 => 9 | 31 => 129 | 3 => 3 | 5 => 5 | 4 => 4 | 119 => 145 | 0 => 0 | 40 => 142 | 152 => 175 | 21 => 21 | 154 => 177 | 51 => 126 | 141 => 179 | 196 => 187 | 193 => 184 | 198 => 189 | 49 => 168 | 194 => 185 | 201 => 192 | 226 => 199 | 46 => 121 | 227 => 200 | n => n, fun | 0 => 1 | 6 => 11 | n => n⟩
theorem Tryd.lays157 : Go.Proofs.Lays.n157 Tryd.prog Tryd.lays157_ren := {
  mixed := by kernel_rfl
  f157 := Tryd.func113.trans (congrArg some (by kernel_rfl))
  f199 := Tryd.func127.trans (congrArg some (by kernel_rfl))
  f229 := Tryd.func126.trans (congrArg some (by kernel_rfl))
  f261 := Tryd.func138.trans (congrArg some (by kernel_rfl))
  f311 := Tryd.func149.trans (congrArg some (by kernel_rfl))
  f312 := Tryd.func150.trans (congrArg some (by kernel_rfl))
  t0 := Tryd.underlying0
  a0 := Tryd.isAgg0
  z0 := Tryd.sizeOf0
  v0 := Tryd.zeroValue0
  t3 := Tryd.underlying3
  a3 := Tryd.isAgg3
  z3 := Tryd.sizeOf3
  v3 := Tryd.zeroValue3
  t4 := Tryd.underlying4
  a4 := Tryd.isAgg4
  z4 := Tryd.sizeOf4
  v4 := Tryd.zeroValue4
  t5 := Tryd.underlying5
  a5 := Tryd.isAgg5
  z5 := Tryd.sizeOf5
  v5 := Tryd.zeroValue5
  t9 := Tryd.underlying9
  a9 := Tryd.isAgg9
  z9 := Tryd.sizeOf9
  v9 := Tryd.zeroValue9
  t21 := Tryd.underlying21
  a21 := Tryd.isAgg21
  z21 := Tryd.sizeOf21
  v21 := Tryd.zeroValue21
  t31 := Tryd.underlying129
  a31 := Tryd.isAgg129
  z31 := Tryd.sizeOf129
  v31 := Tryd.zeroValue129
  t40 := Tryd.underlying142
  a40 := Tryd.isAgg142
  z40 := Tryd.sizeOf142
  v40 := Tryd.zeroValue142
  t46 := Tryd.underlying121
  a46 := Tryd.isAgg121
  z46 := Tryd.sizeOf121
  v46 := Tryd.zeroValue121
  t49 := Tryd.underlying168
  a49 := Tryd.isAgg168
  z49 := Tryd.sizeOf168
  v49 := Tryd.zeroValue168
  t51 := Tryd.underlying126
  a51 := Tryd.isAgg126
  z51 := Tryd.sizeOf126
  v51 := Tryd.zeroValue126
  t119 := Tryd.underlying145
  a119 := Tryd.isAgg145
  z119 := Tryd.sizeOf145
  t141 := Tryd.underlying179
  a141 := Tryd.isAgg179
  z141 := Tryd.sizeOf179
  v141 := Tryd.zeroValue179
  t152 := Tryd.underlying175
  a152 := Tryd.isAgg175
  z152 := Tryd.sizeOf175
  v152 := Tryd.zeroValue175
  t154 := Tryd.underlying177
  a154 := Tryd.isAgg177
  z154 := Tryd.sizeOf177
  v154 := Tryd.zeroValue177
  t193 := Tryd.underlying184
  a193 := Tryd.isAgg184
  z193 := Tryd.sizeOf184
  v193 := Tryd.zeroValue184
  t194 := Tryd.underlying185
  a194 := Tryd.isAgg185
  z194 := Tryd.sizeOf185
  v194 := Tryd.zeroValue185
  t196 := Tryd.underlying187
  a196 := Tryd.isAgg187
  z196 := Tryd.sizeOf187
  v196 := Tryd.zeroValue187
  t198 := Tryd.underlying189
  a198 := Tryd.isAgg189
  z198 := Tryd.sizeOf189
  v198 := Tryd.zeroValue189
  t201 := Tryd.underlying192
  a201 := Tryd.isAgg192
  z201 := Tryd.sizeOf192
  v201 := Tryd.zeroValue192
  t226 := Tryd.underlying199
  a226 := Tryd.isAgg199
  z226 := Tryd.sizeOf199
  v226 := Tryd.zeroValue199
  t227 := Tryd.underlying200
  a227 := Tryd.isAgg200
  z227 := Tryd.sizeOf200
  v227 := Tryd.zeroValue200
  g0 := by kernel_rfl
  g6 := by kernel_rfl }
open Go.RowKit Go.Lib in
/-- strings.Fields, the table by 'Lib.TabIs' (as strings.TrimSpace's contract). 'hg': the table's number, by its name: at a dump 'by kernel_rfl'. (LAID: no walk: one application.) -/
theorem Tryd.strings_Fields (s : ByteArray) (w : World) (hs : s.size < 4294967281) (hascii : ∀ (j : Nat) b, s.data.toList[j]? = some b → b.toNat < 128) (htab : Lib.TabIs Tryd.prog w "strings.asciiSpace" .u8 Lib.asciiSpaceTab) :
    Calls Tryd.prog 113 #[.string s] w fun e w' =>
      e = .returned (.slice (some ⟨w.heap.size, 0, none⟩) (Lib.fields s.data.toList).length (Lib.fields s.data.toList).length) ∧ w' = w.alloc (.cells ((Lib.fields s.data.toList).map fun l => Value.string ⟨l.toArray⟩).toArray 9) := Any.strings_Fields Tryd.lays157 (by kernel_rfl) (by kernel_rfl) s w hs hascii htab
end Go.Proofs

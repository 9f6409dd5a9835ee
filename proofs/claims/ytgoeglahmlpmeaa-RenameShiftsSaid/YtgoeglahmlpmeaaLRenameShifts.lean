/- The law RenameShifts, walked. Conditions: the arguments read; what they are made of is in its bounds. -/
import Derived.Test.YtgoeglahmlpmeaaWi
import Derived.Test.YtgoeglahmlpmeaaF6
import Derived.Test.YtgoeglahmlpmeaaKl
import Derived.Deep.RegionHeld3
import Derived.Deep.DrawnRows
set_option linter.unusedVariables false
set_option linter.unusedSimpArgs false
namespace Go.Proofs.Ytgoeglahmlpmeaa
open Go.RowKit
attribute [local go_sem ↓] Go.wp_at_zero Go.wp_at_succ

theorem held_cell {W W' : World} (hb : Below W.heap.size W W') {b o : Nat} {v : Value} (h : W.cell? ⟨b, o, none⟩ = some v) : W'.cell? ⟨b, o, none⟩ = some v := cell_below hb h (cell_lt h)
/-- What is known: the term and its shifted like in boxes, the canonical form, the variables. -/
structure RS (w : World) (B B' : Nat) (t x : Tm) (u xu : Value) (cl : List Tm) (cv : Value) (X : List Int) (xv : Value) (W : World) : Prop where
  t : Bx w (fun _ => True) B t u W
  x : Bx w (fun _ => True) B' x xu W
  c : Kd.tm.S W (fun _ => True) cl cv
  v : (Kd.int .i64).S W (fun _ => True) X xv
theorem RS.then {w : World} {B B' : Nat} {t x : Tm} {u xu : Value} {cl : List Tm} {cv : Value} {X : List Int} {xv : Value} {W W' : World} (h : RS w B B' t x u xu cl cv X xv W) (hb : Below W.heap.size W W') : RS w B B' t x u xu cl cv X xv W' :=
  ⟨h.t.then hb, h.x.then hb, h.c.below hb, h.v.below hb⟩
theorem Bx.of {w W : World} {ok : Nat → Prop} {t : Tm} {u : Value} (hb : Below w.heap.size w W) (hu : Kd.tm.S W ok t.l u) : Bx w (fun _ => True) W.heap.size t u (W.alloc (.cells #[.int .u8 t.k, .string t.s, .int .i64 t.n, u] 26)) :=
  ⟨hb.alloc hb.size _, heap_new W _, (hu.below ((Below.refl _ W).alloc (Nat.le_refl _) _)).mono (fun _ _ => trivial)⟩

theorem one_args {W : World} {ok : Nat → Prop} {y : Tm} {b o c : Nat} {u : Value} (h : Kd.tm.S W ok [y] (.slice (some ⟨b, o, none⟩) 1 c)) (hc : W.cell? ⟨b, o + 3, none⟩ = some u) : Kd.tm.S W ok y.l u := by
  obtain ⟨_, _, e, _, _, hA⟩ := h
  injection e with e1 e2 e3
  subst e1 e3
  obtain ⟨b', o', u', hbo, _, _, _, _, _, h3, hS⟩ := tm_elem hA (j := 0) (by simp)
  injection hbo with hbo
  injection hbo with f1 f2
  subst f1 f2
  simp only [Nat.zero_mul, Nat.add_zero, List.getElem_cons_zero] at h3 hS
  rw [hc] at h3
  injection h3 with h3
  rw [h3]; exact hS
set_option maxRecDepth 100000 in
set_option maxHeartbeats 16000000 in
theorem RenameShifts_c (t : Tm) (a b : Int) (v : Value) (w : World) (ok : Nat → Prop) (hv : TmV w ok t v) (ht : t.Wf) (ha : -9223372036854775808 ≤ a ∧ a ≤ 9223372036854775807) (hb : -9223372036854775808 ≤ b ∧ b ≤ 9223372036854775807) :
    Calls Try.prog 12 #[v, .int .i64 a, .int .i64 b] w fun e w' => e = .returned (.bool true) ∧ Below w.heap.size w w' := by
  obtain ⟨u, rfl, hS⟩ := hv
  have hB := Bx.of (t := t) (Below.refl w.heap.size w) hS
  obtain ⟨A, c, rfl⟩ := hS.form
  have hwf : WfL [t] := by simp [WfL, ht]
  have HG := Lib.hid (fun (W : World) (B : Nat) (hBl : W.heap[B]? = some (Obj.cells #[.int .u8 t.k, .string t.s, .int .i64 t.n, .slice A t.l.length c] 26 (0, 0))) (hW : Bx w (fun _ => True) w.heap.size t (.slice A t.l.length c) W) => Great_c [t] _ W _ (lit1_at hBl hW.args) hwf)
  obtain ⟨c0, c1, c2, c3, -⟩ := hB.held
  clear hS
  cases hgr : great [t] with
  | true =>
    rw [hgr] at HG
    go_enter Try.func12, Try.ntmps12
    go_wp2_with (first
      | (go_at_call 13; refine (HG.out _ _ (heap_at _ _ _ (by simp)) (hB.alloc _)).mono ?_; clear HG; rintro e w1 ⟨rfl, hb1⟩; have hB1 := (hB.alloc _).then hb1)
      | (go_at_call 39; refine (wakes05_c _).mono ?_; rintro e w2 ⟨rfl, hb2⟩))
    go_ret
    exact ⟨rfl, (hB1.then hb2).below⟩
  | false =>
    rw [hgr] at HG
    have hsz := great_siz hgr
    have hz : t.siz ≤ 1000000 := by have := siz_mem (t := t) (l := [t]) (by simp); omega
    clear hgr
    have HD := Lib.hid (fun W (hW : Bx w (fun _ => True) w.heap.size t (.slice A t.l.length c) W) => refGood_c t _ W _ hW.tmv hz ht)
    cases hgd : t.good with
    | false =>
      rw [hgd] at HD
      go_enter Try.func12, Try.ntmps12
      go_wp2_with (first
        | (go_at_call 13; refine (HG.out _ _ (heap_at _ _ _ (by simp)) (hB.alloc _)).mono ?_; clear HG; rintro e w1 ⟨rfl, hb1⟩; have hB1 := (hB.alloc _).then hb1; obtain ⟨d0, d1, d2, d3, -⟩ := hB1.held)
        | (go_at_call 25; refine (HD.out _ hB1).mono ?_; clear HD; rintro e w2 ⟨rfl, hb2⟩; have hB2 := hB1.then hb2)
        | (go_at_call 39; refine (wakes05_c _).mono ?_; rintro e w3 ⟨rfl, hb3⟩))
      go_ret
      exact ⟨rfl, (hB2.then hb3).below⟩
    | true =>
      rw [hgd] at HD
      by_cases hab : a < 0 ∨ b < 0 ∨ 1099511627776 < a ∨ 1099511627776 < b
      · clear hsz hz hwf
        go_enter Try.func12, Try.ntmps12
        rcases hab with hab | hab | hab | hab
        all_goals
          go_wp2_with (first
            | (go_at_call 13; refine (HG.out _ _ (heap_at _ _ _ (by simp)) (hB.alloc _)).mono ?_; clear HG; rintro e w1 ⟨rfl, hb1⟩; have hB1 := (hB.alloc _).then hb1; obtain ⟨d0, d1, d2, d3, -⟩ := hB1.held)
            | (go_at_call 25; refine (HD.out _ hB1).mono ?_; clear HD; rintro e w2 ⟨rfl, hb2⟩; have hB2 := hB1.then hb2)
            | (go_at_call 39; refine (wakes05_c _).mono ?_; rintro e w3 ⟨rfl, hb3⟩))
          all_goals first
            | (go_ret; exact ⟨rfl, (hB2.then hb3).below⟩)
      · have ha0 : 0 ≤ a := by omega
        have hb0 : 0 ≤ b := by omega
        have ha1 : a ≤ 1099511627776 := by omega
        have hb1 : b ≤ 1099511627776 := by omega
        have hx1 : decide (a < 0) = false := by simpa using ha0
        have hx2 : decide (b < 0) = false := by simpa using hb0
        have hx3 : decide (1099511627776 < a) = false := by simpa using ha1
        have hx4 : decide (1099511627776 < b) = false := by simpa using hb1
        clear hab ha hb
        have HV := Lib.hid (fun (W : World) (B : Nat) (hBl : W.heap[B]? = some (Obj.cells #[.int .u8 t.k, .string t.s, .int .i64 t.n, .slice A t.l.length c] 26 (0, 0))) (hW : Bx w (fun _ => True) w.heap.size t (.slice A t.l.length c) W) => Vars_s [t] _ W _ (lit1_at hBl hW.args) (by simp [sizL]; omega))
        go_enter Try.func12, Try.ntmps12
        go_wp2_with (first
          | (go_at_call 13; refine (HG.out _ _ (heap_at _ _ _ (by simp)) (hB.alloc _)).mono ?_; clear HG; rintro e w1 ⟨rfl, hb1⟩; have hB1 := (hB.alloc _).then hb1; obtain ⟨d0, d1, d2, d3, -⟩ := hB1.held)
          | (go_at_call 25; refine (HD.out _ hB1).mono ?_; clear HD; rintro e w2 ⟨rfl, hb2⟩; have hB2 := hB1.then hb2; obtain ⟨e0, e1, e2, e3, -⟩ := hB2.held)
          | (go_at_call 20; refine (HV.out _ _ (heap_at _ _ _ rfl) (hB2.alloc _)).mono ?_; clear HV; rintro e w3 ⟨⟨vA, vc, rfl, hrv⟩, hb3⟩; have hB3 := (hB2.alloc _).then hb3; obtain ⟨f0, f1, f2, f3, -⟩ := hB3.held))
        have hX0 : ∀ n ∈ dd (occL [t]), 0 ≤ n := fun n hn => good_occ hgd n (by rw [← occL_one]; exact dd_mem.1 hn)
        have hXl : (dd (occL [t])).length ≤ 1000000 := by have h1 := dd_length (occL [t]); have h2 := occL_length [t]; simp [sizL] at h2; omega
        obtain ⟨X, hXe⟩ : ∃ X, X = dd (occL [t]) := ⟨_, rfl⟩
        rw [← hXe] at hrv hX0 hXl ⊢
        have hvc := hrv.cap
        have HGD := Lib.hid hgd
        have HT := Lib.hid ht
        have HXE := Lib.hid hXe
        clear hgd ht hXe hB hB1 hB2 hb2 hb3 c0 c1 c2 c3 d0 d1 d2 d3 e0 e1 e2 e3 hwf
        go_loopw [8] (fun i wr => ∃ j : Nat, j ≤ X.length ∧ i = .int .i64 j ∧ Hid (∀ x ∈ X.take j, x ≤ 1099511627776) ∧ wr = w3) (fun i _ => X.length - (intOf i).toNat)
        case atStart => exact ⟨0, Nat.zero_le _, rfl, Lib.hid (by simp), rfl⟩
        case round =>
          obtain ⟨j, hj, rfl, hall, rfl⟩ := hrel
          by_cases hlt : j < X.length
          · obtain ⟨_, _, ev, _, _, hAv⟩ := hrv
            injection ev with e1 e2 e3
            subst e1 e3
            obtain ⟨bv, ov, rfl, -, hlov, g0⟩ := int_elem hAv hlt
            by_cases hbig : 1099511627776 < X[j]
            · clear hAv hX0
              go_wp2_with (go_at_call 39; refine (wakes05_c _).mono ?_; rintro e w4 ⟨rfl, hb4⟩)
              all_goals go_ret
              all_goals exact ⟨rfl, (hB3.then hb4).below⟩
            · have HS : Hid (∀ x ∈ X.take (j + 1), x ≤ 1099511627776) := Lib.hid (fun x hx => by
                rw [take_succ_at X hlt, List.mem_append, List.mem_singleton] at hx
                rcases hx with hx | rfl
                · exact hall.out x hx
                · omega)
              have hbig' : decide (1099511627776 < X[j]) = false := by simpa using hbig
              clear hAv hX0 hbig
              go_wp2
              go_roundw
              case rel => exact ⟨j + 1, by omega, by go_num, HS, trivial⟩
              case measure => simp [intOf]; omega
          · have hle : ∀ x ∈ X, x ≤ 1099511627776 := fun x hx => hall.out x (by rw [List.take_of_length_le (by omega)]; exact hx)
            have hocc : ∀ n ∈ t.occ, 0 ≤ n ∧ n ≤ 1099511627776 := fun n hn => by
              have hm : n ∈ X := by rw [HXE.out, dd_mem, occL_one]; exact hn
              exact ⟨hX0 n hm, hle n hm⟩
            obtain ⟨x, hx⟩ : ∃ x, x = t.ren fun n => wrap64 (n + a) := ⟨_, rfl⟩
            obtain ⟨y, hy⟩ : ∃ y, y = t.ren (plc (dd (occL [t]))) := ⟨_, rfl⟩
            have HX1 := Lib.hid (show (x.ren fun n => wrap64 (n + b)).eqb (t.ren fun n => wrap64 (n + (a + b))) = true by rw [hx, shift_shift]; exact (Tm.eqb_iff _ _).2 rfl)
            have HX2 := Lib.hid (show most (dd (occL [x])) + 1 = if X.length = 0 then 0 else most X + 1 + a by rw [hx, shiftCount hocc ⟨ha0, ha1⟩, HXE.out])
            have HX3 := Lib.hid (show ∀ n ∈ occL [x], 0 ≤ n ∧ n < 4611686018427387904 by
              rw [hx, shift_occ hocc ⟨ha0, ha1⟩]
              intro n hn
              obtain ⟨q, hq, rfl⟩ := List.mem_map.1 hn
              have := hocc q hq; omega)
            have HXZ := Lib.hid (show x.siz ≤ 1000000 by rw [hx, ren_siz]; exact hz)
            have HXZ' := Lib.hid (show sizL [x] ≤ 1000000 by rw [hx]; simp [sizL, ren_siz]; omega)
            have HT3 := Lib.hid (show ∀ n ∈ occL [t], 0 ≤ n ∧ n < 4611686018427387904 by
              intro n hn; rw [occL_one] at hn; have := hocc n hn; omega)
            have HM := Lib.hid (show ∀ n ∈ X, 0 ≤ n ∧ n ≤ 1099511627776 from fun n hn => ⟨hX0 n hn, hle n hn⟩)
            have HMX := Lib.hid (show X ≠ [] → 0 ≤ most X ∧ most X ≤ 1099511627776 from fun h => by have := most_mem h hX0; exact ⟨hX0 _ this, hle _ this⟩)
            have HYC := Lib.hid (show canL [t] = [y] by rw [hy]; simp [canL, renL])
            have HY1 := Lib.hid (show ∀ n ∈ occL [y], 0 ≤ n ∧ n < 4611686018427387904 by
              intro n hn; rw [hy] at hn; have := can_occ t n hn; rw [← HXE.out] at this; omega)
            have HY2 := Lib.hid (show most (dd (occL [y])) + 1 = (X.length : Int) by rw [hy, HXE.out]; exact canCount t)
            have HYZ := Lib.hid (show sizL [y] ≤ 1000000 by rw [hy]; simp [sizL, ren_siz]; omega)
            have HSa := Lib.hid (fun W (hW : Bx w (fun _ => True) w.heap.size t (.slice A t.l.length c) W) => Shift_c t a _ W _ hW.tmv hz)
            have HCa := Lib.hid (fun (W : World) (B : Nat) (hBl : W.heap[B]? = some (Obj.cells #[.int .u8 t.k, .string t.s, .int .i64 t.n, .slice A t.l.length c] 26 (0, 0))) (hW : Bx w (fun _ => True) w.heap.size t (.slice A t.l.length c) W) => Canon_c [t] _ W _ (lit1_at hBl hW.args) (by simp [sizL]; omega) (by simp [WfL, HT.out]))
            rw [← hx] at HSa
            rw [HYC.out] at HCa
            obtain ⟨xk, xs, xn, xl⟩ := x
            obtain ⟨yk, ys, yn, yl⟩ := y
            clear hx hy hle hocc hall hX0
            go_wp2_with (first
              | (go_at_call 44; refine (HSa.out _ hB3).mono ?_; clear HSa; rintro e w4 ⟨⟨r, rfl, hr⟩, hb4⟩; obtain ⟨xu, rfl, hxS⟩ := hr; obtain ⟨xA, xc, rfl⟩ := hxS.form; have hB4 := hB3.then hb4; have hX4 := (Bx.of (w := w) (t := ⟨xk, xs, xn, xl⟩) hB4.below hxS); have hB5 := hB4.alloc (.cells #[.int .u8 xk, .string xs, .int .i64 xn, .slice xA xl.length xc] 26); obtain ⟨g0, g1, g2, g3, -⟩ := hB5.held)
              | (go_at_call 41; refine (HCa.out _ _ (heap_at _ _ _ (by simp)) (hB5.alloc _)).mono ?_; clear HCa; rintro e w5 ⟨⟨r, rfl, hr⟩, hb5⟩; obtain ⟨cA, cc, rfl⟩ := Kd.Own.form hr; have hR : RS w w.heap.size w4.heap.size t ⟨xk, xs, xn, xl⟩ (.slice A t.l.length c) (.slice xA xl.length xc) [⟨yk, ys, yn, yl⟩] (.slice cA 1 cc) X (.slice vA X.length vc) w5 := ⟨(hB5.alloc _).then hb5, (hX4.alloc _).then hb5, (Kd.Own.S hr).mono (fun _ _ => trivial), ((((hrv.below hb4).below ((Below.refl _ _).alloc (Nat.le_refl _) _)).below ((Below.refl _ _).alloc (Nat.le_refl _) _)).below hb5)⟩))
            clear hB3 hB4 hB5 hX4 hb4 hb5 hr hxS hrv f0 f1 f2 f3 g0 g1 g2 g3
            obtain ⟨i0, i1, i2, i3, -⟩ := hR.t.held
            obtain ⟨j0, j1, j2, j3, -⟩ := hR.x.held
            obtain ⟨_, _, ec, hcc1, hcc2, hcA⟩ := hR.c
            injection ec with e1 e2 e3
            subst e1 e3
            clear e2
            obtain ⟨cb, co, yu, rfl, -, hloc, k0, k1, k2, k3, hyS⟩ := tm_elem hcA (j := 0) (by simp)
            simp only [Nat.zero_mul, Nat.add_zero, List.getElem_cons_zero] at k0 k1 k2 k3 hyS
            obtain ⟨yA, yc, rfl⟩ := hyS.form
            have hwab : IntKind.i64.wrap (a + b) = a + b := by rw [IntKind.wrap_i64]; omega
            clear hcA hyS hcc1 hcc2 hloc hXl hsz HGD hj hlt
            have hRb := Lib.hid hR
            clear hR
            refine wp_region_held_drew (S := (fun W => W.cell? ⟨w.heap.size, 0, none⟩ = some (.int .u8 t.k) ∧ W.cell? ⟨w.heap.size, 1, none⟩ = some (.string t.s) ∧ W.cell? ⟨w.heap.size, 2, none⟩ = some (.int .i64 t.n) ∧ W.cell? ⟨w.heap.size, 3, none⟩ = some (.slice A t.l.length c) ∧ W.cell? ⟨w4.heap.size, 0, none⟩ = some (.int .u8 xk) ∧ W.cell? ⟨w4.heap.size, 1, none⟩ = some (.string xs) ∧ W.cell? ⟨w4.heap.size, 2, none⟩ = some (.int .i64 xn) ∧ W.cell? ⟨w4.heap.size, 3, none⟩ = some (.slice xA xl.length xc) ∧ W.cell? ⟨cb, co, none⟩ = some (.int .u8 yk) ∧ W.cell? ⟨cb, co + 1, none⟩ = some (.string ys) ∧ W.cell? ⟨cb, co + 2, none⟩ = some (.int .i64 yn) ∧ W.cell? ⟨cb, co + 3, none⟩ = some (.slice yA yl.length yc) ∧ RS w w.heap.size w4.heap.size t ⟨xk, xs, xn, xl⟩ (.slice A t.l.length c) (.slice xA xl.length xc) [⟨yk, ys, yn, yl⟩] (.slice (some ⟨cb, co, none⟩) 1 cc) X (.slice vA X.length vc) W)) (by kernel_rfl) ?_ (fun hHeld => ?_)
            · exact ⟨i0, i1, i2, i3, j0, j1, j2, j3, k0, k1, k2, k3, hRb.out.then (Below.refl _ _).drew⟩
            change wpAnyH _ .any _ _ _ 25 (Array.replicate 25 false) _ _
            refine wpAnyH_take (i := 0) (oi := ⟨some 58, _, _, _, _, _⟩) (v := ?pv0) rfl (by kernel_rfl) (by kernel_rfl) (by kernel_rfl) (fun _ _ _ h => h) (Or.inl ⟨by rfl, fun w hSw => ?py0⟩) (by assumption) ?_
            case py0 => (dsimp only at hSw; go_simp; try (with_reducible rfl))
            (try simp only [Act.put, List.setIfInBounds_toArray, List.set_cons_zero, List.set_cons_succ])
            refine wpAnyH_take (i := 1) (oi := ⟨some 59, _, _, _, _, _⟩) (v := ?pv1) rfl (by kernel_rfl) (by kernel_rfl) (by kernel_rfl) (fun _ _ _ h => h) (Or.inl ⟨by rfl, fun w hSw => ?py1⟩) (by assumption) ?_
            case py1 => (dsimp only at hSw; go_simp; try (with_reducible rfl))
            (try simp only [Act.put, List.setIfInBounds_toArray, List.set_cons_zero, List.set_cons_succ])
            refine wpAnyH_take (i := 2) (oi := ⟨some 60, _, _, _, _, _⟩) (v := ?pv2) rfl (by kernel_rfl) (by kernel_rfl) (by kernel_rfl) (fun _ _ _ h => h) (Or.inl ⟨by rfl, fun w hSw => ?py2⟩) (by assumption) ?_
            case py2 => (dsimp only at hSw; go_simp; try (with_reducible rfl))
            (try simp only [Act.put, List.setIfInBounds_toArray, List.set_cons_zero, List.set_cons_succ])
            refine wpAnyH_take (i := 3) (oi := ⟨some 61, _, _, _, _, _⟩) (v := ?pv3) rfl (by kernel_rfl) (by kernel_rfl) (by kernel_rfl) (fun _ _ _ h => h) (Or.inl ⟨by rfl, fun w hSw => ?py3⟩) (by assumption) ?_
            case py3 => (dsimp only at hSw; go_simp; try (with_reducible rfl))
            (try simp only [Act.put, List.setIfInBounds_toArray, List.set_cons_zero, List.set_cons_succ])
            refine wpAnyH_take (i := 4) (oi := ⟨some 62, _, _, _, _, _⟩) (v := ?pv4) rfl (by kernel_rfl) (by kernel_rfl) (by kernel_rfl) (fun _ _ _ h => h) (Or.inl ⟨by rfl, fun w hSw => ?py4⟩) (by assumption) ?_
            case py4 => (dsimp only at hSw; go_simp; try (with_reducible rfl))
            (try simp only [Act.put, List.setIfInBounds_toArray, List.set_cons_zero, List.set_cons_succ])
            refine wpAnyH_take (i := 5) (oi := ⟨some 63, _, _, _, _, _⟩) (v := ?pv5) rfl (by kernel_rfl) (by kernel_rfl) (by kernel_rfl) (fun _ _ _ h => h) (Or.inl ⟨by rfl, fun w hSw => ?py5⟩) (by assumption) ?_
            case py5 => (dsimp only at hSw; go_simp; try (with_reducible rfl))
            (try simp only [Act.put, List.setIfInBounds_toArray, List.set_cons_zero, List.set_cons_succ])
            refine wpAnyH_take (i := 7) (oi := ⟨some 65, _, _, _, _, _⟩) (v := ?pv7) rfl (by kernel_rfl) (by kernel_rfl) (by kernel_rfl) (fun _ _ _ h => h) (Or.inl ⟨by rfl, fun w hSw => ?py7⟩) (by assumption) ?_
            case py7 => (dsimp only at hSw; go_simp; try (with_reducible rfl))
            (try simp only [Act.put, List.setIfInBounds_toArray, List.set_cons_zero, List.set_cons_succ])
            refine wpAnyH_take (i := 8) (oi := ⟨some 66, _, _, _, _, _⟩) (v := ?pv8) rfl (by kernel_rfl) (by kernel_rfl) (by kernel_rfl) (fun _ _ _ h => h) (Or.inl ⟨by rfl, fun w hSw => ?py8⟩) (by assumption) ?_
            case py8 => (dsimp only at hSw; go_simp; try (with_reducible rfl))
            (try simp only [Act.put, List.setIfInBounds_toArray, List.set_cons_zero, List.set_cons_succ])
            refine wpAnyH_take (i := 9) (oi := ⟨some 67, _, _, _, _, _⟩) (v := ?pv9) rfl (by kernel_rfl) (by kernel_rfl) (by kernel_rfl) (fun _ _ _ h => h) (Or.inl ⟨by rfl, fun w hSw => ?py9⟩) (by assumption) ?_
            case py9 => (dsimp only at hSw; go_simp; try (with_reducible rfl))
            (try simp only [Act.put, List.setIfInBounds_toArray, List.set_cons_zero, List.set_cons_succ])
            refine wpAnyH_take (i := 10) (oi := ⟨some 68, _, _, _, _, _⟩) (v := ?pv10) rfl (by kernel_rfl) (by kernel_rfl) (by kernel_rfl) (fun _ _ _ h => h) (Or.inl ⟨by rfl, fun w hSw => ?py10⟩) (by assumption) ?_
            case py10 => (dsimp only at hSw; go_simp; try (with_reducible rfl))
            (try simp only [Act.put, List.setIfInBounds_toArray, List.set_cons_zero, List.set_cons_succ])
            refine wpAnyH_ready (rs := [6]) (by kernel_rfl) (by simp) ?_
            refine AllReadyH.cons (o := ⟨some 64, _, _, _, _, _⟩) rfl (fun K hK => ?_) AllReadyH.nil
            go_simp
            refine (Shift_c ⟨xk, xs, xn, xl⟩ b _ _ _ hHeld.2.2.2.2.2.2.2.2.2.2.2.2.x.tmv HXZ.out).mono ?_
            rintro e w6 ⟨⟨r, rfl, hr⟩, hb6⟩
            go_wp2_with fail
            refine hK.out _ _ (by obtain ⟨q0, q1, q2, q3, q4, q5, q6, q7, q8, q9, q10, q11, qR⟩ := hHeld; exact ⟨held_cell hb6 q0, held_cell hb6 q1, held_cell hb6 q2, held_cell hb6 q3, held_cell hb6 q4, held_cell hb6 q5, held_cell hb6 q6, held_cell hb6 q7, held_cell hb6 q8, held_cell hb6 q9, held_cell hb6 q10, held_cell hb6 q11, qR.then hb6⟩) (fun hHeld => ?_)
            clear hK K
            (try simp only [Act.put, List.setIfInBounds_toArray, List.set_cons_zero, List.set_cons_succ])
            refine wpAnyH_ready (rs := [11]) (by kernel_rfl) (by simp) ?_
            refine AllReadyH.cons (o := ⟨some 69, _, _, _, _, _⟩) rfl (fun K hK => ?_) AllReadyH.nil
            go_simp
            refine (Shift_c t (a + b) _ _ _ hHeld.2.2.2.2.2.2.2.2.2.2.2.2.t.tmv hz).mono ?_
            rintro e w7 ⟨⟨r', rfl, hr'⟩, hb7⟩
            go_wp2_with fail
            refine hK.out _ _ (by obtain ⟨q0, q1, q2, q3, q4, q5, q6, q7, q8, q9, q10, q11, qR⟩ := hHeld; exact ⟨held_cell hb7 q0, held_cell hb7 q1, held_cell hb7 q2, held_cell hb7 q3, held_cell hb7 q4, held_cell hb7 q5, held_cell hb7 q6, held_cell hb7 q7, held_cell hb7 q8, held_cell hb7 q9, held_cell hb7 q10, held_cell hb7 q11, qR.then hb7⟩) (fun hHeld => ?_)
            clear hK K
            (try simp only [Act.put, List.setIfInBounds_toArray, List.set_cons_zero, List.set_cons_succ])
            refine wpAnyH_ready (rs := [12]) (by kernel_rfl) (by simp) ?_
            refine AllReadyH.cons (o := ⟨some 70, _, _, _, _, _⟩) rfl (fun K hK => ?_) AllReadyH.nil
            go_simp
            have hq := Same_c _ _ _ _ _ _ _ (hr.below hb7) hr'
            rw [HX1.out] at hq
            refine hq.mono ?_
            clear hq
            rintro e w8 ⟨rfl, hb8⟩
            go_wp2_with fail
            refine hK.out _ _ (by obtain ⟨q0, q1, q2, q3, q4, q5, q6, q7, q8, q9, q10, q11, qR⟩ := hHeld; exact ⟨held_cell hb8 q0, held_cell hb8 q1, held_cell hb8 q2, held_cell hb8 q3, held_cell hb8 q4, held_cell hb8 q5, held_cell hb8 q6, held_cell hb8 q7, held_cell hb8 q8, held_cell hb8 q9, held_cell hb8 q10, held_cell hb8 q11, qR.then hb8⟩) (fun hHeld => ?_)
            clear hK K
            (try simp only [Act.put, List.setIfInBounds_toArray, List.set_cons_zero, List.set_cons_succ])
            refine wpAnyH_take (i := 13) (oi := ⟨some 71, _, _, _, _, _⟩) (v := ?pv13) rfl (by kernel_rfl) (by kernel_rfl) (by kernel_rfl) (fun _ _ _ h => h) (Or.inl ⟨by rfl, fun w hSw => ?py13⟩) (by assumption) ?_
            case py13 => (dsimp only at hSw; go_simp; try (with_reducible rfl))
            (try simp only [Act.put, List.setIfInBounds_toArray, List.set_cons_zero, List.set_cons_succ])
            refine wpAnyH_take (i := 14) (oi := ⟨some 72, _, _, _, _, _⟩) (v := ?pv14) rfl (by kernel_rfl) (by kernel_rfl) (by kernel_rfl) (fun _ _ _ h => h) (Or.inl ⟨by rfl, fun w hSw => ?py14⟩) (by assumption) ?_
            case py14 => (dsimp only at hSw; go_simp; try (with_reducible rfl))
            (try simp only [Act.put, List.setIfInBounds_toArray, List.set_cons_zero, List.set_cons_succ])
            refine wpAnyH_take (i := 15) (oi := ⟨some 73, _, _, _, _, _⟩) (v := ?pv15) rfl (by kernel_rfl) (by kernel_rfl) (by kernel_rfl) (fun _ _ _ h => h) (Or.inl ⟨by rfl, fun w hSw => ?py15⟩) (by assumption) ?_
            case py15 => (dsimp only at hSw; go_simp; try (with_reducible rfl))
            (try simp only [Act.put, List.setIfInBounds_toArray, List.set_cons_zero, List.set_cons_succ])
            refine wpAnyH_take (i := 16) (oi := ⟨some 74, _, _, _, _, _⟩) (v := ?pv16) rfl (by kernel_rfl) (by kernel_rfl) (by kernel_rfl) (fun _ _ _ h => h) (Or.inl ⟨by rfl, fun w hSw => ?py16⟩) (by assumption) ?_
            case py16 => (dsimp only at hSw; go_simp; try (with_reducible rfl))
            (try simp only [Act.put, List.setIfInBounds_toArray, List.set_cons_zero, List.set_cons_succ])
            refine wpAnyH_take (i := 17) (oi := ⟨some 75, _, _, _, _, _⟩) (v := ?pv17) rfl (by kernel_rfl) (by kernel_rfl) (by kernel_rfl) (fun _ _ _ h => h) (Or.inl ⟨by rfl, fun w hSw => ?py17⟩) (by assumption) ?_
            case py17 => (dsimp only at hSw; go_simp; try (with_reducible rfl))
            (try simp only [Act.put, List.setIfInBounds_toArray, List.set_cons_zero, List.set_cons_succ])
            refine wpAnyH_take (i := 18) (oi := ⟨some 76, _, _, _, _, _⟩) (v := ?pv18) rfl (by kernel_rfl) (by kernel_rfl) (by kernel_rfl) (fun _ _ _ h => h) (Or.inl ⟨by rfl, fun w hSw => ?py18⟩) (by assumption) ?_
            case py18 => (dsimp only at hSw; go_simp; try (with_reducible rfl))
            (try simp only [Act.put, List.setIfInBounds_toArray, List.set_cons_zero, List.set_cons_succ])
            refine wpAnyH_take (i := 21) (oi := ⟨some 79, _, _, _, _, _⟩) (v := ?pv21) rfl (by kernel_rfl) (by kernel_rfl) (by kernel_rfl) (fun _ _ _ h => h) (Or.inl ⟨by rfl, fun w hSw => ?py21⟩) (by assumption) ?_
            case py21 => (dsimp only at hSw; go_simp; try (with_reducible rfl))
            (try simp only [Act.put, List.setIfInBounds_toArray, List.set_cons_zero, List.set_cons_succ])
            refine wpAnyH_take (i := 22) (oi := ⟨some 80, _, _, _, _, _⟩) (v := ?pv22) rfl (by kernel_rfl) (by kernel_rfl) (by kernel_rfl) (fun _ _ _ h => h) (Or.inl ⟨by rfl, fun w hSw => ?py22⟩) (by assumption) ?_
            case py22 => (dsimp only at hSw; go_simp; try (with_reducible rfl))
            (try simp only [Act.put, List.setIfInBounds_toArray, List.set_cons_zero, List.set_cons_succ])
            refine wpAnyH_ready (rs := [19]) (by kernel_rfl) (by simp) ?_
            refine AllReadyH.cons (o := ⟨some 77, _, _, _, _, _⟩) rfl (fun K hK => ?_) AllReadyH.nil
            go_simp
            refine hK.out _ _ (by obtain ⟨q0, q1, q2, q3, q4, q5, q6, q7, q8, q9, q10, q11, qR⟩ := hHeld; exact ⟨held_cell ((Below.refl _ _).alloc (Nat.le_refl _) _) q0, held_cell ((Below.refl _ _).alloc (Nat.le_refl _) _) q1, held_cell ((Below.refl _ _).alloc (Nat.le_refl _) _) q2, held_cell ((Below.refl _ _).alloc (Nat.le_refl _) _) q3, held_cell ((Below.refl _ _).alloc (Nat.le_refl _) _) q4, held_cell ((Below.refl _ _).alloc (Nat.le_refl _) _) q5, held_cell ((Below.refl _ _).alloc (Nat.le_refl _) _) q6, held_cell ((Below.refl _ _).alloc (Nat.le_refl _) _) q7, held_cell ((Below.refl _ _).alloc (Nat.le_refl _) _) q8, held_cell ((Below.refl _ _).alloc (Nat.le_refl _) _) q9, held_cell ((Below.refl _ _).alloc (Nat.le_refl _) _) q10, held_cell ((Below.refl _ _).alloc (Nat.le_refl _) _) q11, qR.then ((Below.refl _ _).alloc (Nat.le_refl _) _)⟩) (fun hHeld => ?_)
            clear hK K
            (try simp only [Act.put, List.setIfInBounds_toArray, List.set_cons_zero, List.set_cons_succ])
            refine wpAnyH_ready (rs := [20]) (by kernel_rfl) (by simp) ?_
            refine AllReadyH.cons (o := ⟨some 78, _, _, _, _, _⟩) rfl (fun K hK => ?_) AllReadyH.nil
            go_simp
            have hq := Count_c [⟨yk, ys, yn, yl⟩] _ _ _ (lit1_at (heap_new _ _) (one_args hHeld.2.2.2.2.2.2.2.2.2.2.2.2.c hHeld.2.2.2.2.2.2.2.2.2.2.2.1)) HYZ.out HY1.out
            rw [HY2.out] at hq
            refine hq.mono ?_
            clear hq
            rintro e w9 ⟨rfl, hb9⟩
            go_wp2_with fail
            refine hK.out _ _ (by obtain ⟨q0, q1, q2, q3, q4, q5, q6, q7, q8, q9, q10, q11, qR⟩ := hHeld; exact ⟨held_cell hb9 q0, held_cell hb9 q1, held_cell hb9 q2, held_cell hb9 q3, held_cell hb9 q4, held_cell hb9 q5, held_cell hb9 q6, held_cell hb9 q7, held_cell hb9 q8, held_cell hb9 q9, held_cell hb9 q10, held_cell hb9 q11, qR.then hb9⟩) (fun hHeld => ?_)
            clear hK K
            (try simp only [Act.put, List.setIfInBounds_toArray, List.set_cons_zero, List.set_cons_succ])
            refine wpAnyH_take (i := 23) (oi := ⟨some 81, _, _, _, _, _⟩) (v := ?pv23) rfl (by kernel_rfl) (by kernel_rfl) (by kernel_rfl) (fun _ _ _ h => h) (Or.inl ⟨by rfl, fun w hSw => ?py23⟩) (by assumption) ?_
            case py23 => (dsimp only at hSw; go_simp; try (with_reducible rfl))
            (try simp only [Act.put, List.setIfInBounds_toArray, List.set_cons_zero, List.set_cons_succ])
            refine wpAnyH_take (i := 24) (oi := ⟨some 82, _, _, _, _, _⟩) (v := ?pv24) rfl (by kernel_rfl) (by kernel_rfl) (by kernel_rfl) (fun _ _ _ h => h) (Or.inl ⟨by rfl, fun w hSw => ?py24⟩) (by assumption) ?_
            case py24 => (dsimp only at hSw; go_simp; try (with_reducible rfl))
            (try simp only [Act.put, List.setIfInBounds_toArray, List.set_cons_zero, List.set_cons_succ])
            refine wpAnyH_done (by kernel_rfl) ?_ _
            have hR9 := hHeld.2.2.2.2.2.2.2.2.2.2.2.2
            have HCX := Lib.hid (fun (W : World) (B : Nat) (hBl : W.heap[B]? = some (Obj.cells #[.int .u8 xk, .string xs, .int .i64 xn, .slice xA xl.length xc] 26 (0, 0))) (hW : RS w w.heap.size w4.heap.size t ⟨xk, xs, xn, xl⟩ (.slice A t.l.length c) (.slice xA xl.length xc) [⟨yk, ys, yn, yl⟩] (.slice (some ⟨cb, co, none⟩) 1 cc) X (.slice vA X.length vc) W) => Count_c [⟨xk, xs, xn, xl⟩] _ W _ (lit1_at (t := ⟨xk, xs, xn, xl⟩) hBl hW.x.args) HXZ'.out HX3.out)
            have HCT := Lib.hid (fun (W : World) (B : Nat) (hBl : W.heap[B]? = some (Obj.cells #[.int .u8 t.k, .string t.s, .int .i64 t.n, .slice A t.l.length c] 26 (0, 0))) (hW : RS w w.heap.size w4.heap.size t ⟨xk, xs, xn, xl⟩ (.slice A t.l.length c) (.slice xA xl.length xc) [⟨yk, ys, yn, yl⟩] (.slice (some ⟨cb, co, none⟩) 1 cc) X (.slice vA X.length vc) W) => Count_c [t] _ W _ (lit1_at hBl hW.t.args) (by simp [sizL]; omega) HT3.out)
            rw [HX2.out] at HCX
            rw [← HXE.out] at HCT
            clear i0 i1 i2 i3 j0 j1 j2 j3 k0 k1 k2 k3 hHeld hRb HX1 HX2 HX3 HY1 HY2 HYZ HXZ HXZ' HYC hwab hb6 hb7 hb8 hb9 hr hr' HM
            obtain ⟨i0, i1, i2, i3, -⟩ := hR9.t.held
            obtain ⟨j0, j1, j2, j3, -⟩ := hR9.x.held
            by_cases hx0 : X.length = 0
            · rw [if_pos hx0] at HCX
              have hl0 : (X.length : Int) = 0 := by omega
              clear HCT HMX
              go_wp2_with (first
                | (go_at_call 43; refine (HCX.out _ _ (heap_at _ _ _ rfl) (hR9.then ((Below.refl _ _).alloc (Nat.le_refl _) _))).mono ?_; clear HCX; rintro e u1 ⟨rfl, hu1⟩; have hR10 := (hR9.then ((Below.refl _ _).alloc (Nat.le_refl _) _)).then hu1)
                | (go_at_call 39; refine (wakes05_c _).mono ?_; rintro e u2 ⟨rfl, hu2⟩))
              go_ret
              exact ⟨rfl, (hR10.then hu2).t.below⟩
            · rw [if_neg hx0] at HCX
              have hm := HMX.out (fun e => hx0 (by rw [e]; rfl))
              have hl0 : (0 : Int) < X.length := by omega
              generalize most X = m at HCX HCT hm
              have hm0 := hm.1
              have hm1 := hm.2
              have hwm : IntKind.i64.wrap (m + 1 + a) = m + 1 + a := by rw [IntKind.wrap_i64]; omega
              clear HMX hm
              go_wp2_with (first
                | (go_at_call 43; refine (HCT.out _ _ (heap_at _ _ _ rfl) (hR9.then ((Below.refl _ _).alloc (Nat.le_refl _) _))).mono ?_; clear HCT; rintro e u1 ⟨rfl, hu1⟩; have hR10 := (hR9.then ((Below.refl _ _).alloc (Nat.le_refl _) _)).then hu1; obtain ⟨l0, l1, l2, l3, -⟩ := hR10.x.held)
                | (go_at_call 43; refine (HCX.out _ _ (heap_at _ _ _ rfl) (hR10.then ((Below.refl _ _).alloc (Nat.le_refl _) _))).mono ?_; clear HCX; rintro e u2 ⟨rfl, hu2⟩; have hR11 := (hR10.then ((Below.refl _ _).alloc (Nat.le_refl _) _)).then hu2)
                | (go_at_call 39; refine (wakes05_c _).mono ?_; rintro e u3 ⟨rfl, hu3⟩))
              go_ret
              exact ⟨rfl, (hR11.then hu3).t.below⟩
end Go.Proofs.Ytgoeglahmlpmeaa

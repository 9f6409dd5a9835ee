/- The law SubstTells, walked. Conditions: the arguments read; what they are made of is in its bounds. -/
import Derived.Test.YtdidmhcblepcbaaSf
set_option linter.unusedVariables false
set_option maxRecDepth 20000
set_option linter.unusedSimpArgs false
namespace Go.Proofs.Ytdidmhcblepcbaa
open Go.RowKit

/-- The term in its box, the bindings that came in. -/
structure T0 (w : World) (t : Tm) (u : Value) (l : Bs) (vl : Value) (W : World) : Prop where
  b0 : Below w.heap.size w W
  t : Bt W w.heap.size t u
  l : Kd.bd.S W (fun _ => True) l vl
section
variable {w W W' : World} {t : Tm} {u : Value} {l : Bs} {vl : Value}
theorem T0.then (h : T0 w t u l vl W) (hb : Below W.heap.size W W') : T0 w t u l vl W' :=
  ⟨below_then h.b0 h.b0.size hb, h.t.below hb, bds_b h.l hb⟩
theorem T0.alloc (h : T0 w t u l vl W) (O : Obj) : T0 w t u l vl (W.alloc O) := h.then ((Below.refl _ W).alloc (Nat.le_refl _) O)
theorem T0.drew (h : T0 w t u l vl W) : T0 w t u l vl W.drew := h.then (Below.refl _ W).drew
theorem T0.cells (h : T0 w t u l vl W) : W.cell? ⟨w.heap.size, 0, none⟩ = some (.int .u8 t.k) ∧ W.cell? ⟨w.heap.size, 1, none⟩ = some (.string t.s) ∧ W.cell? ⟨w.heap.size, 2, none⟩ = some (.int .i64 t.n) ∧ W.cell? ⟨w.heap.size, 3, none⟩ = some u :=
  ⟨h.t.cells.1, h.t.cells.2.1, h.t.cells.2.2.1, h.t.cells.2.2.2⟩
end
/-- The substitution, its bindings; the applied term. -/
structure T1 (w : World) (t : Tm) (u : Value) (had : Bs) (p b : Nat) (r : Value) (W : World) : Prop where
  b0 : Below w.heap.size w W
  t : Bt W w.heap.size t u
  s : Sb w W had p b
  r : Kd.bd.S W (fun _ => True) had r
section
variable {w W W' : World} {t : Tm} {u : Value} {had : Bs} {p b : Nat} {r : Value}
theorem T1.then (h : T1 w t u had p b r W) (hb : Below W.heap.size W W') : T1 w t u had p b r W' :=
  ⟨below_then h.b0 h.b0.size hb, h.t.below hb, h.s.below hb, bds_b h.r hb⟩
theorem T1.alloc (h : T1 w t u had p b r W) (O : Obj) : T1 w t u had p b r (W.alloc O) := h.then ((Below.refl _ W).alloc (Nat.le_refl _) O)
theorem T1.drew (h : T1 w t u had p b r W) : T1 w t u had p b r W.drew := h.then (Below.refl _ W).drew
theorem T1.cells (h : T1 w t u had p b r W) : W.cell? ⟨w.heap.size, 0, none⟩ = some (.int .u8 t.k) ∧ W.cell? ⟨w.heap.size, 1, none⟩ = some (.string t.s) ∧ W.cell? ⟨w.heap.size, 2, none⟩ = some (.int .i64 t.n) ∧ W.cell? ⟨w.heap.size, 3, none⟩ = some u :=
  ⟨h.t.cells.1, h.t.cells.2.1, h.t.cells.2.2.1, h.t.cells.2.2.2⟩
end
structure T2 (w : World) (t : Tm) (u : Value) (had : Bs) (p b : Nat) (r : Value) (B : Nat) (x : Tm) (ux : Value) (W : World) : Prop where
  b0 : Below w.heap.size w W
  t : Bt W w.heap.size t u
  s : Sb w W had p b
  r : Kd.bd.S W (fun _ => True) had r
  x : Bt W B x ux
section
variable {w W W' : World} {t : Tm} {u : Value} {had : Bs} {p b : Nat} {r : Value} {B : Nat} {x : Tm} {ux : Value}
theorem T2.then (h : T2 w t u had p b r B x ux W) (hb : Below W.heap.size W W') : T2 w t u had p b r B x ux W' :=
  ⟨below_then h.b0 h.b0.size hb, h.t.below hb, h.s.below hb, bds_b h.r hb, h.x.below hb⟩
theorem T2.alloc (h : T2 w t u had p b r B x ux W) (O : Obj) : T2 w t u had p b r B x ux (W.alloc O) := h.then ((Below.refl _ W).alloc (Nat.le_refl _) O)
theorem T2.drew (h : T2 w t u had p b r B x ux W) : T2 w t u had p b r B x ux W.drew := h.then (Below.refl _ W).drew
theorem T2.cells (h : T2 w t u had p b r B x ux W) : W.cell? ⟨w.heap.size, 0, none⟩ = some (.int .u8 t.k) ∧ W.cell? ⟨w.heap.size, 1, none⟩ = some (.string t.s) ∧ W.cell? ⟨w.heap.size, 2, none⟩ = some (.int .i64 t.n) ∧ W.cell? ⟨w.heap.size, 3, none⟩ = some u ∧ W.cell? ⟨B, 0, none⟩ = some (.int .u8 x.k) ∧ W.cell? ⟨B, 1, none⟩ = some (.string x.s) ∧ W.cell? ⟨B, 2, none⟩ = some (.int .i64 x.n) ∧ W.cell? ⟨B, 3, none⟩ = some ux :=
  ⟨h.t.cells.1, h.t.cells.2.1, h.t.cells.2.2.1, h.t.cells.2.2.2, h.x.cells.1, h.x.cells.2.1, h.x.cells.2.2.1, h.x.cells.2.2.2⟩
end

theorem nodE_len (P : List Tm) (q : Int) : (4096 < (nodE P q).1) ↔ ¬ P.length ≤ 4096 := by simp only [nodE, List.length_take]; omega
set_option maxRecDepth 100000 in
set_option maxHeartbeats 8000000 in
theorem SubstTells_c (l : Bs) (t : Tm) (q : Int) (vl v : Value) (w : World) (okl ok : Nat → Prop) (hvl : Kd.bd.S w okl l vl) (hv : TmV w ok t v) (hl : WfB l) (ht : t.Wf) (hq : -9223372036854775808 ≤ q ∧ q ≤ 9223372036854775807) :
    Calls Try.prog 3 #[vl, v, .int .i64 q] w fun e w' => e = .returned (.bool true) ∧ Below w.heap.size w w' := by
  obtain ⟨u, rfl, hS⟩ := hv
  obtain ⟨A, c, rfl⟩ := hS.form
  have hb1 := fun O : Obj => (Below.refl w.heap.size w).alloc (Nat.le_refl _) O
  have HG := Lib.hid (fun W (h : T0 w t (.slice A t.l.length c) l vl W) => Great3_c l t vl _ W _ _ h.l h.t.tmv hl ht)
  have HT0 := Lib.hid (show T0 w t (.slice A t.l.length c) l vl (w.alloc (.cells #[.int .u8 t.k, .string t.s, .int .i64 t.n, .slice A t.l.length c] 25)) from ⟨hb1 _, Bt.new hS, (hvl.below (hb1 _)).mono (fun _ _ => trivial)⟩)
  obtain ⟨Al, cl, rfl⟩ := hvl.form
  have hwf := Lib.hid ht
  have hwl := Lib.hid hl
  clear hvl hS hl ht
  cases hgr : great3 l t with
  | true =>
    rw [hgr] at HG
    clear hgr
    go_enter Try.func3, Try.ntmps3
    go_wp2_with (first
      | (go_at_call 13; refine (HG.out _ HT0.out).mono ?_; clear HG; rintro e w1 ⟨rfl, hb1⟩; have h0 := HT0.out.then hb1; clear hb1)
      | (go_at_call 14; refine (wakes03_c _).mono ?_; rintro e w2 ⟨rfl, hb2⟩; replace h0 := h0.then hb2))
    go_ret
    exact ⟨rfl, h0.b0⟩
  | false =>
    rw [hgr] at HG
    obtain ⟨hz1, hz2⟩ := great3_siz hgr
    have hll := (great3_no hgr).1
    have hsm : ∀ n x, ofB (mk [] l) n = some x → x.siz ≤ 1000000 := fun n x h => by have := mk_siz hz1 n x h; omega
    have hac : Acyc (mk [] l) := mk_acyc l [] acyc_nil
    have hf := hac.fueled t
    have hml : (mk [] l).length ≤ 1000000 := by have := mk_length l []; simp only [List.length_nil] at this; omega
    have hsz : t.siz ≤ 1000000 := by omega
    have HMK := Lib.hid (fun W (h : T0 w t (.slice A t.l.length c) l (.slice Al l.length cl) W) => Make_c l _ W _ h.l hwl.out hll (fun b hb => by have := hz1 b hb; omega))
    generalize mk [] l = had at hsm hac hf hml HMK
    generalize fuelOf had t = f at hf
    have HW := Lib.hid (fun W p b r (h : T1 w t (.slice A t.l.length c) had p b r W) => Walk_c had p b t _ W _ h.s.sub h.t.tmv hwf.out)
    have HRW := Lib.hid (fun W p b r (h : T1 w t (.slice A t.l.length c) had p b r W) => rWalk_c had t r _ W _ _ h.r h.t.tmv hac hml)
    have HO := Lib.hid (fun W p b r (h : T1 w t (.slice A t.l.length c) had p b r W) => Occurs_c had p b f q t _ W _ h.s.sub h.t.tmv hwf.out hf)
    have HRO := Lib.hid (fun W p b r (h : T1 w t (.slice A t.l.length c) had p b r W) => rOccurs_c had t f q r _ W _ _ h.r h.t.tmv hf hac hml hsm hsz hq)
    have HA := Lib.hid (fun W p b r (h : T1 w t (.slice A t.l.length c) had p b r W) => Apply_c had p b f t _ W _ h.s.sub h.t.tmv hwf.out hf hsm hsz)
    have HN := Lib.hid (fun W p b r (h : T1 w t (.slice A t.l.length c) had p b r W) => Nodes_c had t f (-1) r _ W _ _ h.r h.t.tmv hf hac hml hsm hsz (by omega))
    have HRA := Lib.hid (fun W p b r (h : T1 w t (.slice A t.l.length c) had p b r W) => rApply_c had hac hml hsm f t hf r _ W _ _ h.r h.t.tmv hsz)
    have hno := nodE_len (vis had f t) (-1)
    have hn1 := Lib.hid hno
    generalize wlk had t = x at HW HRW
    generalize occE (vis had f t) q = oe at HO HRO
    obtain ⟨oi, oe⟩ := oe
    simp only at HO HRO
    generalize nodE (vis had f t) (-1) = nd at HN hn1
    obtain ⟨nn, na⟩ := nd
    simp only at HN hn1
    clear hgr hz1 hz2 hsm hac hf hml hno
    by_cases hfull : (vis had f t).length ≤ 4096
    · have hE : appE (vis had f t) (app had f t) = (app had f t, 0) := if_pos hfull
      have hn2 : decide (4096 < nn) = false := by have := hn1.out; simp only [hfull, not_true, iff_false] at this; simpa using this
      rw [hE] at HA
      generalize app had f t = y at HA HRA
      simp only at HA
      clear hE hn1 hfull
      go_enter Try.func3, Try.ntmps3
      go_wp2_with (first
        | (go_at_call 13; refine (HG.out _ HT0.out).mono ?_; clear HG; rintro e w1 ⟨rfl, hb1⟩; have h0 := HT0.out.then hb1; clear hb1 HT0)
        | (go_at_call 15; refine (HMK.out _ h0).mono ?_; clear HMK; rintro e w2 ⟨⟨p, b, r, rfl, hs2, hr2, hp2, hb2⟩, hb1⟩; obtain ⟨rA, rc, rfl⟩ := hr2.form; have hz := h0.b0.size; replace h0 := h0.then hb1; have h1 : T1 w t (.slice A t.l.length c) had p b (.slice rA had.length rc) w2 := ⟨h0.b0, h0.t, ⟨hs2.mono (fun _ _ => trivial), (by omega), (by omega)⟩, hr2⟩; clear hb1 hs2 hr2 hp2 hb2 h0 hz; obtain ⟨d0, d1, d2, d3⟩ := h1.cells))
      clear d0 d1 d2 d3
      refine wp_region_held_drew (S := (fun W => W.cell? ⟨w.heap.size, 0, none⟩ = some (.int .u8 t.k) ∧ W.cell? ⟨w.heap.size, 1, none⟩ = some (.string t.s) ∧ W.cell? ⟨w.heap.size, 2, none⟩ = some (.int .i64 t.n) ∧ W.cell? ⟨w.heap.size, 3, none⟩ = some (.slice A t.l.length c))) (by kernel_rfl) ?_ (fun hHeld => ?_)
      · exact h1.drew.cells
      change wpAnyH _ .any _ _ _ 12 (Array.replicate 12 false) _ _
      refine wpAnyH_take (i := 0) (oi := ⟨some 28, _, _, _, _, _⟩) (v := ?_) rfl (by kernel_rfl) (by kernel_rfl) (by kernel_rfl) (fun _ _ _ h => h) (Or.inl ⟨by rfl, ?_⟩) (by assumption) ?_
      rotate_left
      · (intro w hSw; (try dsimp only at hSw); go_simp; try (with_reducible rfl))
      (try simp only [Act.put, List.setIfInBounds_toArray, List.set_cons_zero, List.set_cons_succ])
      refine wpAnyH_take (i := 1) (oi := ⟨some 29, _, _, _, _, _⟩) (v := ?_) rfl (by kernel_rfl) (by kernel_rfl) (by kernel_rfl) (fun _ _ _ h => h) (Or.inl ⟨by rfl, ?_⟩) (by assumption) ?_
      rotate_left
      · (intro w hSw; (try dsimp only at hSw); go_simp; try (with_reducible rfl))
      (try simp only [Act.put, List.setIfInBounds_toArray, List.set_cons_zero, List.set_cons_succ])
      refine wpAnyH_take (i := 2) (oi := ⟨some 30, _, _, _, _, _⟩) (v := ?_) rfl (by kernel_rfl) (by kernel_rfl) (by kernel_rfl) (fun _ _ _ h => h) (Or.inl ⟨by rfl, ?_⟩) (by assumption) ?_
      rotate_left
      · (intro w hSw; (try dsimp only at hSw); go_simp; try (with_reducible rfl))
      (try simp only [Act.put, List.setIfInBounds_toArray, List.set_cons_zero, List.set_cons_succ])
      refine wpAnyH_take (i := 3) (oi := ⟨some 31, _, _, _, _, _⟩) (v := ?_) rfl (by kernel_rfl) (by kernel_rfl) (by kernel_rfl) (fun _ _ _ h => h) (Or.inl ⟨by rfl, ?_⟩) (by assumption) ?_
      rotate_left
      · (intro w hSw; (try dsimp only at hSw); go_simp; try (with_reducible rfl))
      (try simp only [Act.put, List.setIfInBounds_toArray, List.set_cons_zero, List.set_cons_succ])
      refine wpAnyH_take (i := 4) (oi := ⟨some 32, _, _, _, _, _⟩) (v := ?_) rfl (by kernel_rfl) (by kernel_rfl) (by kernel_rfl) (fun _ _ _ h => h) (Or.inl ⟨by rfl, ?_⟩) (by assumption) ?_
      rotate_left
      · (intro w hSw; (try dsimp only at hSw); go_simp; try (with_reducible rfl))
      (try simp only [Act.put, List.setIfInBounds_toArray, List.set_cons_zero, List.set_cons_succ])
      refine wpAnyH_take (i := 6) (oi := ⟨some 34, _, _, _, _, _⟩) (v := ?_) rfl (by kernel_rfl) (by kernel_rfl) (by kernel_rfl) (fun _ _ _ h => h) (Or.inl ⟨by rfl, ?_⟩) (by assumption) ?_
      rotate_left
      · (intro w hSw; (try dsimp only at hSw); go_simp; try (with_reducible rfl))
      (try simp only [Act.put, List.setIfInBounds_toArray, List.set_cons_zero, List.set_cons_succ])
      refine wpAnyH_take (i := 7) (oi := ⟨some 35, _, _, _, _, _⟩) (v := ?_) rfl (by kernel_rfl) (by kernel_rfl) (by kernel_rfl) (fun _ _ _ h => h) (Or.inl ⟨by rfl, ?_⟩) (by assumption) ?_
      rotate_left
      · (intro w hSw; (try dsimp only at hSw); go_simp; try (with_reducible rfl))
      (try simp only [Act.put, List.setIfInBounds_toArray, List.set_cons_zero, List.set_cons_succ])
      replace h1 := h1.drew
      refine wpAnyH_ready (rs := [5]) (by kernel_rfl) (by simp) ?_
      refine AllReadyH.cons (o := ⟨some 33, _, _, _, _, _⟩) rfl (fun K hK => ?_) AllReadyH.nil
      go_simp
      go_at_call 17
      refine (HW.out _ _ _ _ h1).mono ?_
      clear HW
      rintro e w3 ⟨⟨u3, rfl, uu3, rfl, hu3⟩, hb1⟩
      obtain ⟨A3, c3, rfl⟩ := hu3.form
      replace h1 := h1.then hb1
      clear hb1
      go_wp2_with fail
      refine hK.out _ _ h1.cells (fun hHeld => ?_)
      clear hK K
      (try simp only [Act.put, List.setIfInBounds_toArray, List.set_cons_zero, List.set_cons_succ])
      refine wpAnyH_ready (rs := [8]) (by kernel_rfl) (by simp) ?_
      refine AllReadyH.cons (o := ⟨some 36, _, _, _, _, _⟩) rfl (fun K hK => ?_) AllReadyH.nil
      go_simp
      go_at_call 18
      refine (HRW.out _ _ _ _ h1).mono ?_
      clear HRW
      rintro e w4 ⟨⟨u4, rfl, uu4, rfl, hu4⟩, hb1⟩
      obtain ⟨A4, c4, rfl⟩ := hu4.form
      replace hu3 := hu3.below hb1
      replace h1 := h1.then hb1
      clear hb1
      go_wp2_with fail
      refine hK.out _ _ h1.cells (fun hHeld => ?_)
      clear hK K
      (try simp only [Act.put, List.setIfInBounds_toArray, List.set_cons_zero, List.set_cons_succ])
      refine wpAnyH_ready (rs := [9]) (by kernel_rfl) (by simp) ?_
      refine AllReadyH.cons (o := ⟨some 37, _, _, _, _, _⟩) rfl (fun K hK => ?_) AllReadyH.nil
      go_simp
      go_at_call 16
      refine (rSame_refl x _ _ _ _ _ ⟨_, rfl, hu3⟩ ⟨_, rfl, hu4⟩).mono ?_
      clear hu3 hu4
      rintro e w5 ⟨rfl, hb1⟩
      replace h1 := h1.then hb1
      clear hb1
      go_wp2_with fail
      refine hK.out _ _ h1.cells (fun hHeld => ?_)
      clear hK K
      (try simp only [Act.put, List.setIfInBounds_toArray, List.set_cons_zero, List.set_cons_succ])
      refine wpAnyH_take (i := 10) (oi := ⟨some 38, _, _, _, _, _⟩) (v := ?_) rfl (by kernel_rfl) (by kernel_rfl) (by kernel_rfl) (fun _ _ _ h => h) (Or.inl ⟨by rfl, ?_⟩) (by assumption) ?_
      rotate_left
      · (intro w hSw; (try dsimp only at hSw); go_simp; try (with_reducible rfl))
      (try simp only [Act.put, List.setIfInBounds_toArray, List.set_cons_zero, List.set_cons_succ])
      refine wpAnyH_take (i := 11) (oi := ⟨some 39, _, _, _, _, _⟩) (v := ?_) rfl (by kernel_rfl) (by kernel_rfl) (by kernel_rfl) (fun _ _ _ h => h) (Or.inl ⟨by rfl, ?_⟩) (by assumption) ?_
      rotate_left
      · (intro w hSw; (try dsimp only at hSw); go_simp; try (with_reducible rfl))
      (try simp only [Act.put, List.setIfInBounds_toArray, List.set_cons_zero, List.set_cons_succ])
      refine wpAnyH_done (by kernel_rfl) ?_ _
      have m2 : Hid (0 = 0) := Lib.hid rfl
      obtain ⟨d0, d1, d2, d3⟩ := h1.cells
      go_wp2_with (first
        | (go_at_call 19; refine (HO.out _ _ _ _ h1).mono ?_; clear HO; rintro e w6 ⟨rfl, hb1⟩; replace h1 := h1.then hb1; clear hb1 d0 d1 d2 d3; obtain ⟨d0, d1, d2, d3⟩ := h1.cells)
        | (go_at_call 20; refine (HRO.out _ _ _ _ h1).mono ?_; clear HRO; rintro e w7 ⟨rfl, hb1⟩; replace h1 := h1.then hb1; clear hb1 d0 d1 d2 d3; obtain ⟨d0, d1, d2, d3⟩ := h1.cells)
        | (go_at_call 21; refine (HA.out _ _ _ _ h1).mono ?_; clear HA; rintro e w8 ⟨⟨u8, rfl, uu8, rfl, hu8⟩, hb1⟩; obtain ⟨A8, c8, rfl⟩ := hu8.form; replace h1 := h1.then hb1; have h2 : T2 w t (.slice A t.l.length c) had p b (.slice rA had.length rc) w8.heap.size y (.slice A8 y.l.length c8) (w8.alloc (.cells #[.int .u8 y.k, .string y.s, .int .i64 y.n, .slice A8 y.l.length c8] 25)) := ⟨(h1.alloc _).b0, (h1.alloc _).t, (h1.alloc _).s, (h1.alloc _).r, Bt.new hu8⟩; clear hb1 d0 d1 d2 d3 hu8; obtain ⟨d0, d1, d2, d3, -, -, -, -⟩ := h2.cells)
        | (go_at_call 22; have h3 : T1 w t (.slice A t.l.length c) had p b (.slice rA had.length rc) _ := ⟨h2.b0, h2.t, h2.s, h2.r⟩; refine (HN.out _ _ _ _ h3).mono ?_; clear HN; rintro e w9 ⟨rfl, hb1⟩; replace h2 := h2.then hb1; clear hb1 h3 d0 d1 d2 d3; obtain ⟨d0, d1, d2, d3, x0, x1, x2, x3⟩ := h2.cells))
      clear d0 d1 d2 d3 x0 x1 x2 x3
      refine wp_region_held_drew (S := (fun W => W.cell? ⟨w.heap.size, 0, none⟩ = some (.int .u8 t.k) ∧ W.cell? ⟨w.heap.size, 1, none⟩ = some (.string t.s) ∧ W.cell? ⟨w.heap.size, 2, none⟩ = some (.int .i64 t.n) ∧ W.cell? ⟨w.heap.size, 3, none⟩ = some (.slice A t.l.length c) ∧ W.cell? ⟨w8.heap.size, 0, none⟩ = some (.int .u8 y.k) ∧ W.cell? ⟨w8.heap.size, 1, none⟩ = some (.string y.s) ∧ W.cell? ⟨w8.heap.size, 2, none⟩ = some (.int .i64 y.n) ∧ W.cell? ⟨w8.heap.size, 3, none⟩ = some (.slice A8 y.l.length c8))) (by kernel_rfl) ?_ (fun hHeld => ?_)
      · exact h2.drew.cells
      change wpAnyH _ .any _ _ _ 13 (Array.replicate 13 false) _ _
      refine wpAnyH_take (i := 0) (oi := ⟨some 86, _, _, _, _, _⟩) (v := ?_) rfl (by kernel_rfl) (by kernel_rfl) (by kernel_rfl) (fun _ _ _ h => h) (Or.inl ⟨by rfl, ?_⟩) (by assumption) ?_
      rotate_left
      · (intro w hSw; (try dsimp only at hSw); go_simp; try (with_reducible rfl))
      (try simp only [Act.put, List.setIfInBounds_toArray, List.set_cons_zero, List.set_cons_succ])
      refine wpAnyH_take (i := 1) (oi := ⟨some 87, _, _, _, _, _⟩) (v := ?_) rfl (by kernel_rfl) (by kernel_rfl) (by kernel_rfl) (fun _ _ _ h => h) (Or.inl ⟨by rfl, ?_⟩) (by assumption) ?_
      rotate_left
      · (intro w hSw; (try dsimp only at hSw); go_simp; try (with_reducible rfl))
      (try simp only [Act.put, List.setIfInBounds_toArray, List.set_cons_zero, List.set_cons_succ])
      refine wpAnyH_take (i := 2) (oi := ⟨some 88, _, _, _, _, _⟩) (v := ?_) rfl (by kernel_rfl) (by kernel_rfl) (by kernel_rfl) (fun _ _ _ h => h) (Or.inl ⟨by rfl, ?_⟩) (by assumption) ?_
      rotate_left
      · (intro w hSw; (try dsimp only at hSw); go_simp; try (with_reducible rfl))
      (try simp only [Act.put, List.setIfInBounds_toArray, List.set_cons_zero, List.set_cons_succ])
      refine wpAnyH_take (i := 3) (oi := ⟨some 89, _, _, _, _, _⟩) (v := ?_) rfl (by kernel_rfl) (by kernel_rfl) (by kernel_rfl) (fun _ _ _ h => h) (Or.inl ⟨by rfl, ?_⟩) (by assumption) ?_
      rotate_left
      · (intro w hSw; (try dsimp only at hSw); go_simp; try (with_reducible rfl))
      (try simp only [Act.put, List.setIfInBounds_toArray, List.set_cons_zero, List.set_cons_succ])
      refine wpAnyH_take (i := 4) (oi := ⟨some 90, _, _, _, _, _⟩) (v := ?_) rfl (by kernel_rfl) (by kernel_rfl) (by kernel_rfl) (fun _ _ _ h => h) (Or.inl ⟨by rfl, ?_⟩) (by assumption) ?_
      rotate_left
      · (intro w hSw; (try dsimp only at hSw); go_simp; try (with_reducible rfl))
      (try simp only [Act.put, List.setIfInBounds_toArray, List.set_cons_zero, List.set_cons_succ])
      refine wpAnyH_take (i := 5) (oi := ⟨some 91, _, _, _, _, _⟩) (v := ?_) rfl (by kernel_rfl) (by kernel_rfl) (by kernel_rfl) (fun _ _ _ h => h) (Or.inl ⟨by rfl, ?_⟩) (by assumption) ?_
      rotate_left
      · (intro w hSw; (try dsimp only at hSw); go_simp; try (with_reducible rfl))
      (try simp only [Act.put, List.setIfInBounds_toArray, List.set_cons_zero, List.set_cons_succ])
      replace h2 := h2.drew
      have h3 : T1 w t (.slice A t.l.length c) had p b (.slice rA had.length rc) _ := ⟨h2.b0, h2.t, h2.s, h2.r⟩
      refine wpAnyH_ready (rs := [6]) (by kernel_rfl) (by simp) ?_
      refine AllReadyH.cons (o := ⟨some 92, _, _, _, _, _⟩) rfl (fun K hK => ?_) AllReadyH.nil
      go_simp
      go_at_call 23
      refine (HRA.out _ _ _ _ h3).mono ?_
      clear HRA h3
      rintro e w10 ⟨⟨u10, rfl, uu10, rfl, hu10⟩, hb1⟩
      obtain ⟨A10, c10, rfl⟩ := hu10.form
      replace h2 := h2.then hb1
      clear hb1
      go_wp2_with fail
      refine hK.out _ _ h2.cells (fun hHeld => ?_)
      clear hK K
      (try simp only [Act.put, List.setIfInBounds_toArray, List.set_cons_zero, List.set_cons_succ])
      refine wpAnyH_ready (rs := [7]) (by kernel_rfl) (by simp) ?_
      refine AllReadyH.cons (o := ⟨some 93, _, _, _, _, _⟩) rfl (fun K hK => ?_) AllReadyH.nil
      go_simp
      go_at_call 16
      refine (rSame_refl y _ _ _ _ _ h2.x.tmv ⟨_, rfl, hu10⟩).mono ?_
      clear hu10
      rintro e w11 ⟨rfl, hb1⟩
      replace h2 := h2.then hb1
      clear hb1
      go_wp2_with fail
      refine hK.out _ _ h2.cells (fun hHeld => ?_)
      clear hK K
      (try simp only [Act.put, List.setIfInBounds_toArray, List.set_cons_zero, List.set_cons_succ])
      refine wpAnyH_take (i := 8) (oi := ⟨some 94, _, _, _, _, _⟩) (v := ?_) rfl (by kernel_rfl) (by kernel_rfl) (by kernel_rfl) (fun _ _ _ h => h) (Or.inl ⟨by rfl, ?_⟩) (by assumption) ?_
      rotate_left
      · (intro w hSw; (try dsimp only at hSw); go_simp; try (with_reducible rfl))
      (try simp only [Act.put, List.setIfInBounds_toArray, List.set_cons_zero, List.set_cons_succ])
      refine wpAnyH_take (i := 9) (oi := ⟨some 95, _, _, _, _, _⟩) (v := ?_) rfl (by kernel_rfl) (by kernel_rfl) (by kernel_rfl) (fun _ _ _ h => h) (Or.inl ⟨by rfl, ?_⟩) (by assumption) ?_
      rotate_left
      · (intro w hSw; (try dsimp only at hSw); go_simp; try (with_reducible rfl))
      (try simp only [Act.put, List.setIfInBounds_toArray, List.set_cons_zero, List.set_cons_succ])
      refine wpAnyH_ready (rs := [10]) (by kernel_rfl) (by simp) ?_
      refine AllReadyH.cons (o := ⟨some 96, _, _, _, _, _⟩) rfl (fun K hK => ?_) AllReadyH.nil
      go_simp
      go_at_call 14
      refine (wakes03_c _).mono ?_
      rintro e w12 ⟨rfl, hb1⟩
      replace h2 := h2.then hb1
      clear hb1
      go_wp2_with fail
      refine hK.out _ _ h2.cells (fun hHeld => ?_)
      clear hK K
      (try simp only [Act.put, List.setIfInBounds_toArray, List.set_cons_zero, List.set_cons_succ])
      refine wpAnyH_take (i := 11) (oi := ⟨some 97, _, _, _, _, _⟩) (v := ?_) rfl (by kernel_rfl) (by kernel_rfl) (by kernel_rfl) (fun _ _ _ h => h) (Or.inl ⟨by rfl, ?_⟩) (by assumption) ?_
      rotate_left
      · (intro w hSw; (try dsimp only at hSw); go_simp; try (with_reducible rfl))
      (try simp only [Act.put, List.setIfInBounds_toArray, List.set_cons_zero, List.set_cons_succ])
      refine wpAnyH_take (i := 12) (oi := ⟨some 6, _, _, _, _, _⟩) (v := ?_) rfl (by kernel_rfl) (by kernel_rfl) (by kernel_rfl) (fun _ _ _ h => h) (Or.inl ⟨by rfl, ?_⟩) (by assumption) ?_
      rotate_left
      · (intro w hSw; (try dsimp only at hSw); go_simp; try (with_reducible rfl))
      (try simp only [Act.put, List.setIfInBounds_toArray, List.set_cons_zero, List.set_cons_succ])
      refine wpAnyH_done (by kernel_rfl) ?_ _
      go_wp2
      go_ret
      exact ⟨rfl, h2.b0⟩
    · have hE : appE (vis had f t) (app had f t) = (tm0, 31) := if_neg hfull
      have hn2 : decide (4096 < nn) = true := by have := hn1.out; simp only [hfull, not_false_iff, iff_true] at this; simpa using this
      rw [hE] at HA
      obtain ⟨y, hy⟩ : ∃ y, y = tm0 := ⟨_, rfl⟩
      rw [← hy] at HA
      have HY := Lib.hid hy
      simp only at HA
      clear hE hn1 hfull hy HRA
      go_enter Try.func3, Try.ntmps3
      go_wp2_with (first
        | (go_at_call 13; refine (HG.out _ HT0.out).mono ?_; clear HG; rintro e w1 ⟨rfl, hb1⟩; have h0 := HT0.out.then hb1; clear hb1 HT0)
        | (go_at_call 15; refine (HMK.out _ h0).mono ?_; clear HMK; rintro e w2 ⟨⟨p, b, r, rfl, hs2, hr2, hp2, hb2⟩, hb1⟩; obtain ⟨rA, rc, rfl⟩ := hr2.form; have hz := h0.b0.size; replace h0 := h0.then hb1; have h1 : T1 w t (.slice A t.l.length c) had p b (.slice rA had.length rc) w2 := ⟨h0.b0, h0.t, ⟨hs2.mono (fun _ _ => trivial), (by omega), (by omega)⟩, hr2⟩; clear hb1 hs2 hr2 hp2 hb2 h0 hz; obtain ⟨d0, d1, d2, d3⟩ := h1.cells))
      clear d0 d1 d2 d3
      refine wp_region_held_drew (S := (fun W => W.cell? ⟨w.heap.size, 0, none⟩ = some (.int .u8 t.k) ∧ W.cell? ⟨w.heap.size, 1, none⟩ = some (.string t.s) ∧ W.cell? ⟨w.heap.size, 2, none⟩ = some (.int .i64 t.n) ∧ W.cell? ⟨w.heap.size, 3, none⟩ = some (.slice A t.l.length c))) (by kernel_rfl) ?_ (fun hHeld => ?_)
      · exact h1.drew.cells
      change wpAnyH _ .any _ _ _ 12 (Array.replicate 12 false) _ _
      refine wpAnyH_take (i := 0) (oi := ⟨some 28, _, _, _, _, _⟩) (v := ?_) rfl (by kernel_rfl) (by kernel_rfl) (by kernel_rfl) (fun _ _ _ h => h) (Or.inl ⟨by rfl, ?_⟩) (by assumption) ?_
      rotate_left
      · (intro w hSw; (try dsimp only at hSw); go_simp; try (with_reducible rfl))
      (try simp only [Act.put, List.setIfInBounds_toArray, List.set_cons_zero, List.set_cons_succ])
      refine wpAnyH_take (i := 1) (oi := ⟨some 29, _, _, _, _, _⟩) (v := ?_) rfl (by kernel_rfl) (by kernel_rfl) (by kernel_rfl) (fun _ _ _ h => h) (Or.inl ⟨by rfl, ?_⟩) (by assumption) ?_
      rotate_left
      · (intro w hSw; (try dsimp only at hSw); go_simp; try (with_reducible rfl))
      (try simp only [Act.put, List.setIfInBounds_toArray, List.set_cons_zero, List.set_cons_succ])
      refine wpAnyH_take (i := 2) (oi := ⟨some 30, _, _, _, _, _⟩) (v := ?_) rfl (by kernel_rfl) (by kernel_rfl) (by kernel_rfl) (fun _ _ _ h => h) (Or.inl ⟨by rfl, ?_⟩) (by assumption) ?_
      rotate_left
      · (intro w hSw; (try dsimp only at hSw); go_simp; try (with_reducible rfl))
      (try simp only [Act.put, List.setIfInBounds_toArray, List.set_cons_zero, List.set_cons_succ])
      refine wpAnyH_take (i := 3) (oi := ⟨some 31, _, _, _, _, _⟩) (v := ?_) rfl (by kernel_rfl) (by kernel_rfl) (by kernel_rfl) (fun _ _ _ h => h) (Or.inl ⟨by rfl, ?_⟩) (by assumption) ?_
      rotate_left
      · (intro w hSw; (try dsimp only at hSw); go_simp; try (with_reducible rfl))
      (try simp only [Act.put, List.setIfInBounds_toArray, List.set_cons_zero, List.set_cons_succ])
      refine wpAnyH_take (i := 4) (oi := ⟨some 32, _, _, _, _, _⟩) (v := ?_) rfl (by kernel_rfl) (by kernel_rfl) (by kernel_rfl) (fun _ _ _ h => h) (Or.inl ⟨by rfl, ?_⟩) (by assumption) ?_
      rotate_left
      · (intro w hSw; (try dsimp only at hSw); go_simp; try (with_reducible rfl))
      (try simp only [Act.put, List.setIfInBounds_toArray, List.set_cons_zero, List.set_cons_succ])
      refine wpAnyH_take (i := 6) (oi := ⟨some 34, _, _, _, _, _⟩) (v := ?_) rfl (by kernel_rfl) (by kernel_rfl) (by kernel_rfl) (fun _ _ _ h => h) (Or.inl ⟨by rfl, ?_⟩) (by assumption) ?_
      rotate_left
      · (intro w hSw; (try dsimp only at hSw); go_simp; try (with_reducible rfl))
      (try simp only [Act.put, List.setIfInBounds_toArray, List.set_cons_zero, List.set_cons_succ])
      refine wpAnyH_take (i := 7) (oi := ⟨some 35, _, _, _, _, _⟩) (v := ?_) rfl (by kernel_rfl) (by kernel_rfl) (by kernel_rfl) (fun _ _ _ h => h) (Or.inl ⟨by rfl, ?_⟩) (by assumption) ?_
      rotate_left
      · (intro w hSw; (try dsimp only at hSw); go_simp; try (with_reducible rfl))
      (try simp only [Act.put, List.setIfInBounds_toArray, List.set_cons_zero, List.set_cons_succ])
      replace h1 := h1.drew
      refine wpAnyH_ready (rs := [5]) (by kernel_rfl) (by simp) ?_
      refine AllReadyH.cons (o := ⟨some 33, _, _, _, _, _⟩) rfl (fun K hK => ?_) AllReadyH.nil
      go_simp
      go_at_call 17
      refine (HW.out _ _ _ _ h1).mono ?_
      clear HW
      rintro e w3 ⟨⟨u3, rfl, uu3, rfl, hu3⟩, hb1⟩
      obtain ⟨A3, c3, rfl⟩ := hu3.form
      replace h1 := h1.then hb1
      clear hb1
      go_wp2_with fail
      refine hK.out _ _ h1.cells (fun hHeld => ?_)
      clear hK K
      (try simp only [Act.put, List.setIfInBounds_toArray, List.set_cons_zero, List.set_cons_succ])
      refine wpAnyH_ready (rs := [8]) (by kernel_rfl) (by simp) ?_
      refine AllReadyH.cons (o := ⟨some 36, _, _, _, _, _⟩) rfl (fun K hK => ?_) AllReadyH.nil
      go_simp
      go_at_call 18
      refine (HRW.out _ _ _ _ h1).mono ?_
      clear HRW
      rintro e w4 ⟨⟨u4, rfl, uu4, rfl, hu4⟩, hb1⟩
      obtain ⟨A4, c4, rfl⟩ := hu4.form
      replace hu3 := hu3.below hb1
      replace h1 := h1.then hb1
      clear hb1
      go_wp2_with fail
      refine hK.out _ _ h1.cells (fun hHeld => ?_)
      clear hK K
      (try simp only [Act.put, List.setIfInBounds_toArray, List.set_cons_zero, List.set_cons_succ])
      refine wpAnyH_ready (rs := [9]) (by kernel_rfl) (by simp) ?_
      refine AllReadyH.cons (o := ⟨some 37, _, _, _, _, _⟩) rfl (fun K hK => ?_) AllReadyH.nil
      go_simp
      go_at_call 16
      refine (rSame_refl x _ _ _ _ _ ⟨_, rfl, hu3⟩ ⟨_, rfl, hu4⟩).mono ?_
      clear hu3 hu4
      rintro e w5 ⟨rfl, hb1⟩
      replace h1 := h1.then hb1
      clear hb1
      go_wp2_with fail
      refine hK.out _ _ h1.cells (fun hHeld => ?_)
      clear hK K
      (try simp only [Act.put, List.setIfInBounds_toArray, List.set_cons_zero, List.set_cons_succ])
      refine wpAnyH_take (i := 10) (oi := ⟨some 38, _, _, _, _, _⟩) (v := ?_) rfl (by kernel_rfl) (by kernel_rfl) (by kernel_rfl) (fun _ _ _ h => h) (Or.inl ⟨by rfl, ?_⟩) (by assumption) ?_
      rotate_left
      · (intro w hSw; (try dsimp only at hSw); go_simp; try (with_reducible rfl))
      (try simp only [Act.put, List.setIfInBounds_toArray, List.set_cons_zero, List.set_cons_succ])
      refine wpAnyH_take (i := 11) (oi := ⟨some 39, _, _, _, _, _⟩) (v := ?_) rfl (by kernel_rfl) (by kernel_rfl) (by kernel_rfl) (fun _ _ _ h => h) (Or.inl ⟨by rfl, ?_⟩) (by assumption) ?_
      rotate_left
      · (intro w hSw; (try dsimp only at hSw); go_simp; try (with_reducible rfl))
      (try simp only [Act.put, List.setIfInBounds_toArray, List.set_cons_zero, List.set_cons_succ])
      refine wpAnyH_done (by kernel_rfl) ?_ _
      have m2 : Hid (0 = 0) := Lib.hid rfl
      obtain ⟨d0, d1, d2, d3⟩ := h1.cells
      go_wp2_with (first
        | (go_at_call 19; refine (HO.out _ _ _ _ h1).mono ?_; clear HO; rintro e w6 ⟨rfl, hb1⟩; replace h1 := h1.then hb1; clear hb1 d0 d1 d2 d3; obtain ⟨d0, d1, d2, d3⟩ := h1.cells)
        | (go_at_call 20; refine (HRO.out _ _ _ _ h1).mono ?_; clear HRO; rintro e w7 ⟨rfl, hb1⟩; replace h1 := h1.then hb1; clear hb1 d0 d1 d2 d3; obtain ⟨d0, d1, d2, d3⟩ := h1.cells)
        | (go_at_call 21; refine (HA.out _ _ _ _ h1).mono ?_; clear HA; rintro e w8 ⟨⟨u8, rfl, uu8, rfl, hu8⟩, hb1⟩; obtain ⟨A8, c8, rfl⟩ := hu8.form; replace h1 := h1.then hb1; have h2 : T2 w t (.slice A t.l.length c) had p b (.slice rA had.length rc) w8.heap.size y (.slice A8 y.l.length c8) (w8.alloc (.cells #[.int .u8 y.k, .string y.s, .int .i64 y.n, .slice A8 y.l.length c8] 25)) := ⟨(h1.alloc _).b0, (h1.alloc _).t, (h1.alloc _).s, (h1.alloc _).r, Bt.new hu8⟩; clear hb1 d0 d1 d2 d3 hu8; obtain ⟨d0, d1, d2, d3, -, -, -, -⟩ := h2.cells)
        | (go_at_call 22; have h3 : T1 w t (.slice A t.l.length c) had p b (.slice rA had.length rc) _ := ⟨h2.b0, h2.t, h2.s, h2.r⟩; refine (HN.out _ _ _ _ h3).mono ?_; clear HN; rintro e w9 ⟨rfl, hb1⟩; replace h2 := h2.then hb1; clear hb1 h3 d0 d1 d2 d3; obtain ⟨d0, d1, d2, d3, x0, x1, x2, x3⟩ := h2.cells)
        | (go_at_call 16; refine (rSame_refl tm0 _ (fun _ => True) (fun _ => True) _ _ (HY.out ▸ h2.x.tmv) ⟨_, rfl, Kd.S.nil _ _ _⟩).mono ?_; rintro e w10 ⟨rfl, hb1⟩; replace h2 := h2.then hb1; clear hb1)
        | (go_at_call 14; refine (wakes03_c _).mono ?_; rintro e w11 ⟨rfl, hb1⟩; replace h2 := h2.then hb1; clear hb1))
      go_ret
      exact ⟨rfl, h2.b0⟩
end Go.Proofs.Ytdidmhcblepcbaa

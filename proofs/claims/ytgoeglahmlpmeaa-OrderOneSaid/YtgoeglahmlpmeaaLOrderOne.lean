/- The law OrderOne, walked. Conditions: the arguments read; what they are made of is in its bounds. -/
import Derived.Test.YtgoeglahmlpmeaaF8
set_option linter.unusedVariables false
set_option linter.unusedSimpArgs false
namespace Go.Proofs.Ytgoeglahmlpmeaa
open Go.RowKit
attribute [local go_sem ↓] Go.wp_at_zero Go.wp_at_succ

theorem three_at (W : World) (t1 t2 t3 : Tm) (u1 u2 u3 : Value) (h1 : Kd.tm.S W (fun _ => True) t1.l u1) (h2 : Kd.tm.S W (fun _ => True) t2.l u2) (h3 : Kd.tm.S W (fun _ => True) t3.l u3) :
    Kd.tm.S (W.alloc (.cells #[.int .u8 t1.k, .string t1.s, .int .i64 t1.n, u1, .int .u8 t2.k, .string t2.s, .int .i64 t2.n, u2, .int .u8 t3.k, .string t3.s, .int .i64 t3.n, u3] 26)) (fun _ => True) [t1, t2, t3] (.slice (some ⟨W.heap.size, 0, none⟩) 3 3) :=
  Kd.S.mono (fun _ _ => trivial) (Kd.Own.S (Kd.Own.lit (d := Kd.tm) (e := 26) (base := W.heap.size) (ok := fun _ => True) (xs := [t1, t2, t3]) [.int .u8 t1.k, .string t1.s, .int .i64 t1.n, u1, .int .u8 t2.k, .string t2.s, .int .i64 t2.n, u2, .int .u8 t3.k, .string t3.s, .int .i64 t3.n, u3] (Nat.le_refl _) rfl (by simp [maxLen]) (fun j z hz => by
    match j, hz with
    | 0, hz => simp at hz; subst hz; exact TmK_iff.2 ⟨u1, rfl, h1⟩
    | 1, hz => simp at hz; subst hz; exact TmK_iff.2 ⟨u2, rfl, h2⟩
    | 2, hz => simp at hz; subst hz; exact TmK_iff.2 ⟨u3, rfl, h3⟩
    | j + 3, hz => simp at hz)))
theorem Bx.mono {w W : World} {ok : Nat → Prop} {B : Nat} {t : Tm} {u : Value} (h : Bx w ok B t u W) : Bx w (fun _ => True) B t u W := ⟨h.below, h.box, h.args.mono (fun _ _ => trivial)⟩
set_option maxRecDepth 100000 in
set_option maxHeartbeats 16000000 in
theorem OrderOne_c (a b d : Tm) (v v' v'' : Value) (w : World) (ok : Nat → Prop) (hv : TmV w ok a v) (hv' : TmV w ok b v') (hv'' : TmV w ok d v'') (ha : a.Wf) (hb : b.Wf) (hd : d.Wf) :
    Calls Try.prog 10 #[v, v', v''] w fun e w' => e = .returned (.bool true) ∧ Below w.heap.size w w' := by
  obtain ⟨u, rfl, hS⟩ := hv
  obtain ⟨u', rfl, hS'⟩ := hv'
  obtain ⟨u'', rfl, hS''⟩ := hv''
  obtain ⟨A, c, rfl⟩ := hS.form
  obtain ⟨A', c', rfl⟩ := hS'.form
  obtain ⟨A'', c'', rfl⟩ := hS''.form
  have hwf : WfL [a, b, d] := by simp [WfL, ha, hb, hd]
  have HG := Lib.hid (fun W (h1 : Bx w (fun _ => True) w.heap.size a (.slice A a.l.length c) W) (h2 : Bx w (fun _ => True) (w.heap.size + 1) b (.slice A' b.l.length c') W) (h3 : Bx w (fun _ => True) (w.heap.size + 2) d (.slice A'' d.l.length c'') W) => Great_c [a, b, d] _ _ _ (three_at W a b d _ _ _ h1.args h2.args h3.args) hwf)
  have HB2 := Bx.two hS hS'
  have HB3 : ∀ O : Obj, O = .cells #[.int .u8 d.k, .string d.s, .int .i64 d.n, .slice A'' d.l.length c''] 26 → Bx w (fun _ => True) (w.heap.size + 2) d (.slice A'' d.l.length c'') (((w.alloc (.cells #[.int .u8 a.k, .string a.s, .int .i64 a.n, .slice A a.l.length c] 26)).alloc (.cells #[.int .u8 b.k, .string b.s, .int .i64 b.n, .slice A' b.l.length c'] 26)).alloc O) := fun O hO =>
    ⟨HB2.1.below.alloc (by simp; omega) _, by rw [heap_at _ _ _ (by simp), hO], ((hS''.below HB2.1.below).below ((Below.refl _ _).alloc (Nat.le_refl _) _)).mono (fun _ _ => trivial)⟩
  have HB := Lib.hid (And.intro (HB2.1.alloc (.cells #[.int .u8 d.k, .string d.s, .int .i64 d.n, .slice A'' d.l.length c''] 26)).mono (And.intro (HB2.2.alloc (.cells #[.int .u8 d.k, .string d.s, .int .i64 d.n, .slice A'' d.l.length c''] 26)).mono (HB3 _ rfl)))
  clear hS hS' hS'' HB2 HB3
  cases hgr : great [a, b, d] with
  | true =>
    rw [hgr] at HG
    go_enter Try.func10, Try.ntmps10
    go_wp2_with (first
      | (go_at_call 13; have hq := HG.out _ HB.out.1 HB.out.2.1 HB.out.2.2; rw [World.size_alloc, World.size_alloc, World.size_alloc] at hq; refine hq.mono ?_; clear hq HG; rintro e w1 ⟨rfl, hb1⟩; have x1 := (HB.out.1.alloc _).then hb1; have x2 := (HB.out.2.1.alloc _).then hb1; have x3 := (HB.out.2.2.alloc _).then hb1; obtain ⟨e0, e1, e2, e3, -⟩ := x1.held; obtain ⟨f0, f1, f2, f3, -⟩ := x2.held; obtain ⟨g0, g1, g2, g3, -⟩ := x3.held; clear hb1)
      | (go_at_call 32; refine (wakes02_c _).mono ?_; rintro e w5 ⟨rfl, hb5⟩))
    go_ret
    exact ⟨rfl, (x1.then hb5).below⟩
  | false =>
    rw [hgr] at HG
    have hsz := great_siz hgr
    simp only [sizL] at hsz
    have hza : a.siz ≤ 1000000 := by omega
    have hzb : b.siz ≤ 1000000 := by omega
    have hzd : d.siz ≤ 1000000 := by omega
    clear hgr hsz hwf
    have HDa := Lib.hid (fun W (hW : Bx w (fun _ => True) w.heap.size a (.slice A a.l.length c) W) => refGood_c a _ W _ hW.tmv hza ha)
    have HDb := Lib.hid (fun W (hW : Bx w (fun _ => True) (w.heap.size + 1) b (.slice A' b.l.length c') W) => refGood_c b _ W _ hW.tmv hzb hb)
    have HDd := Lib.hid (fun W (hW : Bx w (fun _ => True) (w.heap.size + 2) d (.slice A'' d.l.length c'') W) => refGood_c d _ W _ hW.tmv hzd hd)
    cases hga : a.good with
    | false =>
      rw [hga] at HDa
      go_enter Try.func10, Try.ntmps10
      go_wp2_with (first
        | (go_at_call 13; have hq := HG.out _ HB.out.1 HB.out.2.1 HB.out.2.2; rw [World.size_alloc, World.size_alloc, World.size_alloc] at hq; refine hq.mono ?_; clear hq HG; rintro e w1 ⟨rfl, hb1⟩; have x1 := (HB.out.1.alloc _).then hb1; have x2 := (HB.out.2.1.alloc _).then hb1; have x3 := (HB.out.2.2.alloc _).then hb1; obtain ⟨e0, e1, e2, e3, -⟩ := x1.held; obtain ⟨f0, f1, f2, f3, -⟩ := x2.held; obtain ⟨g0, g1, g2, g3, -⟩ := x3.held; clear hb1)
        | (go_at_call_has 25 (Value.slice A a.l.length c); refine (HDa.out _ x1).mono ?_; clear HDa; rintro e w2 ⟨rfl, hb2⟩; replace x1 := x1.then hb2; replace x2 := x2.then hb2; replace x3 := x3.then hb2; obtain ⟨f0, f1, f2, f3, -⟩ := x2.held; clear hb2)
        | (go_at_call 32; refine (wakes02_c _).mono ?_; rintro e w5 ⟨rfl, hb5⟩))
      go_ret
      exact ⟨rfl, (x1.then hb5).below⟩
    | true =>
      rw [hga] at HDa
      cases hgb : b.good with
      | false =>
        rw [hgb] at HDb
        go_enter Try.func10, Try.ntmps10
        go_wp2_with (first
          | (go_at_call 13; have hq := HG.out _ HB.out.1 HB.out.2.1 HB.out.2.2; rw [World.size_alloc, World.size_alloc, World.size_alloc] at hq; refine hq.mono ?_; clear hq HG; rintro e w1 ⟨rfl, hb1⟩; have x1 := (HB.out.1.alloc _).then hb1; have x2 := (HB.out.2.1.alloc _).then hb1; have x3 := (HB.out.2.2.alloc _).then hb1; obtain ⟨e0, e1, e2, e3, -⟩ := x1.held; obtain ⟨f0, f1, f2, f3, -⟩ := x2.held; obtain ⟨g0, g1, g2, g3, -⟩ := x3.held; clear hb1)
          | (go_at_call_has 25 (Value.slice A a.l.length c); refine (HDa.out _ x1).mono ?_; clear HDa; rintro e w2 ⟨rfl, hb2⟩; replace x1 := x1.then hb2; replace x2 := x2.then hb2; replace x3 := x3.then hb2; obtain ⟨f0, f1, f2, f3, -⟩ := x2.held; clear hb2)
          | (go_at_call_has 25 (Value.slice A' b.l.length c'); refine (HDb.out _ x2).mono ?_; clear HDb; rintro e w3 ⟨rfl, hb2⟩; replace x1 := x1.then hb2; replace x2 := x2.then hb2; replace x3 := x3.then hb2; obtain ⟨g0, g1, g2, g3, -⟩ := x3.held; clear hb2)
          | (go_at_call 32; refine (wakes02_c _).mono ?_; rintro e w5 ⟨rfl, hb5⟩))
        go_ret
        exact ⟨rfl, (x1.then hb5).below⟩
      | true =>
        rw [hgb] at HDb
        cases hgd : d.good with
        | false =>
          rw [hgd] at HDd
          go_enter Try.func10, Try.ntmps10
          go_wp2_with (first
            | (go_at_call 13; have hq := HG.out _ HB.out.1 HB.out.2.1 HB.out.2.2; rw [World.size_alloc, World.size_alloc, World.size_alloc] at hq; refine hq.mono ?_; clear hq HG; rintro e w1 ⟨rfl, hb1⟩; have x1 := (HB.out.1.alloc _).then hb1; have x2 := (HB.out.2.1.alloc _).then hb1; have x3 := (HB.out.2.2.alloc _).then hb1; obtain ⟨e0, e1, e2, e3, -⟩ := x1.held; obtain ⟨f0, f1, f2, f3, -⟩ := x2.held; obtain ⟨g0, g1, g2, g3, -⟩ := x3.held; clear hb1)
            | (go_at_call_has 25 (Value.slice A a.l.length c); refine (HDa.out _ x1).mono ?_; clear HDa; rintro e w2 ⟨rfl, hb2⟩; replace x1 := x1.then hb2; replace x2 := x2.then hb2; replace x3 := x3.then hb2; obtain ⟨f0, f1, f2, f3, -⟩ := x2.held; clear hb2)
            | (go_at_call_has 25 (Value.slice A' b.l.length c'); refine (HDb.out _ x2).mono ?_; clear HDb; rintro e w3 ⟨rfl, hb2⟩; replace x1 := x1.then hb2; replace x2 := x2.then hb2; replace x3 := x3.then hb2; obtain ⟨g0, g1, g2, g3, -⟩ := x3.held; clear hb2)
            | (go_at_call 25; refine (HDd.out _ x3).mono ?_; clear HDd; rintro e w4 ⟨rfl, hb2⟩; replace x1 := x1.then hb2; replace x2 := x2.then hb2; replace x3 := x3.then hb2; clear hb2)
            | (go_at_call 32; refine (wakes02_c _).mono ?_; rintro e w5 ⟨rfl, hb5⟩))
          go_ret
          exact ⟨rfl, (x1.then hb5).below⟩
        | true =>
          rw [hgd] at HDd
          clear hga hgb hgd
          go_enter Try.func10, Try.ntmps10
          go_wp2_with (first
            | (go_at_call 13; have hq := HG.out _ HB.out.1 HB.out.2.1 HB.out.2.2; rw [World.size_alloc, World.size_alloc, World.size_alloc] at hq; refine hq.mono ?_; clear hq HG; rintro e w1 ⟨rfl, hb1⟩; have x1 := (HB.out.1.alloc _).then hb1; have x2 := (HB.out.2.1.alloc _).then hb1; have x3 := (HB.out.2.2.alloc _).then hb1; obtain ⟨e0, e1, e2, e3, -⟩ := x1.held; obtain ⟨f0, f1, f2, f3, -⟩ := x2.held; obtain ⟨g0, g1, g2, g3, -⟩ := x3.held; clear hb1)
            | (go_at_call_has 25 (Value.slice A a.l.length c); refine (HDa.out _ x1).mono ?_; clear HDa; rintro e w2 ⟨rfl, hb2⟩; replace x1 := x1.then hb2; replace x2 := x2.then hb2; replace x3 := x3.then hb2; obtain ⟨f0, f1, f2, f3, -⟩ := x2.held; clear hb2)
            | (go_at_call_has 25 (Value.slice A' b.l.length c'); refine (HDb.out _ x2).mono ?_; clear HDb; rintro e w3 ⟨rfl, hb2⟩; replace x1 := x1.then hb2; replace x2 := x2.then hb2; replace x3 := x3.then hb2; obtain ⟨g0, g1, g2, g3, -⟩ := x3.held; clear hb2)
            | (go_at_call 25; refine (HDd.out _ x3).mono ?_; clear HDd; rintro e w4 ⟨rfl, hb2⟩; replace x1 := x1.then hb2; replace x2 := x2.then hb2; replace x3 := x3.then hb2; clear hb2))
          obtain ⟨e0, e1, e2, e3, -⟩ := x1.held
          obtain ⟨f0, f1, f2, f3, -⟩ := x2.held
          obtain ⟨g0, g1, g2, g3, -⟩ := x3.held
          have x1h := Lib.hid x1
          have x2h := Lib.hid x2
          have x3h := Lib.hid x3
          have HR1 := cmpT_cmp a b
          have HR2 := (cmpT_cmp b d).rng
          have HR3 := (cmpT_cmp a d).rng
          have HTr := cmpT_tr a b d
          have HKs := cmpT_kinds a b
          have HC1 := Lib.hid (fun W (h1 : Bx w (fun _ => True) w.heap.size a (.slice A a.l.length c) W) (h2 : Bx w (fun _ => True) (w.heap.size + 1) b (.slice A' b.l.length c') W) => Compare_c a b W _ _ _ _ h1.tmv h2.tmv)
          have HC2 := Lib.hid (fun W (h1 : Bx w (fun _ => True) (w.heap.size + 1) b (.slice A' b.l.length c') W) (h2 : Bx w (fun _ => True) (w.heap.size + 2) d (.slice A'' d.l.length c'') W) => Compare_c b d W _ _ _ _ h1.tmv h2.tmv)
          have HC3 := Lib.hid (fun W (h1 : Bx w (fun _ => True) w.heap.size a (.slice A a.l.length c) W) (h2 : Bx w (fun _ => True) (w.heap.size + 2) d (.slice A'' d.l.length c'') W) => Compare_c a d W _ _ _ _ h1.tmv h2.tmv)
          have HC4 := Lib.hid (fun W (h1 : Bx w (fun _ => True) w.heap.size a (.slice A a.l.length c) W) (h2 : Bx w (fun _ => True) (w.heap.size + 1) b (.slice A' b.l.length c') W) => Compare_c b a W _ _ _ _ h2.tmv h1.tmv)
          have HC5 := Lib.hid (fun W (h1 : Bx w (fun _ => True) w.heap.size a (.slice A a.l.length c) W) (h2 : Bx w (fun _ => True) (w.heap.size + 1) b (.slice A' b.l.length c') W) => tSame_c a b W _ _ _ _ h1.tmv h2.tmv)
          rw [HR1.neg] at HC4
          have hEQ : a.eqb b = decide (cmpT a b = 0) := by
            rw [Bool.eq_iff_iff, Tm.eqb_iff, decide_eq_true_eq]; exact HR1.zero.symm
          rw [hEQ] at HC5
          have HX1 := HR1.rng
          clear HR1 hEQ x1 x2 x3 HB
          generalize cmpT a b = x at HC1 HC4 HC5 HX1 HTr HKs
          generalize cmpT b d = y at HC2 HR2 HTr
          generalize cmpT a d = z at HC3 HR3 HTr
          have HTl := Lib.hid HTr
          have HKh := Lib.hid HKs
          have HXh := Lib.hid HX1
          have HYh := Lib.hid HR2
          have HZh := Lib.hid HR3
          clear HTr HKs HX1 HR2 HR3
          refine wp_region_held_drew (S := (fun W => W.cell? ⟨w.heap.size, 0, none⟩ = some (.int .u8 a.k) ∧ W.cell? ⟨w.heap.size, 1, none⟩ = some (.string a.s) ∧ W.cell? ⟨w.heap.size, 2, none⟩ = some (.int .i64 a.n) ∧ W.cell? ⟨w.heap.size, 3, none⟩ = some (.slice A a.l.length c) ∧ W.cell? ⟨w.heap.size + 1, 0, none⟩ = some (.int .u8 b.k) ∧ W.cell? ⟨w.heap.size + 1, 1, none⟩ = some (.string b.s) ∧ W.cell? ⟨w.heap.size + 1, 2, none⟩ = some (.int .i64 b.n) ∧ W.cell? ⟨w.heap.size + 1, 3, none⟩ = some (.slice A' b.l.length c') ∧ W.cell? ⟨w.heap.size + 2, 0, none⟩ = some (.int .u8 d.k) ∧ W.cell? ⟨w.heap.size + 2, 1, none⟩ = some (.string d.s) ∧ W.cell? ⟨w.heap.size + 2, 2, none⟩ = some (.int .i64 d.n) ∧ W.cell? ⟨w.heap.size + 2, 3, none⟩ = some (.slice A'' d.l.length c'') ∧ Bx w (fun _ => True) w.heap.size a (.slice A a.l.length c) W ∧ Bx w (fun _ => True) (w.heap.size + 1) b (.slice A' b.l.length c') W ∧ Bx w (fun _ => True) (w.heap.size + 2) d (.slice A'' d.l.length c'') W)) (by kernel_rfl) ?_ (fun hHeld => ?_)
          · exact ⟨e0, e1, e2, e3, f0, f1, f2, f3, g0, g1, g2, g3, x1h.out.drew, x2h.out.drew, x3h.out.drew⟩
          change wpAnyH _ .any _ _ _ 12 (Array.replicate 12 false) _ _
          refine wpAnyH_take (i := 0) (oi := ⟨some 31, _, _, _, _, _⟩) (v := ?_) rfl (by kernel_rfl) (by kernel_rfl) (by kernel_rfl) (fun _ _ _ h => h) (Or.inl ⟨by rfl, ?_⟩) (by assumption) ?_
          rotate_left
          · (intro w hSw; (try dsimp only at hSw); go_simp; try (with_reducible rfl))
          (try simp only [Act.put, List.setIfInBounds_toArray, List.set_cons_zero, List.set_cons_succ])
          refine wpAnyH_take (i := 1) (oi := ⟨some 32, _, _, _, _, _⟩) (v := ?_) rfl (by kernel_rfl) (by kernel_rfl) (by kernel_rfl) (fun _ _ _ h => h) (Or.inl ⟨by rfl, ?_⟩) (by assumption) ?_
          rotate_left
          · (intro w hSw; (try dsimp only at hSw); go_simp; try (with_reducible rfl))
          (try simp only [Act.put, List.setIfInBounds_toArray, List.set_cons_zero, List.set_cons_succ])
          refine wpAnyH_take (i := 3) (oi := ⟨some 34, _, _, _, _, _⟩) (v := ?_) rfl (by kernel_rfl) (by kernel_rfl) (by kernel_rfl) (fun _ _ _ h => h) (Or.inl ⟨by rfl, ?_⟩) (by assumption) ?_
          rotate_left
          · (intro w hSw; (try dsimp only at hSw); go_simp; try (with_reducible rfl))
          (try simp only [Act.put, List.setIfInBounds_toArray, List.set_cons_zero, List.set_cons_succ])
          refine wpAnyH_take (i := 4) (oi := ⟨some 35, _, _, _, _, _⟩) (v := ?_) rfl (by kernel_rfl) (by kernel_rfl) (by kernel_rfl) (fun _ _ _ h => h) (Or.inl ⟨by rfl, ?_⟩) (by assumption) ?_
          rotate_left
          · (intro w hSw; (try dsimp only at hSw); go_simp; try (with_reducible rfl))
          (try simp only [Act.put, List.setIfInBounds_toArray, List.set_cons_zero, List.set_cons_succ])
          refine wpAnyH_take (i := 6) (oi := ⟨some 37, _, _, _, _, _⟩) (v := ?_) rfl (by kernel_rfl) (by kernel_rfl) (by kernel_rfl) (fun _ _ _ h => h) (Or.inl ⟨by rfl, ?_⟩) (by assumption) ?_
          rotate_left
          · (intro w hSw; (try dsimp only at hSw); go_simp; try (with_reducible rfl))
          (try simp only [Act.put, List.setIfInBounds_toArray, List.set_cons_zero, List.set_cons_succ])
          refine wpAnyH_take (i := 7) (oi := ⟨some 38, _, _, _, _, _⟩) (v := ?_) rfl (by kernel_rfl) (by kernel_rfl) (by kernel_rfl) (fun _ _ _ h => h) (Or.inl ⟨by rfl, ?_⟩) (by assumption) ?_
          rotate_left
          · (intro w hSw; (try dsimp only at hSw); go_simp; try (with_reducible rfl))
          (try simp only [Act.put, List.setIfInBounds_toArray, List.set_cons_zero, List.set_cons_succ])
          refine wpAnyH_ready (rs := [2]) (by kernel_rfl) (by simp) ?_
          refine AllReadyH.cons (o := ⟨some 33, _, _, _, _, _⟩) rfl (fun K hK => ?_) AllReadyH.nil
          go_simp
          refine (HC1.out _ hHeld.2.2.2.2.2.2.2.2.2.2.2.2.1 hHeld.2.2.2.2.2.2.2.2.2.2.2.2.2.1).mono ?_
          rintro e w5 ⟨rfl, hb5⟩
          go_wp2_with fail
          refine hK.out _ _ (by obtain ⟨q0, q1, q2, q3, q4, q5, q6, q7, q8, q9, q10, q11, r0, r1, r2⟩ := hHeld; exact ⟨held_cell hb5 q0, held_cell hb5 q1, held_cell hb5 q2, held_cell hb5 q3, held_cell hb5 q4, held_cell hb5 q5, held_cell hb5 q6, held_cell hb5 q7, held_cell hb5 q8, held_cell hb5 q9, held_cell hb5 q10, held_cell hb5 q11, r0.then hb5, r1.then hb5, r2.then hb5⟩) (fun hHeld => ?_)
          clear hK K
          (try simp only [Act.put, List.setIfInBounds_toArray, List.set_cons_zero, List.set_cons_succ])
          refine wpAnyH_ready (rs := [5]) (by kernel_rfl) (by simp) ?_
          refine AllReadyH.cons (o := ⟨some 36, _, _, _, _, _⟩) rfl (fun K hK => ?_) AllReadyH.nil
          go_simp
          refine (HC2.out _ hHeld.2.2.2.2.2.2.2.2.2.2.2.2.2.1 hHeld.2.2.2.2.2.2.2.2.2.2.2.2.2.2).mono ?_
          rintro e w6 ⟨rfl, hb6⟩
          go_wp2_with fail
          refine hK.out _ _ (by obtain ⟨q0, q1, q2, q3, q4, q5, q6, q7, q8, q9, q10, q11, r0, r1, r2⟩ := hHeld; exact ⟨held_cell hb6 q0, held_cell hb6 q1, held_cell hb6 q2, held_cell hb6 q3, held_cell hb6 q4, held_cell hb6 q5, held_cell hb6 q6, held_cell hb6 q7, held_cell hb6 q8, held_cell hb6 q9, held_cell hb6 q10, held_cell hb6 q11, r0.then hb6, r1.then hb6, r2.then hb6⟩) (fun hHeld => ?_)
          clear hK K
          (try simp only [Act.put, List.setIfInBounds_toArray, List.set_cons_zero, List.set_cons_succ])
          refine wpAnyH_ready (rs := [8]) (by kernel_rfl) (by simp) ?_
          refine AllReadyH.cons (o := ⟨some 39, _, _, _, _, _⟩) rfl (fun K hK => ?_) AllReadyH.nil
          go_simp
          refine (HC3.out _ hHeld.2.2.2.2.2.2.2.2.2.2.2.2.1 hHeld.2.2.2.2.2.2.2.2.2.2.2.2.2.2).mono ?_
          rintro e w7 ⟨rfl, hb7⟩
          go_wp2_with fail
          refine hK.out _ _ (by obtain ⟨q0, q1, q2, q3, q4, q5, q6, q7, q8, q9, q10, q11, r0, r1, r2⟩ := hHeld; exact ⟨held_cell hb7 q0, held_cell hb7 q1, held_cell hb7 q2, held_cell hb7 q3, held_cell hb7 q4, held_cell hb7 q5, held_cell hb7 q6, held_cell hb7 q7, held_cell hb7 q8, held_cell hb7 q9, held_cell hb7 q10, held_cell hb7 q11, r0.then hb7, r1.then hb7, r2.then hb7⟩) (fun hHeld => ?_)
          clear hK K
          (try simp only [Act.put, List.setIfInBounds_toArray, List.set_cons_zero, List.set_cons_succ])
          refine wpAnyH_take (i := 9) (oi := ⟨some 7, _, _, _, _, _⟩) (v := ?_) rfl (by kernel_rfl) (by kernel_rfl) (by kernel_rfl) (fun _ _ _ h => h) (Or.inl ⟨by rfl, ?_⟩) (by assumption) ?_
          rotate_left
          · (intro w hSw; (try dsimp only at hSw); go_simp; try (with_reducible rfl))
          (try simp only [Act.put, List.setIfInBounds_toArray, List.set_cons_zero, List.set_cons_succ])
          refine wpAnyH_take (i := 10) (oi := ⟨some 8, _, _, _, _, _⟩) (v := ?_) rfl (by kernel_rfl) (by kernel_rfl) (by kernel_rfl) (fun _ _ _ h => h) (Or.inl ⟨by rfl, ?_⟩) (by assumption) ?_
          rotate_left
          · (intro w hSw; (try dsimp only at hSw); go_simp; try (with_reducible rfl))
          (try simp only [Act.put, List.setIfInBounds_toArray, List.set_cons_zero, List.set_cons_succ])
          refine wpAnyH_take (i := 11) (oi := ⟨some 9, _, _, _, _, _⟩) (v := ?_) rfl (by kernel_rfl) (by kernel_rfl) (by kernel_rfl) (fun _ _ _ h => h) (Or.inl ⟨by rfl, ?_⟩) (by assumption) ?_
          rotate_left
          · (intro w hSw; (try dsimp only at hSw); go_simp; try (with_reducible rfl))
          (try simp only [Act.put, List.setIfInBounds_toArray, List.set_cons_zero, List.set_cons_succ])
          refine wpAnyH_done (by kernel_rfl) ?_ _
          have y1 := hHeld.2.2.2.2.2.2.2.2.2.2.2.2.1
          have y2 := hHeld.2.2.2.2.2.2.2.2.2.2.2.2.2.1
          have y3 := hHeld.2.2.2.2.2.2.2.2.2.2.2.2.2.2
          clear hHeld e0 e1 e2 e3 f0 f1 f2 f3 g0 g1 g2 g3 hb5 hb6 hb7 HC1 HC2 HC3 x1h x2h x3h
          obtain ⟨e0, e1, e2, e3, -⟩ := y1.held
          obtain ⟨f0, f1, f2, f3, -⟩ := y2.held
          have hTR := HTl.out
          have q1 := hTR.le
          have q2 := hTR.ge
          clear hTR
          have hKS := HKh.out
          rcases HXh.out with rfl | rfl | rfl <;> rcases HYh.out with rfl | rfl | rfl <;> rcases HZh.out with rfl | rfl | rfl <;> first | (exfalso; omega) | skip
          all_goals
            by_cases hk : b.k ≤ a.k
            all_goals first
              | (exfalso; have := hKS (by omega); omega)
              | (clear q1 q2 hKS HXh HYh HZh HTl HKh
                 go_wp2_with (first
                   | (go_at_call 33; refine (HC4.out _ y1 y2).mono ?_; clear HC4; rintro e w9 ⟨rfl, hb9⟩; replace y1 := y1.then hb9; replace y2 := y2.then hb9; obtain ⟨e0, e1, e2, e3, -⟩ := y1.held; obtain ⟨f0, f1, f2, f3, -⟩ := y2.held; clear hb9)
                   | (go_at_call 31; refine (HC5.out _ y1 y2).mono ?_; clear HC5; rintro e w9 ⟨rfl, hb9⟩; replace y1 := y1.then hb9; replace y2 := y2.then hb9; obtain ⟨e0, e1, e2, e3, -⟩ := y1.held; obtain ⟨f0, f1, f2, f3, -⟩ := y2.held; clear hb9)
                   | (go_at_call 32; refine (wakes02_c _).mono ?_; rintro e w10 ⟨rfl, hb10⟩; replace y1 := y1.then hb10))
                 go_ret
                 exact ⟨rfl, y1.below⟩)
end Go.Proofs.Ytgoeglahmlpmeaa

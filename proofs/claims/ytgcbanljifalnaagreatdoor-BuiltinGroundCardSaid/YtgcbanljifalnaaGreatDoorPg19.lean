import Derived.Test.YtgcbanljifalnaaGreatDoorPg18
set_option linter.unusedVariables false
set_option maxRecDepth 20000
set_option linter.unusedSimpArgs false
/- The law BuiltinGround, walked. Conditions: the arguments read; what they are made of is in its bounds; the library's table of blanks is laid as its text says. -/
namespace Go.Proofs.YtgcbanljifalnaaGreatDoor
open Go.RowKit
/-- The terms in their boxes, the bindings that came in, the table. -/
structure L2 (w : World) (a b : Tm) (u u' : Value) (l : Bs) (vl : Value) (W : World) : Prop where
  b0 : Below w.heap.size w W
  a : Bt W w.heap.size a u
  b : Bt W (w.heap.size + 1) b u'
  l : Kd.bd.S W (fun _ => True) l vl
  tab : Tab W
section
variable {w W W' : World} {a b : Tm} {u u' : Value} {l : Bs} {vl : Value}
theorem L2.then (h : L2 w a b u u' l vl W) (hb : Below W.heap.size W W') : L2 w a b u u' l vl W' :=
  ⟨below_then h.b0 h.b0.size hb, h.a.below hb, h.b.below hb, bds_b h.l hb, tab_below h.tab hb⟩
theorem L2.cells (h : L2 w a b u u' l vl W) : W.cell? ⟨w.heap.size, 0, none⟩ = some (.int .u8 a.k) ∧ W.cell? ⟨w.heap.size, 1, none⟩ = some (.string a.s) ∧ W.cell? ⟨w.heap.size, 2, none⟩ = some (.int .i64 a.n) ∧ W.cell? ⟨w.heap.size, 3, none⟩ = some u ∧ W.cell? ⟨w.heap.size + 1, 0, none⟩ = some (.int .u8 b.k) ∧ W.cell? ⟨w.heap.size + 1, 1, none⟩ = some (.string b.s) ∧ W.cell? ⟨w.heap.size + 1, 2, none⟩ = some (.int .i64 b.n) ∧ W.cell? ⟨w.heap.size + 1, 3, none⟩ = some u' :=
  ⟨h.a.cells.1, h.a.cells.2.1, h.a.cells.2.2.1, h.a.cells.2.2.2, h.b.cells.1, h.b.cells.2.1, h.b.cells.2.2.1, h.b.cells.2.2.2⟩
theorem L2.new {okl ok ok' : Nat → Prop} (hl : Kd.bd.S w okl l vl) (ha : Kd.tm.S w ok a.l u) (hb : Kd.tm.S w ok' b.l u') (hT : Tab w) : L2 w a b u u' l vl ((w.alloc (.cells #[.int .u8 a.k, .string a.s, .int .i64 a.n, u] 30)).alloc (.cells #[.int .u8 b.k, .string b.s, .int .i64 b.n, u'] 30)) := by
  have h1 := (Below.refl w.heap.size w).alloc (Nat.le_refl _) (.cells #[.int .u8 a.k, .string a.s, .int .i64 a.n, u] 30)
  have h2 := (Below.refl _ (w.alloc (.cells #[.int .u8 a.k, .string a.s, .int .i64 a.n, u] 30))).alloc (Nat.le_refl _) (.cells #[.int .u8 b.k, .string b.s, .int .i64 b.n, u'] 30)
  have h3 := below_then h1 (by simp) h2
  have hn := Bt.new (W := w.alloc (.cells #[.int .u8 a.k, .string a.s, .int .i64 a.n, u] 30)) (hb.below h1)
  rw [World.size_alloc] at hn
  exact ⟨h3, (Bt.new ha).below h2, hn, (hl.below h3).mono (fun _ _ => trivial), tab_below hT h3⟩
end
theorem good_shp {t : Tm} (h : t.good = true) : t.shp = true := by
  simp only [Tm.good, Bool.and_eq_true] at h
  exact h.2
set_option maxRecDepth 100000 in
set_option maxHeartbeats 8000000 in
theorem BuiltinGround_c (l : Bs) (a b : Tm) (vl v v' : Value) (w : World) (okl ok ok' : Nat → Prop) (hvl : Kd.bd.S w okl l vl) (hv : TmV w ok a v) (hv' : TmV w ok' b v') (hl : WfB l) (ha : a.Wf) (hb : b.Wf) (hT : Tab w) :
    Calls Tryz.prog 7 #[vl, v, v'] w fun e w' => e = .returned (.bool true) ∧ Below w.heap.size w w' := by
  obtain ⟨u, rfl, hS⟩ := hv
  obtain ⟨u', rfl, hS'⟩ := hv'
  obtain ⟨A, c, rfl⟩ := hS.form
  obtain ⟨A', c', rfl⟩ := hS'.form
  obtain ⟨Al, cl, rfl⟩ := hvl.form
  have H0 := Lib.hid (L2.new hvl hS hS' hT)
  have HG := Lib.hid (fun W (h : L2 w a b (.slice A a.l.length c) (.slice A' b.l.length c') l (.slice Al l.length cl) W) => Great3_c l a _ _ W _ _ h.l h.a.tmv hl ha)
  have HG2 := Lib.hid (fun W (h : L2 w a b (.slice A a.l.length c) (.slice A' b.l.length c') l (.slice Al l.length cl) W) => Great3_c [] b _ _ W (fun _ => True) _ (Kd.S.nil _ _ _) h.b.tmv (by intro x hx; simp at hx) hb)
  have HW := Lib.hid (fun W (h : L2 w a b (.slice A a.l.length c) (.slice A' b.l.length c') l (.slice Al l.length cl) W) => wakes14_c W h.tab)
  clear hvl hS hS' hT
  cases hg1 : great3 l a with
  | true =>
    rw [hg1] at HG
    clear hg1 hl ha hb HG2
    go_enter Tryz.func7, Tryz.ntmps7
    go_wp2_with (first
      | (go_at_call 13; refine (HG.out _ H0.out).mono ?_; rintro e w1 ⟨rfl, hb1⟩; replace H0 := Lib.hid (H0.out.then hb1); clear hb1 HG; (try clear c0 c1 c2 c3 d0 d1 d2 d3); obtain ⟨c0, c1, c2, c3, d0, d1, d2, d3⟩ := H0.out.cells)
      | (go_at_call 15; refine (HW.out _ H0.out).mono ?_; rintro e w5 ⟨rfl, hb5⟩; replace H0 := Lib.hid (H0.out.then hb5); clear hb5 HW; (try clear c0 c1 c2 c3 d0 d1 d2 d3); obtain ⟨c0, c1, c2, c3, d0, d1, d2, d3⟩ := H0.out.cells))
    go_ret
    exact ⟨rfl, H0.out.b0⟩
  | false =>
    rw [hg1] at HG
    have hza := (great3_siz hg1).2
    clear hg1 hl
    cases hg2 : great3 [] b with
    | true =>
      rw [hg2] at HG2
      clear hg2 ha hb hza
      go_enter Tryz.func7, Tryz.ntmps7
      go_wp2_with (first
        | (go_at_call 13; refine (HG.out _ H0.out).mono ?_; rintro e w1 ⟨rfl, hb1⟩; replace H0 := Lib.hid (H0.out.then hb1); clear hb1 HG; (try clear c0 c1 c2 c3 d0 d1 d2 d3); obtain ⟨c0, c1, c2, c3, d0, d1, d2, d3⟩ := H0.out.cells)
        | (go_at_call 13; refine (HG2.out _ H0.out).mono ?_; rintro e w2 ⟨rfl, hb2⟩; replace H0 := Lib.hid (H0.out.then hb2); clear hb2 HG2; (try clear c0 c1 c2 c3 d0 d1 d2 d3); obtain ⟨c0, c1, c2, c3, d0, d1, d2, d3⟩ := H0.out.cells)
        | (go_at_call 15; refine (HW.out _ H0.out).mono ?_; rintro e w5 ⟨rfl, hb5⟩; replace H0 := Lib.hid (H0.out.then hb5); clear hb5 HW; (try clear c0 c1 c2 c3 d0 d1 d2 d3); obtain ⟨c0, c1, c2, c3, d0, d1, d2, d3⟩ := H0.out.cells))
      go_ret
      exact ⟨rfl, H0.out.b0⟩
    | false =>
      rw [hg2] at HG2
      have hzb := (great3_siz hg2).2
      clear hg2
      have HA := Lib.hid (fun W (h : L2 w a b (.slice A a.l.length c) (.slice A' b.l.length c') l (.slice Al l.length cl) W) => refGood_c a _ W _ h.a.tmv (by omega) ha)
      have HB := Lib.hid (fun W (h : L2 w a b (.slice A a.l.length c) (.slice A' b.l.length c') l (.slice Al l.length cl) W) => refGood_c b _ W _ h.b.tmv (by omega) hb)
      cases hga : a.good with
      | false =>
        rw [hga] at HA
        clear hga ha hb hza hzb HB
        go_enter Tryz.func7, Tryz.ntmps7
        go_wp2_with (first
          | (go_at_call 13; refine (HG.out _ H0.out).mono ?_; rintro e w1 ⟨rfl, hb1⟩; replace H0 := Lib.hid (H0.out.then hb1); clear hb1 HG; (try clear c0 c1 c2 c3 d0 d1 d2 d3); obtain ⟨c0, c1, c2, c3, d0, d1, d2, d3⟩ := H0.out.cells)
          | (go_at_call 13; refine (HG2.out _ H0.out).mono ?_; rintro e w2 ⟨rfl, hb2⟩; replace H0 := Lib.hid (H0.out.then hb2); clear hb2 HG2; (try clear c0 c1 c2 c3 d0 d1 d2 d3); obtain ⟨c0, c1, c2, c3, d0, d1, d2, d3⟩ := H0.out.cells)
          | (go_at_call 25; refine (HA.out _ H0.out).mono ?_; rintro e w3 ⟨rfl, hb3⟩; replace H0 := Lib.hid (H0.out.then hb3); clear hb3 HA; (try clear c0 c1 c2 c3 d0 d1 d2 d3); obtain ⟨c0, c1, c2, c3, d0, d1, d2, d3⟩ := H0.out.cells)
          | (go_at_call 15; refine (HW.out _ H0.out).mono ?_; rintro e w5 ⟨rfl, hb5⟩; replace H0 := Lib.hid (H0.out.then hb5); clear hb5 HW; (try clear c0 c1 c2 c3 d0 d1 d2 d3); obtain ⟨c0, c1, c2, c3, d0, d1, d2, d3⟩ := H0.out.cells))
        go_ret
        exact ⟨rfl, H0.out.b0⟩
      | true =>
        rw [hga] at HA
        cases hgb : b.good with
        | false =>
          rw [hgb] at HB
          clear hga hgb ha hb hza hzb
          go_enter Tryz.func7, Tryz.ntmps7
          go_wp2_with (first
            | (go_at_call 13; refine (HG.out _ H0.out).mono ?_; rintro e w1 ⟨rfl, hb1⟩; replace H0 := Lib.hid (H0.out.then hb1); clear hb1 HG; (try clear c0 c1 c2 c3 d0 d1 d2 d3); obtain ⟨c0, c1, c2, c3, d0, d1, d2, d3⟩ := H0.out.cells)
            | (go_at_call 13; refine (HG2.out _ H0.out).mono ?_; rintro e w2 ⟨rfl, hb2⟩; replace H0 := Lib.hid (H0.out.then hb2); clear hb2 HG2; (try clear c0 c1 c2 c3 d0 d1 d2 d3); obtain ⟨c0, c1, c2, c3, d0, d1, d2, d3⟩ := H0.out.cells)
            | (go_at_call 25; refine (HA.out _ H0.out).mono ?_; rintro e w3 ⟨rfl, hb3⟩; replace H0 := Lib.hid (H0.out.then hb3); clear hb3 HA; (try clear c0 c1 c2 c3 d0 d1 d2 d3); obtain ⟨c0, c1, c2, c3, d0, d1, d2, d3⟩ := H0.out.cells)
            | (go_at_call 25; refine (HB.out _ H0.out).mono ?_; rintro e w4 ⟨rfl, hb4⟩; replace H0 := Lib.hid (H0.out.then hb4); clear hb4 HB; (try clear c0 c1 c2 c3 d0 d1 d2 d3); obtain ⟨c0, c1, c2, c3, d0, d1, d2, d3⟩ := H0.out.cells)
            | (go_at_call 15; refine (HW.out _ H0.out).mono ?_; rintro e w5 ⟨rfl, hb5⟩; replace H0 := Lib.hid (H0.out.then hb5); clear hb5 HW; (try clear c0 c1 c2 c3 d0 d1 d2 d3); obtain ⟨c0, c1, c2, c3, d0, d1, d2, d3⟩ := H0.out.cells))
          go_ret
          exact ⟨rfl, H0.out.b0⟩
        | true =>
          rw [hgb] at HB
          have hcmp := ord_cmp a b (good_shp hga) (good_shp hgb)
          have hneg := ord_neg a b
          have hrng := (cmpT_cmp a b).rng
          have hgr1 := ord_ground a b
          have hgr2 := ord_ground' a b
          have HO1 := Lib.hid (fun W (h : L2 w a b (.slice A a.l.length c) (.slice A' b.l.length c') l (.slice Al l.length cl) W) => ord_c a b W _ _ _ _ h.a.tmv h.b.tmv)
          have HO2 := Lib.hid (fun W (h : L2 w a b (.slice A a.l.length c) (.slice A' b.l.length c') l (.slice Al l.length cl) W) => ord_c b a W _ _ _ _ h.b.tmv h.a.tmv)
          have HR1 := Lib.hid (fun W (h : L2 w a b (.slice A a.l.length c) (.slice A' b.l.length c') l (.slice Al l.length cl) W) => Ground_c a _ W _ h.a.tmv (by omega))
          have HR2 := Lib.hid (fun W (h : L2 w a b (.slice A a.l.length c) (.slice A' b.l.length c') l (.slice Al l.length cl) W) => Ground_c b _ W _ h.b.tmv (by omega))
          have HC := Lib.hid (fun W (h : L2 w a b (.slice A a.l.length c) (.slice A' b.l.length c') l (.slice Al l.length cl) W) => Compare_c a b W _ _ _ _ h.a.tmv h.b.tmv)
          rw [hneg] at HO2
          clear hneg hga hgb ha hb hza hzb
          generalize cmpT a b = m at hcmp hrng HC
          generalize ordT a b = ck at hcmp hgr1 hgr2 HO1 HO2
          obtain ⟨x, k⟩ := ck
          simp only at hcmp hgr1 hgr2 HO1 HO2
          generalize hda : decide (a.occ = []) = ga at HR1
          generalize hdb : decide (b.occ = []) = gb at HR2
          cases k with
          | true =>
            obtain rfl := hcmp.1 rfl
            clear hcmp hgr1 hgr2 hda hdb
            cases ga
            · cases gb
              · rcases hrng with rfl | rfl | rfl
                all_goals
                  go_enter Tryz.func7, Tryz.ntmps7
                  go_wp2_with (first
                    | (go_at_call 13; refine (HG.out _ H0.out).mono ?_; rintro e w1 ⟨rfl, hb1⟩; replace H0 := Lib.hid (H0.out.then hb1); clear hb1 HG; (try clear c0 c1 c2 c3 d0 d1 d2 d3); obtain ⟨c0, c1, c2, c3, d0, d1, d2, d3⟩ := H0.out.cells)
                    | (go_at_call 13; refine (HG2.out _ H0.out).mono ?_; rintro e w2 ⟨rfl, hb2⟩; replace H0 := Lib.hid (H0.out.then hb2); clear hb2 HG2; (try clear c0 c1 c2 c3 d0 d1 d2 d3); obtain ⟨c0, c1, c2, c3, d0, d1, d2, d3⟩ := H0.out.cells)
                    | (go_at_call 25; refine (HA.out _ H0.out).mono ?_; rintro e w3 ⟨rfl, hb3⟩; replace H0 := Lib.hid (H0.out.then hb3); clear hb3 HA; (try clear c0 c1 c2 c3 d0 d1 d2 d3); obtain ⟨c0, c1, c2, c3, d0, d1, d2, d3⟩ := H0.out.cells)
                    | (go_at_call 25; refine (HB.out _ H0.out).mono ?_; rintro e w4 ⟨rfl, hb4⟩; replace H0 := Lib.hid (H0.out.then hb4); clear hb4 HB; (try clear c0 c1 c2 c3 d0 d1 d2 d3); obtain ⟨c0, c1, c2, c3, d0, d1, d2, d3⟩ := H0.out.cells)
                    | (go_at_call 31; refine (HO1.out _ H0.out).mono ?_; rintro e w6 ⟨rfl, hb6⟩; replace H0 := Lib.hid (H0.out.then hb6); clear hb6 HO1; (try clear c0 c1 c2 c3 d0 d1 d2 d3); obtain ⟨c0, c1, c2, c3, d0, d1, d2, d3⟩ := H0.out.cells)
                    | (go_at_call 31; refine (HO2.out _ H0.out).mono ?_; rintro e w7 ⟨rfl, hb7⟩; replace H0 := Lib.hid (H0.out.then hb7); clear hb7 HO2; (try clear c0 c1 c2 c3 d0 d1 d2 d3); obtain ⟨c0, c1, c2, c3, d0, d1, d2, d3⟩ := H0.out.cells)
                    | (go_at_call 32; refine (HR1.out _ H0.out).mono ?_; rintro e w8 ⟨rfl, hb8⟩; replace H0 := Lib.hid (H0.out.then hb8); clear hb8 HR1; (try clear c0 c1 c2 c3 d0 d1 d2 d3); obtain ⟨c0, c1, c2, c3, d0, d1, d2, d3⟩ := H0.out.cells)
                    | (go_at_call 32; refine (HR2.out _ H0.out).mono ?_; rintro e w9 ⟨rfl, hb9⟩; replace H0 := Lib.hid (H0.out.then hb9); clear hb9 HR2; (try clear c0 c1 c2 c3 d0 d1 d2 d3); obtain ⟨c0, c1, c2, c3, d0, d1, d2, d3⟩ := H0.out.cells)
                    | (go_at_call 33; refine (HC.out _ H0.out).mono ?_; rintro e w10 ⟨rfl, hb10⟩; replace H0 := Lib.hid (H0.out.then hb10); clear hb10 HC; (try clear c0 c1 c2 c3 d0 d1 d2 d3); obtain ⟨c0, c1, c2, c3, d0, d1, d2, d3⟩ := H0.out.cells)
                    | (go_at_call 15; refine (HW.out _ H0.out).mono ?_; rintro e w5 ⟨rfl, hb5⟩; replace H0 := Lib.hid (H0.out.then hb5); clear hb5 HW; (try clear c0 c1 c2 c3 d0 d1 d2 d3); obtain ⟨c0, c1, c2, c3, d0, d1, d2, d3⟩ := H0.out.cells))
                  go_ret
                  exact ⟨rfl, H0.out.b0⟩
              · rcases hrng with rfl | rfl | rfl
                all_goals
                  go_enter Tryz.func7, Tryz.ntmps7
                  go_wp2_with (first
                    | (go_at_call 13; refine (HG.out _ H0.out).mono ?_; rintro e w1 ⟨rfl, hb1⟩; replace H0 := Lib.hid (H0.out.then hb1); clear hb1 HG; (try clear c0 c1 c2 c3 d0 d1 d2 d3); obtain ⟨c0, c1, c2, c3, d0, d1, d2, d3⟩ := H0.out.cells)
                    | (go_at_call 13; refine (HG2.out _ H0.out).mono ?_; rintro e w2 ⟨rfl, hb2⟩; replace H0 := Lib.hid (H0.out.then hb2); clear hb2 HG2; (try clear c0 c1 c2 c3 d0 d1 d2 d3); obtain ⟨c0, c1, c2, c3, d0, d1, d2, d3⟩ := H0.out.cells)
                    | (go_at_call 25; refine (HA.out _ H0.out).mono ?_; rintro e w3 ⟨rfl, hb3⟩; replace H0 := Lib.hid (H0.out.then hb3); clear hb3 HA; (try clear c0 c1 c2 c3 d0 d1 d2 d3); obtain ⟨c0, c1, c2, c3, d0, d1, d2, d3⟩ := H0.out.cells)
                    | (go_at_call 25; refine (HB.out _ H0.out).mono ?_; rintro e w4 ⟨rfl, hb4⟩; replace H0 := Lib.hid (H0.out.then hb4); clear hb4 HB; (try clear c0 c1 c2 c3 d0 d1 d2 d3); obtain ⟨c0, c1, c2, c3, d0, d1, d2, d3⟩ := H0.out.cells)
                    | (go_at_call 31; refine (HO1.out _ H0.out).mono ?_; rintro e w6 ⟨rfl, hb6⟩; replace H0 := Lib.hid (H0.out.then hb6); clear hb6 HO1; (try clear c0 c1 c2 c3 d0 d1 d2 d3); obtain ⟨c0, c1, c2, c3, d0, d1, d2, d3⟩ := H0.out.cells)
                    | (go_at_call 31; refine (HO2.out _ H0.out).mono ?_; rintro e w7 ⟨rfl, hb7⟩; replace H0 := Lib.hid (H0.out.then hb7); clear hb7 HO2; (try clear c0 c1 c2 c3 d0 d1 d2 d3); obtain ⟨c0, c1, c2, c3, d0, d1, d2, d3⟩ := H0.out.cells)
                    | (go_at_call 32; refine (HR1.out _ H0.out).mono ?_; rintro e w8 ⟨rfl, hb8⟩; replace H0 := Lib.hid (H0.out.then hb8); clear hb8 HR1; (try clear c0 c1 c2 c3 d0 d1 d2 d3); obtain ⟨c0, c1, c2, c3, d0, d1, d2, d3⟩ := H0.out.cells)
                    | (go_at_call 32; refine (HR2.out _ H0.out).mono ?_; rintro e w9 ⟨rfl, hb9⟩; replace H0 := Lib.hid (H0.out.then hb9); clear hb9 HR2; (try clear c0 c1 c2 c3 d0 d1 d2 d3); obtain ⟨c0, c1, c2, c3, d0, d1, d2, d3⟩ := H0.out.cells)
                    | (go_at_call 33; refine (HC.out _ H0.out).mono ?_; rintro e w10 ⟨rfl, hb10⟩; replace H0 := Lib.hid (H0.out.then hb10); clear hb10 HC; (try clear c0 c1 c2 c3 d0 d1 d2 d3); obtain ⟨c0, c1, c2, c3, d0, d1, d2, d3⟩ := H0.out.cells)
                    | (go_at_call 15; refine (HW.out _ H0.out).mono ?_; rintro e w5 ⟨rfl, hb5⟩; replace H0 := Lib.hid (H0.out.then hb5); clear hb5 HW; (try clear c0 c1 c2 c3 d0 d1 d2 d3); obtain ⟨c0, c1, c2, c3, d0, d1, d2, d3⟩ := H0.out.cells))
                  go_ret
                  exact ⟨rfl, H0.out.b0⟩
            · clear HR2
              rcases hrng with rfl | rfl | rfl
              all_goals
                go_enter Tryz.func7, Tryz.ntmps7
                go_wp2_with (first
                  | (go_at_call 13; refine (HG.out _ H0.out).mono ?_; rintro e w1 ⟨rfl, hb1⟩; replace H0 := Lib.hid (H0.out.then hb1); clear hb1 HG; (try clear c0 c1 c2 c3 d0 d1 d2 d3); obtain ⟨c0, c1, c2, c3, d0, d1, d2, d3⟩ := H0.out.cells)
                  | (go_at_call 13; refine (HG2.out _ H0.out).mono ?_; rintro e w2 ⟨rfl, hb2⟩; replace H0 := Lib.hid (H0.out.then hb2); clear hb2 HG2; (try clear c0 c1 c2 c3 d0 d1 d2 d3); obtain ⟨c0, c1, c2, c3, d0, d1, d2, d3⟩ := H0.out.cells)
                  | (go_at_call 25; refine (HA.out _ H0.out).mono ?_; rintro e w3 ⟨rfl, hb3⟩; replace H0 := Lib.hid (H0.out.then hb3); clear hb3 HA; (try clear c0 c1 c2 c3 d0 d1 d2 d3); obtain ⟨c0, c1, c2, c3, d0, d1, d2, d3⟩ := H0.out.cells)
                  | (go_at_call 25; refine (HB.out _ H0.out).mono ?_; rintro e w4 ⟨rfl, hb4⟩; replace H0 := Lib.hid (H0.out.then hb4); clear hb4 HB; (try clear c0 c1 c2 c3 d0 d1 d2 d3); obtain ⟨c0, c1, c2, c3, d0, d1, d2, d3⟩ := H0.out.cells)
                  | (go_at_call 31; refine (HO1.out _ H0.out).mono ?_; rintro e w6 ⟨rfl, hb6⟩; replace H0 := Lib.hid (H0.out.then hb6); clear hb6 HO1; (try clear c0 c1 c2 c3 d0 d1 d2 d3); obtain ⟨c0, c1, c2, c3, d0, d1, d2, d3⟩ := H0.out.cells)
                  | (go_at_call 31; refine (HO2.out _ H0.out).mono ?_; rintro e w7 ⟨rfl, hb7⟩; replace H0 := Lib.hid (H0.out.then hb7); clear hb7 HO2; (try clear c0 c1 c2 c3 d0 d1 d2 d3); obtain ⟨c0, c1, c2, c3, d0, d1, d2, d3⟩ := H0.out.cells)
                  | (go_at_call 32; refine (HR1.out _ H0.out).mono ?_; rintro e w8 ⟨rfl, hb8⟩; replace H0 := Lib.hid (H0.out.then hb8); clear hb8 HR1; (try clear c0 c1 c2 c3 d0 d1 d2 d3); obtain ⟨c0, c1, c2, c3, d0, d1, d2, d3⟩ := H0.out.cells)
                  | (go_at_call 33; refine (HC.out _ H0.out).mono ?_; rintro e w10 ⟨rfl, hb10⟩; replace H0 := Lib.hid (H0.out.then hb10); clear hb10 HC; (try clear c0 c1 c2 c3 d0 d1 d2 d3); obtain ⟨c0, c1, c2, c3, d0, d1, d2, d3⟩ := H0.out.cells)
                  | (go_at_call 15; refine (HW.out _ H0.out).mono ?_; rintro e w5 ⟨rfl, hb5⟩; replace H0 := Lib.hid (H0.out.then hb5); clear hb5 HW; (try clear c0 c1 c2 c3 d0 d1 d2 d3); obtain ⟨c0, c1, c2, c3, d0, d1, d2, d3⟩ := H0.out.cells))
                go_ret
                exact ⟨rfl, H0.out.b0⟩
          | false =>
            obtain rfl := hcmp.2 rfl
            obtain rfl : ga = false := by
              rw [← hda, decide_eq_false_iff_not]
              intro h
              simpa using hgr1 h
            obtain rfl : gb = false := by
              rw [← hdb, decide_eq_false_iff_not]
              intro h
              simpa using hgr2 h
            clear hcmp hgr1 hgr2 hda hdb hrng HC
            go_enter Tryz.func7, Tryz.ntmps7
            go_wp2_with (first
              | (go_at_call 13; refine (HG.out _ H0.out).mono ?_; rintro e w1 ⟨rfl, hb1⟩; replace H0 := Lib.hid (H0.out.then hb1); clear hb1 HG; (try clear c0 c1 c2 c3 d0 d1 d2 d3); obtain ⟨c0, c1, c2, c3, d0, d1, d2, d3⟩ := H0.out.cells)
              | (go_at_call 13; refine (HG2.out _ H0.out).mono ?_; rintro e w2 ⟨rfl, hb2⟩; replace H0 := Lib.hid (H0.out.then hb2); clear hb2 HG2; (try clear c0 c1 c2 c3 d0 d1 d2 d3); obtain ⟨c0, c1, c2, c3, d0, d1, d2, d3⟩ := H0.out.cells)
              | (go_at_call 25; refine (HA.out _ H0.out).mono ?_; rintro e w3 ⟨rfl, hb3⟩; replace H0 := Lib.hid (H0.out.then hb3); clear hb3 HA; (try clear c0 c1 c2 c3 d0 d1 d2 d3); obtain ⟨c0, c1, c2, c3, d0, d1, d2, d3⟩ := H0.out.cells)
              | (go_at_call 25; refine (HB.out _ H0.out).mono ?_; rintro e w4 ⟨rfl, hb4⟩; replace H0 := Lib.hid (H0.out.then hb4); clear hb4 HB; (try clear c0 c1 c2 c3 d0 d1 d2 d3); obtain ⟨c0, c1, c2, c3, d0, d1, d2, d3⟩ := H0.out.cells)
              | (go_at_call 31; refine (HO1.out _ H0.out).mono ?_; rintro e w6 ⟨rfl, hb6⟩; replace H0 := Lib.hid (H0.out.then hb6); clear hb6 HO1; (try clear c0 c1 c2 c3 d0 d1 d2 d3); obtain ⟨c0, c1, c2, c3, d0, d1, d2, d3⟩ := H0.out.cells)
              | (go_at_call 31; refine (HO2.out _ H0.out).mono ?_; rintro e w7 ⟨rfl, hb7⟩; replace H0 := Lib.hid (H0.out.then hb7); clear hb7 HO2; (try clear c0 c1 c2 c3 d0 d1 d2 d3); obtain ⟨c0, c1, c2, c3, d0, d1, d2, d3⟩ := H0.out.cells)
              | (go_at_call 32; refine (HR1.out _ H0.out).mono ?_; rintro e w8 ⟨rfl, hb8⟩; replace H0 := Lib.hid (H0.out.then hb8); clear hb8 HR1; (try clear c0 c1 c2 c3 d0 d1 d2 d3); obtain ⟨c0, c1, c2, c3, d0, d1, d2, d3⟩ := H0.out.cells)
              | (go_at_call 32; refine (HR2.out _ H0.out).mono ?_; rintro e w9 ⟨rfl, hb9⟩; replace H0 := Lib.hid (H0.out.then hb9); clear hb9 HR2; (try clear c0 c1 c2 c3 d0 d1 d2 d3); obtain ⟨c0, c1, c2, c3, d0, d1, d2, d3⟩ := H0.out.cells)
              | (go_at_call 15; refine (HW.out _ H0.out).mono ?_; rintro e w5 ⟨rfl, hb5⟩; replace H0 := Lib.hid (H0.out.then hb5); clear hb5 HW; (try clear c0 c1 c2 c3 d0 d1 d2 d3); obtain ⟨c0, c1, c2, c3, d0, d1, d2, d3⟩ := H0.out.cells))
            go_ret
            exact ⟨rfl, H0.out.b0⟩
end Go.Proofs.YtgcbanljifalnaaGreatDoor

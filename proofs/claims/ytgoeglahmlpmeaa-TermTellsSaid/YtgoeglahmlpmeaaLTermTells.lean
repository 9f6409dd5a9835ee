/- The law TermTells, walked. Conditions: the arguments read; what they are made of is in its bounds. -/
import Derived.Test.YtgoeglahmlpmeaaL1
set_option linter.unusedVariables false
set_option linter.unusedSimpArgs false
namespace Go.Proofs.Ytgoeglahmlpmeaa
open Go.RowKit
attribute [local go_sem ↓] Go.wp_at_zero Go.wp_at_succ

/-- The state of the law's last region. -/
def TT (w : World) (ok : Nat → Prop) (a b : Tm) (u u' v5 v6 : Value) (W : World) : Prop :=
  W.cell? ⟨w.heap.size, 0, none⟩ = some (.int .u8 a.k) ∧ W.cell? ⟨w.heap.size, 1, none⟩ = some (.string a.s) ∧ W.cell? ⟨w.heap.size, 2, none⟩ = some (.int .i64 a.n) ∧ W.cell? ⟨w.heap.size, 3, none⟩ = some u ∧
  W.cell? ⟨w.heap.size + 1, 0, none⟩ = some (.int .u8 b.k) ∧ W.cell? ⟨w.heap.size + 1, 1, none⟩ = some (.string b.s) ∧ W.cell? ⟨w.heap.size + 1, 2, none⟩ = some (.int .i64 b.n) ∧ W.cell? ⟨w.heap.size + 1, 3, none⟩ = some u' ∧
  Bx w ok w.heap.size a u W ∧ Bx w ok (w.heap.size + 1) b u' W ∧ Kd.tm.S W (fun _ => True) [a, b] v5 ∧ Kd.tm.S W (fun _ => True) [a] v6
theorem TT.of {w : World} {ok : Nat → Prop} {a b : Tm} {u u' v5 v6 : Value} {W : World} (h1 : Bx w ok w.heap.size a u W) (h2 : Bx w ok (w.heap.size + 1) b u' W) (h3 : Kd.tm.S W (fun _ => True) [a, b] v5) (h4 : Kd.tm.S W (fun _ => True) [a] v6) : TT w ok a b u u' v5 v6 W :=
  let ⟨c0, c1, c2, c3, _⟩ := h1.held
  let ⟨d0, d1, d2, d3, _⟩ := h2.held
  ⟨c0, c1, c2, c3, d0, d1, d2, d3, h1, h2, h3, h4⟩
theorem TT.then {w : World} {ok : Nat → Prop} {a b : Tm} {u u' v5 v6 : Value} {W W' : World} (h : TT w ok a b u u' v5 v6 W) (hb : Below W.heap.size W W') : TT w ok a b u u' v5 v6 W' :=
  let ⟨_, _, _, _, _, _, _, _, h1, h2, h3, h4⟩ := h
  .of (h1.then hb) (h2.then hb) (h3.below hb) (h4.below hb)
theorem TT.alloc {w : World} {ok : Nat → Prop} {a b : Tm} {u u' v5 v6 : Value} {W : World} (h : TT w ok a b u u' v5 v6 W) (O : Obj) : TT w ok a b u u' v5 v6 (W.alloc O) := h.then ((Below.refl _ W).alloc (Nat.le_refl _) O)
theorem TT.drew {w : World} {ok : Nat → Prop} {a b : Tm} {u u' v5 v6 : Value} {W : World} (h : TT w ok a b u u' v5 v6 W) : TT w ok a b u u' v5 v6 W.drew := h.then (Below.refl _ W).drew
section
variable {w : World} {ok : Nat → Prop} {a b : Tm} {u u' v5 v6 : Value} {W : World} (h : TT w ok a b u u' v5 v6 W)
include h
theorem TT.b1 : TmV W ok a (.agg #[.int .u8 a.k, .string a.s, .int .i64 a.n, u]) := h.2.2.2.2.2.2.2.2.1.tmv
theorem TT.b2 : TmV W ok b (.agg #[.int .u8 b.k, .string b.s, .int .i64 b.n, u']) := h.2.2.2.2.2.2.2.2.2.1.tmv
theorem TT.a1 : Kd.tm.S W ok a.l u := h.2.2.2.2.2.2.2.2.1.args
theorem TT.a2 : Kd.tm.S W ok b.l u' := h.2.2.2.2.2.2.2.2.2.1.args
theorem TT.l5 : Kd.tm.S W (fun _ => True) [a, b] v5 := h.2.2.2.2.2.2.2.2.2.2.1
theorem TT.l6 : Kd.tm.S W (fun _ => True) [a] v6 := h.2.2.2.2.2.2.2.2.2.2.2
theorem TT.below : Below w.heap.size w W := h.2.2.2.2.2.2.2.2.1.below
theorem TT.lit : Kd.tm.S (W.alloc (.cells #[.int .u8 a.k, .string a.s, .int .i64 a.n, u, .int .u8 b.k, .string b.s, .int .i64 b.n, u'] 26)) (fun b => ok b ∨ w.heap.size ≤ b) [a, b] (.slice (some ⟨W.heap.size, 0, none⟩) 2 2) :=
  lit2 h.2.2.2.2.2.2.2.2.1.args h.2.2.2.2.2.2.2.2.2.1.args h.below
end

set_option maxHeartbeats 4000000 in
theorem TermTells_c (a b : Tm) (v v' : Value) (w : World) (ok : Nat → Prop) (hv : TmV w ok a v) (hv' : TmV w ok b v') (ha : a.Wf) (hb : b.Wf) :
    Calls Try.prog 5 #[v, v'] w fun e w' => e = .returned (.bool true) ∧ Below w.heap.size w w' := by
  obtain ⟨u, rfl, hS⟩ := hv
  obtain ⟨u', rfl, hS'⟩ := hv'
  obtain ⟨A, c, rfl⟩ := hS.form
  obtain ⟨A', c', rfl⟩ := hS'.form
  have hwf : WfL [a, b] := by simp [WfL, ha, hb]
  have HG := Lib.hid (fun W (hW : Below w.heap.size w W) => Great_c [a, b] _ _ _ (lit2 (w := w) (W := W) (ok := ok) (hS.below hW) (hS'.below hW) hW) hwf)
  have HB := Lib.hid (Bx.two hS hS')
  cases hgr : great [a, b] with
  | true =>
    rw [hgr] at HG
    clear hS hS' hgr
    go_enter Try.func5, Try.ntmps5
    go_wp2_with (first
      | (go_at_call 13; have hq := HG.out _ HB.out.1.below; rw [World.size_alloc, World.size_alloc] at hq; refine hq.mono ?_; clear hq HG; rintro e w1 ⟨rfl, hb1⟩; obtain ⟨x1, x2⟩ := HB.out; clear HB; replace x1 := (x1.alloc _).then hb1; replace x2 := (x2.alloc _).then hb1; clear hb1)
      | (go_at_call 14; refine (wakes_c _).mono ?_; rintro e w2 ⟨rfl, hb2⟩; replace x1 := x1.then hb2))
    go_ret
    exact ⟨rfl, x1.below⟩
  | false =>
    rw [hgr] at HG
    have hsz := great_siz hgr
    simp only [sizL] at hsz
    clear hS hS' hgr
    go_enter Try.func5, Try.ntmps5
    go_wp2_with (first
      | (go_at_call 13; have hq := HG.out _ HB.out.1.below; rw [World.size_alloc, World.size_alloc] at hq; refine hq.mono ?_; clear hq HG; rintro e w1 ⟨rfl, hb1⟩; obtain ⟨x1, x2⟩ := HB.out; clear HB; replace x1 := (x1.alloc _).then hb1; replace x2 := (x2.alloc _).then hb1; clear hb1; obtain ⟨c0, c1, c2, c3, -⟩ := x1.held; obtain ⟨d0, d1, d2, d3, -⟩ := x2.held))
    have hl5 := Kd.S.mono (ok' := fun _ => True) (fun _ _ => trivial) (lit2 (w := w) (W := w1) (ok := ok) (t := a) (t' := b) x1.args x2.args x1.below)
    have hl6 : Kd.tm.S _ _ [a] _ := Kd.S.take (m := 1) hl5 (by simp)
    have hT := TT.of (x1.alloc _) (x2.alloc _) hl5 hl6
    have hza : a.siz ≤ 1000000 := by omega
    have hz1 : sizL [a] ≤ 1000000 := by simp only [sizL]; omega
    have hz2 : sizL [a, b] ≤ 1000000 := by simp only [sizL]; omega
    clear x1 x2 c0 c1 c2 c3 d0 d1 d2 d3 hl5 hl6 hwf
    go_region_held3 (fun W => W.cell? ⟨w.heap.size, 0, none⟩ = some (.int .u8 a.k) ∧ W.cell? ⟨w.heap.size, 1, none⟩ = some (.string a.s) ∧ W.cell? ⟨w.heap.size, 2, none⟩ = some (.int .i64 a.n) ∧ W.cell? ⟨w.heap.size, 3, none⟩ = some (.slice A a.l.length c) ∧
        W.cell? ⟨w.heap.size + 1, 0, none⟩ = some (.int .u8 b.k) ∧ W.cell? ⟨w.heap.size + 1, 1, none⟩ = some (.string b.s) ∧ W.cell? ⟨w.heap.size + 1, 2, none⟩ = some (.int .i64 b.n) ∧ W.cell? ⟨w.heap.size + 1, 3, none⟩ = some (.slice A' b.l.length c') ∧
        Bx w ok w.heap.size a (.slice A a.l.length c) W ∧ Bx w ok (w.heap.size + 1) b (.slice A' b.l.length c') W ∧ Kd.tm.S W (fun _ => True) [a, b] (.slice (some ⟨w1.heap.size, 0, none⟩) 2 2) ∧ Kd.tm.S W (fun _ => True) [a] (.slice (some ⟨w1.heap.size, 0, none⟩) 1 2))
      ((first | exact TT.then (by assumption) (by assumption) | exact TT.alloc (by assumption) _ | exact TT.drew (by assumption)))
      ((first
        | (go_at_call 24; refine (Good_c a _ _ ok (TT.b1 (by assumption)) ha).mono ?_; rintro e w2 ⟨rfl, hb2⟩)
        | (go_at_call 25; refine (refGood_c a _ _ ok (TT.b1 (by assumption)) hza ha).mono ?_; rintro e w2 ⟨rfl, hb2⟩)
        | (go_at_call 26; refine (termSize_c a _ _ ok (TT.b1 (by assumption)) hza).mono ?_; rintro e w2 ⟨rfl, hb2⟩)
        | (go_at_call 27; refine (Size_c a _ _ ok (TT.b1 (by assumption)) hza).mono ?_; rintro e w2 ⟨rfl, hb2⟩)
        | (go_at_call 28; refine (termDepth_c a _ _ ok (TT.b1 (by assumption)) hza).mono ?_; rintro e w2 ⟨rfl, hb2⟩)
        | (go_at_call 29; refine (Depth_c a _ _ ok (TT.b1 (by assumption)) hza).mono ?_; rintro e w2 ⟨rfl, hb2⟩)
        | (go_at_call 20; refine (Vars_s [a, b] _ _ _ (lit2_at (heap_new _ _) (TT.a1 (by assumption)) (TT.a2 (by assumption))) hz2).mono ?_; rintro e w2 ⟨⟨Ax, cx, rfl, hr⟩, hb2⟩)
        | (go_at_call_has 30 (Value.slice (some ⟨w1.heap.size, 0, none⟩) 2 2); refine (refVars_c [a, b] _ _ _ (TT.l5 (by assumption)) hz2).mono ?_; rintro e w2 ⟨⟨Ay, cy, rfl, hr2⟩, hb2⟩; replace hr := hr.below hb2)
        | (go_at_call 30; refine (refVars_c [a] _ _ _ (TT.l6 (by assumption)) hz1).mono ?_; rintro e w2 ⟨⟨Az, cz, rfl, hr3⟩, hb2⟩)
        | (go_at_call 21; refine (Numbers_yes (dd (occL [a, b])) _ _ _ _ _ hr hr2).mono ?_; clear hr hr2; rintro e w2 ⟨rfl, hb2⟩)
        | (go_at_call_has 31 (Value.slice A' b.l.length c'); refine (tSame_c a b _ ok ok _ _ (TT.b1 (by assumption)) (TT.b2 (by assumption))).mono ?_; rintro e w2 ⟨rfl, hb2⟩)
        | (go_at_call 31; refine (tSame_refl a _ ok ok _ _ (TT.b1 (by assumption)) (TT.b1 (by assumption))).mono ?_; rintro e w2 ⟨rfl, hb2⟩)
        | (go_at_call 16; refine (Same_c a b _ ok ok _ _ (TT.b1 (by assumption)) (TT.b2 (by assumption))).mono ?_; rintro e w2 ⟨rfl, hb2⟩)
        | (go_at_call 23; refine (Ground_n a _ _ ok (TT.b1 (by assumption)) hza).mono ?_; rintro e w2 ⟨rfl, hb2⟩)
        | (go_at_call 14; refine (wakes_c _).mono ?_; rintro e w2 ⟨rfl, hb2⟩)))
    go_wp2
    go_ret
    exact ⟨by simp, TT.below (by assumption)⟩
end Go.Proofs.Ytgoeglahmlpmeaa

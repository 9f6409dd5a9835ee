/- The law TermVars, walked. Conditions: the arguments read; what they are made of is in its bounds. -/
import Derived.Test.YtgoeglahmlpmeaaL1
set_option linter.unusedVariables false
set_option linter.unusedSimpArgs false
namespace Go.Proofs.Ytgoeglahmlpmeaa
open Go.RowKit
attribute [local go_sem ↓] Go.wp_at_zero Go.wp_at_succ

/-- Two terms in boxes: their cells, and what they read. -/
def T2 (w : World) (ok : Nat → Prop) (a b : Tm) (u u' : Value) (W : World) : Prop :=
  W.cell? ⟨w.heap.size, 0, none⟩ = some (.int .u8 a.k) ∧ W.cell? ⟨w.heap.size, 1, none⟩ = some (.string a.s) ∧ W.cell? ⟨w.heap.size, 2, none⟩ = some (.int .i64 a.n) ∧ W.cell? ⟨w.heap.size, 3, none⟩ = some u ∧
  W.cell? ⟨w.heap.size + 1, 0, none⟩ = some (.int .u8 b.k) ∧ W.cell? ⟨w.heap.size + 1, 1, none⟩ = some (.string b.s) ∧ W.cell? ⟨w.heap.size + 1, 2, none⟩ = some (.int .i64 b.n) ∧ W.cell? ⟨w.heap.size + 1, 3, none⟩ = some u' ∧
  Bx w ok w.heap.size a u W ∧ Bx w ok (w.heap.size + 1) b u' W
theorem T2.of {w : World} {ok : Nat → Prop} {a b : Tm} {u u' : Value} {W : World} (h1 : Bx w ok w.heap.size a u W) (h2 : Bx w ok (w.heap.size + 1) b u' W) : T2 w ok a b u u' W :=
  let ⟨c0, c1, c2, c3, _⟩ := h1.held
  let ⟨d0, d1, d2, d3, _⟩ := h2.held
  ⟨c0, c1, c2, c3, d0, d1, d2, d3, h1, h2⟩
theorem T2.then {w : World} {ok : Nat → Prop} {a b : Tm} {u u' : Value} {W W' : World} (h : T2 w ok a b u u' W) (hb : Below W.heap.size W W') : T2 w ok a b u u' W' :=
  let ⟨_, _, _, _, _, _, _, _, h1, h2⟩ := h
  .of (h1.then hb) (h2.then hb)
theorem T2.alloc {w : World} {ok : Nat → Prop} {a b : Tm} {u u' : Value} {W : World} (h : T2 w ok a b u u' W) (O : Obj) : T2 w ok a b u u' (W.alloc O) := h.then ((Below.refl _ W).alloc (Nat.le_refl _) O)
theorem T2.drew {w : World} {ok : Nat → Prop} {a b : Tm} {u u' : Value} {W : World} (h : T2 w ok a b u u' W) : T2 w ok a b u u' W.drew := h.then (Below.refl _ W).drew
section
variable {w : World} {ok : Nat → Prop} {a b : Tm} {u u' : Value} {W : World} (h : T2 w ok a b u u' W)
include h
theorem T2.x1 : Bx w ok w.heap.size a u W := h.2.2.2.2.2.2.2.2.1
theorem T2.x2 : Bx w ok (w.heap.size + 1) b u' W := h.2.2.2.2.2.2.2.2.2
end

/-- .. and three rows of variables. -/
structure V3 (w : World) (ok : Nat → Prop) (a b : Tm) (u u' : Value) (X Y Z : List Int) (vx vy vz : Value) (W : World) : Prop where
  t : T2 w ok a b u u' W
  x : (Kd.int .i64).S W (fun _ => True) X vx
  y : (Kd.int .i64).S W (fun _ => True) Y vy
  z : (Kd.int .i64).S W (fun _ => True) Z vz
theorem V3.then {w : World} {ok : Nat → Prop} {a b : Tm} {u u' : Value} {X Y Z : List Int} {vx vy vz : Value} {W W' : World} (h : V3 w ok a b u u' X Y Z vx vy vz W) (hb : Below W.heap.size W W') : V3 w ok a b u u' X Y Z vx vy vz W' :=
  ⟨h.t.then hb, h.x.below hb, h.y.below hb, h.z.below hb⟩

theorem V3.held0 {w : World} {ok : Nat → Prop} {a b : Tm} {u u' : Value} {X Y Z : List Int} {vx vy vz : Value} {W W' : World} {b0 o0 : Nat} {x : Value} (hc : W.cell? ⟨b0, o0, none⟩ = some x) (h : V3 w ok a b u u' X Y Z vx vy vz W) (hb : Below W.heap.size W W') : W'.cell? ⟨b0, o0, none⟩ = some x ∧ V3 w ok a b u u' X Y Z vx vy vz W' :=
  ⟨cell_below hb hc (cell_lt hc), h.then hb⟩
theorem V3.held {w : World} {ok : Nat → Prop} {a b : Tm} {u u' : Value} {X Y Z : List Int} {vx vy vz : Value} {W W' : World} {b0 o0 : Nat} {x : Value} (h : W.cell? ⟨b0, o0, none⟩ = some x ∧ V3 w ok a b u u' X Y Z vx vy vz W) (hb : Below W.heap.size W W') : W'.cell? ⟨b0, o0, none⟩ = some x ∧ V3 w ok a b u u' X Y Z vx vy vz W' :=
  V3.held0 h.1 h.2 hb

set_option maxHeartbeats 40000000 in
theorem TermVars_c (a b : Tm) (v v' : Value) (w : World) (ok : Nat → Prop) (hv : TmV w ok a v) (hv' : TmV w ok b v') (ha : a.Wf) (hb : b.Wf) :
    Calls Try.prog 4 #[v, v'] w fun e w' => e = .returned (.bool true) ∧ Below w.heap.size w w' := by
  obtain ⟨u, rfl, hS⟩ := hv
  obtain ⟨u', rfl, hS'⟩ := hv'
  obtain ⟨A, c, rfl⟩ := hS.form
  obtain ⟨A', c', rfl⟩ := hS'.form
  have hwf : WfL [a, b] := by simp [WfL, ha, hb]
  have HG := Lib.hid (fun W (hW : Below w.heap.size w W) => Great_c [a, b] _ _ _ (lit2 (w := w) (W := W) (ok := ok) (hS.below hW) (hS'.below hW) hW) hwf)
  have HB := Lib.hid (Bx.two hS hS')
  cases hgr : great [a, b] with
  | true =>
    rw [hgr] at HG
    clear hS hS' hgr
    go_enter Try.func4, Try.ntmps4
    go_wp2_with (first
      | (go_at_call 13; have hq := HG.out _ HB.out.1.below; rw [World.size_alloc, World.size_alloc] at hq; refine hq.mono ?_; clear hq HG; rintro e w1 ⟨rfl, hb1⟩; obtain ⟨x1, x2⟩ := HB.out; clear HB; replace x1 := (x1.alloc _).then hb1; replace x2 := (x2.alloc _).then hb1; clear hb1)
      | (go_at_call 14; refine (wakes_c _).mono ?_; rintro e w2 ⟨rfl, hb2⟩; replace x1 := x1.then hb2))
    go_ret
    exact ⟨rfl, x1.below⟩
  | false =>
    rw [hgr] at HG
    have hsz := great_siz hgr
    simp only [sizL] at hsz
    clear hS hS' hgr
    have hza : a.siz ≤ 1000000 := by omega
    have hz1 : sizL [a] ≤ 1000000 := by simp only [sizL]; omega
    have hz1' : sizL [b] ≤ 1000000 := by simp only [sizL]; omega
    have hz2 : sizL [a, b] ≤ 1000000 := by simp only [sizL]; omega
    go_enter Try.func4, Try.ntmps4
    go_wp2_with (first
      | (go_at_call 13; have hq := HG.out _ HB.out.1.below; rw [World.size_alloc, World.size_alloc] at hq; refine hq.mono ?_; clear hq HG; rintro e w1 ⟨rfl, hb1⟩; obtain ⟨x1, x2⟩ := HB.out; clear HB; replace x1 := (x1.alloc _).then hb1; replace x2 := (x2.alloc _).then hb1; clear hb1))
    have hT := T2.of x1 x2
    clear x1 x2 hwf
    have hz : w.heap.size + 2 ≤ w1.heap.size := by have := (Array.getElem?_eq_some_iff.1 hT.x2.box).1; omega
    rename_i K3 hK3
    refine Code.wp_mono (Q := fun e a3 W => e = .normal ∧ ∃ (Ax Ay Az : Option Addr) (cx cy cz : Nat) (z16 z19 z23 : Value), T2 w ok a b (.slice A a.l.length c) (.slice A' b.l.length c') W ∧ (Kd.int .i64).S W (fun _ => True) (dd (occL [a])) (.slice Ax (dd (occL [a])).length cx) ∧ (Kd.int .i64).S W (fun _ => True) (dd (occL [b])) (.slice Ay (dd (occL [b])).length cy) ∧ (Kd.int .i64).S W (fun _ => True) (dd (occL [a, b])) (.slice Az (dd (occL [a, b])).length cz) ∧ a3 = { tmps := #[(.agg #[.int .u8 a.k, .string a.s, .int .i64 a.n, .slice A a.l.length c]), (.agg #[.int .u8 b.k, .string b.s, .int .i64 b.n, .slice A' b.l.length c']), (.pointer (some ⟨w.heap.size, 0, none⟩)), (.pointer (some ⟨w.heap.size + 1, 0, none⟩)), (.bool false), (.slice Ax (dd (occL [a])).length cx), (.slice Ay (dd (occL [b])).length cy), (.slice Az (dd (occL [a, b])).length cz), undef, undef, (.agg #[.int .u8 a.k, .string a.s, .int .i64 a.n, .slice A a.l.length c]), (.agg #[.int .u8 b.k, .string b.s, .int .i64 b.n, .slice A' b.l.length c']), (.slice (some ⟨w.heap.size + 1 + 1, 0, none⟩) 2 2), (.bool false), undef, (.agg #[.int .u8 a.k, .string a.s, .int .i64 a.n, .slice A a.l.length c]), z16, (.slice Ax (dd (occL [a])).length cx), (.agg #[.int .u8 b.k, .string b.s, .int .i64 b.n, .slice A' b.l.length c']), z19, (.slice Ay (dd (occL [b])).length cy), (.agg #[.int .u8 a.k, .string a.s, .int .i64 a.n, .slice A a.l.length c]), (.agg #[.int .u8 b.k, .string b.s, .int .i64 b.n, .slice A' b.l.length c']), z23, (.slice Az (dd (occL [a, b])).length cz), undef, undef, undef, undef, undef, undef, undef, undef, undef, undef, undef, undef, undef, undef, undef, undef, undef, undef, undef, undef, undef, undef, undef, undef, undef, undef, undef, undef, undef, undef, undef, undef, undef, undef, undef, undef, undef, undef, undef, undef, undef, undef, undef, undef, undef, undef, undef, undef, undef, undef, undef, undef, undef, undef, undef, undef, undef, undef, undef, undef, undef, undef, undef, undef, undef, undef, undef, undef], defers := [] }) ?_ ?_
    case refine_2 =>
      clear hK3
      go_region_held3 (fun W => W.cell? ⟨w.heap.size, 0, none⟩ = some (.int .u8 a.k) ∧ W.cell? ⟨w.heap.size, 1, none⟩ = some (.string a.s) ∧ W.cell? ⟨w.heap.size, 2, none⟩ = some (.int .i64 a.n) ∧ W.cell? ⟨w.heap.size, 3, none⟩ = some (.slice A a.l.length c) ∧
        W.cell? ⟨w.heap.size + 1, 0, none⟩ = some (.int .u8 b.k) ∧ W.cell? ⟨w.heap.size + 1, 1, none⟩ = some (.string b.s) ∧ W.cell? ⟨w.heap.size + 1, 2, none⟩ = some (.int .i64 b.n) ∧ W.cell? ⟨w.heap.size + 1, 3, none⟩ = some (.slice A' b.l.length c') ∧
        Bx w ok w.heap.size a (.slice A a.l.length c) W ∧ Bx w ok (w.heap.size + 1) b (.slice A' b.l.length c') W)
        ((first | exact T2.then (by assumption) (by assumption) | exact T2.alloc (by assumption) _ | exact T2.drew (by assumption)))
        ((first
          | (have hxx := hrx; have hyy := hry; clear hxx hyy; go_at_call 20; refine (Vars_s [a, b] _ _ _ (lit2_at (u := (.slice A a.l.length c)) (u' := (.slice A' b.l.length c')) (by repeat (first | exact heap_at _ _ _ (by first | omega | (simp only [World.size_alloc, World.size_drew]; done) | (simp only [World.size_alloc, World.size_drew]; omega)) | (rw [heap_drew_if]) | (refine heap_old _ _ _ (by first | omega | (simp only [World.size_alloc, World.size_drew]; done) | (simp only [World.size_alloc, World.size_drew]; omega)) ?_) | (refine block_below (by assumption) (by first | omega | (simp only [World.size_alloc, World.size_drew]; done) | (simp only [World.size_alloc, World.size_drew]; omega)) ?_))) (T2.x1 (by assumption)).args (T2.x2 (by assumption)).args) hz2).mono ?_; rintro e w2 ⟨⟨Az, cz, rfl, hrz⟩, hb2⟩; replace hrx := (by first | exact hrx.below hb2 | exact (hrx.below ((Below.refl _ _).alloc (Nat.le_refl _) _)).below hb2 | exact ((hrx.below ((Below.refl _ _).alloc (Nat.le_refl _) _)).below ((Below.refl _ _).alloc (Nat.le_refl _) _)).below hb2 : (Kd.int .i64).S w2 (fun _ => True) _ _); replace hry := (by first | exact hry.below hb2 | exact (hry.below ((Below.refl _ _).alloc (Nat.le_refl _) _)).below hb2 | exact ((hry.below ((Below.refl _ _).alloc (Nat.le_refl _) _)).below ((Below.refl _ _).alloc (Nat.le_refl _) _)).below hb2 : (Kd.int .i64).S w2 (fun _ => True) _ _))
          | (have hxx := hrx; clear hxx; go_at_call 20; refine (Vars_s [b] _ _ _ (lit1_at (u := (.slice A' b.l.length c')) (by repeat (first | exact heap_at _ _ _ (by first | omega | (simp only [World.size_alloc, World.size_drew]; done) | (simp only [World.size_alloc, World.size_drew]; omega)) | (rw [heap_drew_if]) | (refine heap_old _ _ _ (by first | omega | (simp only [World.size_alloc, World.size_drew]; done) | (simp only [World.size_alloc, World.size_drew]; omega)) ?_) | (refine block_below (by assumption) (by first | omega | (simp only [World.size_alloc, World.size_drew]; done) | (simp only [World.size_alloc, World.size_drew]; omega)) ?_))) (T2.x2 (by assumption)).args) hz1').mono ?_; rintro e w2 ⟨⟨Ay, cy, rfl, hry⟩, hb2⟩; have hzz := hb2.size; (try simp only [World.size_alloc, World.size_drew] at hzz); replace hrx := (by first | exact hrx.below hb2 | exact (hrx.below ((Below.refl _ _).alloc (Nat.le_refl _) _)).below hb2 | exact ((hrx.below ((Below.refl _ _).alloc (Nat.le_refl _) _)).below ((Below.refl _ _).alloc (Nat.le_refl _) _)).below hb2 : (Kd.int .i64).S w2 (fun _ => True) _ _))
          | (go_at_call 20; refine (Vars_s [a] _ _ _ (lit1_at (u := (.slice A a.l.length c)) (by repeat (first | exact heap_at _ _ _ (by first | omega | (simp only [World.size_alloc, World.size_drew]; done) | (simp only [World.size_alloc, World.size_drew]; omega)) | (rw [heap_drew_if]) | (refine heap_old _ _ _ (by first | omega | (simp only [World.size_alloc, World.size_drew]; done) | (simp only [World.size_alloc, World.size_drew]; omega)) ?_) | (refine block_below (by assumption) (by first | omega | (simp only [World.size_alloc, World.size_drew]; done) | (simp only [World.size_alloc, World.size_drew]; omega)) ?_))) (T2.x1 (by assumption)).args) hz1).mono ?_; rintro e w2 ⟨⟨Ax, cx, rfl, hrx⟩, hb2⟩; have hzz := hb2.size; (try simp only [World.size_alloc, World.size_drew] at hzz))))
      all_goals exact ⟨rfl, _, _, _, _, _, _, _, _, _, (by assumption), hrx, hry, hrz, rfl⟩
    case refine_1 =>
      rintro e a3 W ⟨rfl, Ax, Ay, Az, cx, cy, cz, z16, z19, z23, hT, hrx, hry, hrz, rfl⟩
      refine hK3 _ _ ?_
      clear hK3
      have hcz := hrz.cap
      have hn1 : Hid ((dd (occL [a, b])).take (dd (occL [a])).length = dd (occL [a])) := Lib.hid (by rw [show occL [a, b] = occL [a] ++ occL [b] by simp [occL]]; exact dd_prefix _ _)
      have hn2 : Hid (∀ y ∈ dd (occL [b]), y ∈ dd (occL [a, b])) := Lib.hid (fun y hy => by rw [dd_mem] at hy ⊢; rw [show occL [a, b] = occL [a] ++ occL [b] by simp [occL]]; exact List.mem_append_right _ hy)
      have hn3 : Hid (∀ z ∈ dd (occL [a, b]), z ∈ dd (occL [a]) ∨ z ∈ dd (occL [b])) := Lib.hid (fun y hy => by rw [dd_mem] at hy; rw [dd_mem, dd_mem]; rw [show occL [a, b] = occL [a] ++ occL [b] by simp [occL]] at hy; exact List.mem_append.1 hy)
      have hn4 := Lib.hid (dd_nodup (occL [a, b]))
      have hlen : (dd (occL [a])).length ≤ (dd (occL [a, b])).length := by have := congrArg List.length hn1.out; rw [List.length_take] at this; omega
      have HGr := Lib.hid (fun (W' : World) (h : T2 w ok a b (.slice A a.l.length c) (.slice A' b.l.length c') W') => Ground_n a _ W' ok h.x1.tmv hza)
      have hyl : (dd (occL [b])).length ≤ 1000000 := by have h1 := dd_length (occL [b]); have h2 := occL_length [b]; omega
      have hzl : (dd (occL [a, b])).length ≤ 1000000 := by have h1 := dd_length (occL [a, b]); have h2 := occL_length [a, b]; omega
      generalize dd (occL [a]) = X at hrx hn1 hn3 hlen HGr ⊢
      generalize dd (occL [b]) = Y at hry hn2 hn3 hyl ⊢
      generalize dd (occL [a, b]) = Z at hrz hcz hn1 hn2 hn3 hn4 hlen hzl ⊢
      have hV : V3 w ok a b (.slice A a.l.length c) (.slice A' b.l.length c') X Y Z (.slice Ax X.length cx) (.slice Ay Y.length cy) (.slice Az Z.length cz) W := ⟨hT, hrx, hry, hrz⟩
      have hlx : (X.length : Int) ≤ Z.length := by omega
      have hlz : (X.length : Int) ≤ cz := by omega
      clear hT hrx hry hrz hz1 hz1' hz2 ha hb hsz
      go_wp2_with (first | (go_at_call 21; refine (Numbers_yes X _ _ _ _ _ (by have := hV.z.take hlen; rwa [hn1.out] at this) hV.x).mono ?_; rintro e w2 ⟨rfl, hb2⟩; replace hV := hV.then hb2; clear hb2))
      simp only [show decide (Z.length < X.length) = false from by rw [decide_eq_false_iff_not]; omega]
      clear hlx hlz hlen hn1
      go_loopw [8] (fun i W => ∃ j : Nat, j ≤ Y.length ∧ i = .int .i64 j ∧ V3 w ok a b (.slice A a.l.length c) (.slice A' b.l.length c') X Y Z (.slice Ax X.length cx) (.slice Ay Y.length cy) (.slice Az Z.length cz) W) (fun i _ => Y.length - (intOf i).toNat)
      case atStart => exact ⟨0, Nat.zero_le _, rfl, hV⟩
      case round =>
        clear hV
        obtain ⟨j, hj, rfl, hV⟩ := hrel
        by_cases hlt : j < Y.length
        · obtain ⟨_, _, ey, _, _, hAy⟩ := hV.y
          injection ey with e1 e2 e3
          subst e1 e3
          obtain ⟨by_, oy, rfl, -, hloy, g0⟩ := int_elem hAy hlt
          have hin : decide (Y[j] ∈ Z) = true := by simpa using hn2.out _ (List.getElem_mem hlt)
          have HI := Lib.hid (In_c Z Y[j] (.slice Az Z.length cz) wr _ hV.z)
          rw [hin] at HI
          clear hAy hin
          go_wp2_with (go_at_call 22; refine HI.out.mono ?_; rintro e w3 ⟨rfl, hb3⟩)
          go_roundw
          case rel => exact ⟨j + 1, by omega, by go_num, hV.then hb3⟩
          case measure => simp [intOf]; omega
        · go_wp2
          go_loopw [9] (fun i W => ∃ j : Nat, j ≤ Z.length ∧ i = .int .i64 j ∧ V3 w ok a b (.slice A a.l.length c) (.slice A' b.l.length c') X Y Z (.slice Ax X.length cx) (.slice Ay Y.length cy) (.slice Az Z.length cz) W) (fun i _ => Z.length - (intOf i).toNat)
          case atStart => exact ⟨0, Nat.zero_le _, rfl, hV⟩
          case round =>
            clear hV hlt hj
            obtain ⟨j, hj, rfl, hV⟩ := hrel
            by_cases hlt : j < Z.length
            · obtain ⟨_, _, ez, _, _, hAz⟩ := hV.z
              injection ez with e1 e2 e3
              subst e1 e3
              obtain ⟨bz, oz, rfl, -, hloz, g0⟩ := int_elem hAz hlt
              have hnt : decide (Z[j] ∈ Z.take j) = false := by simpa using nodup_take hn4.out hlt
              have hjz : (j : Int) ≤ cz := by omega
              have hjz' : (j : Int) < Z.length := by omega
              clear hAz
              by_cases hx : Z[j] ∈ X
              · have hin : decide (Z[j] ∈ X) = true := by simpa using hx
                go_wp2
                refine wp_region_held_drew (S := (fun W => W.cell? ⟨bz, oz + j, none⟩ = some (.int .i64 Z[j]) ∧ V3 w ok a b (.slice A a.l.length c) (.slice A' b.l.length c') X Y Z (.slice Ax X.length cx) (.slice Ay Y.length cy) (.slice (some ⟨bz, oz, none⟩) Z.length cz) W)) (by kernel_rfl) ?_ (fun hHeld => ?_)
                · exact V3.held0 (by assumption) (by assumption) (Below.refl _ _).drew
                change wpAnyH _ .any _ _ _ 26 (Array.replicate 26 false) _ _
                refine wpAnyH_take (i := 0) (oi := ⟨some 58, _, _, _, _, _⟩) (v := ?v0) rfl (by kernel_rfl) (by kernel_rfl) (by kernel_rfl) (fun _ _ _ h => h) (Or.inl ⟨by rfl, fun w hSw => ?hy0⟩) (by assumption) ?_
                case hy0 => (dsimp only at hSw; go_simp; try (with_reducible rfl))
                (try simp only [Act.put, List.setIfInBounds_toArray, List.set_cons_zero, List.set_cons_succ])
                refine wpAnyH_take (i := 1) (oi := ⟨some 59, _, _, _, _, _⟩) (v := ?v1) rfl (by kernel_rfl) (by kernel_rfl) (by kernel_rfl) (fun _ _ _ h => h) (Or.inl ⟨by rfl, fun w hSw => ?hy1⟩) (by assumption) ?_
                case hy1 => (dsimp only at hSw; go_simp; try (with_reducible rfl))
                (try simp only [Act.put, List.setIfInBounds_toArray, List.set_cons_zero, List.set_cons_succ])
                refine wpAnyH_take (i := 2) (oi := ⟨some 60, _, _, _, _, _⟩) (v := ?v2) rfl (by kernel_rfl) (by kernel_rfl) (by kernel_rfl) (fun _ _ _ h => h) (Or.inl ⟨by rfl, fun w hSw => ?hy2⟩) (by assumption) ?_
                case hy2 => (dsimp only at hSw; go_simp; try (with_reducible rfl))
                (try simp only [Act.put, List.setIfInBounds_toArray, List.set_cons_zero, List.set_cons_succ])
                refine wpAnyH_take (i := 3) (oi := ⟨some 61, _, _, _, _, _⟩) (v := ?v3) rfl (by kernel_rfl) (by kernel_rfl) (by kernel_rfl) (fun _ _ _ h => h) (Or.inl ⟨by rfl, fun w hSw => ?hy3⟩) (by assumption) ?_
                case hy3 => (dsimp only at hSw; go_simp; try (with_reducible rfl))
                (try simp only [Act.put, List.setIfInBounds_toArray, List.set_cons_zero, List.set_cons_succ])
                refine wpAnyH_take (i := 4) (oi := ⟨some 62, _, _, _, _, _⟩) (v := ?v4) rfl (by kernel_rfl) (by kernel_rfl) (by kernel_rfl) (fun _ _ _ h => h) (Or.inl ⟨by rfl, fun w hSw => ?hy4⟩) (by assumption) ?_
                case hy4 => (dsimp only at hSw; go_simp; try (with_reducible rfl))
                (try simp only [Act.put, List.setIfInBounds_toArray, List.set_cons_zero, List.set_cons_succ])
                refine wpAnyH_ready (rs := [5]) (by kernel_rfl) (by simp) ?_
                refine AllReadyH.cons rfl (fun K hK => ?_) AllReadyH.nil
                go_simp
                have hq := In_c X Z[j] _ _ _ hHeld.2.x; rw [hin] at hq; refine hq.mono ?_; clear hq; rintro e w3 ⟨rfl, hb3⟩
                go_wp2_with fail
                refine hK.out _ _ (V3.held (by assumption) (by assumption)) (fun hHeld => ?_)
                clear hK K
                (try simp only [Act.put, List.setIfInBounds_toArray, List.set_cons_zero, List.set_cons_succ])
                refine wpAnyH_take (i := 6) (oi := ⟨some 64, _, _, _, _, _⟩) (v := ?v6) rfl (by kernel_rfl) (by kernel_rfl) (by kernel_rfl) (fun _ _ _ h => h) (Or.inl ⟨by rfl, fun w hSw => ?hy6⟩) (by assumption) ?_
                case hy6 => (dsimp only at hSw; go_simp; try (with_reducible rfl))
                (try simp only [Act.put, List.setIfInBounds_toArray, List.set_cons_zero, List.set_cons_succ])
                refine wpAnyH_take (i := 7) (oi := ⟨some 65, _, _, _, _, _⟩) (v := ?v7) rfl (by kernel_rfl) (by kernel_rfl) (by kernel_rfl) (fun _ _ _ h => h) (Or.inl ⟨by rfl, fun w hSw => ?hy7⟩) (by assumption) ?_
                case hy7 => (dsimp only at hSw; go_simp; try (with_reducible rfl))
                (try simp only [Act.put, List.setIfInBounds_toArray, List.set_cons_zero, List.set_cons_succ])
                refine wpAnyH_take (i := 8) (oi := ⟨some 66, _, _, _, _, _⟩) rfl (by kernel_rfl) (by kernel_rfl) (by kernel_rfl) (fun _ _ _ h => h) (Or.inr ⟨by rfl, rfl⟩) (by assumption) ?_
                (try simp only [Act.put, List.setIfInBounds_toArray, List.set_cons_zero, List.set_cons_succ])
                refine wpAnyH_take (i := 9) (oi := ⟨some 67, _, _, _, _, _⟩) rfl (by kernel_rfl) (by kernel_rfl) (by kernel_rfl) (fun _ _ _ h => h) (Or.inr ⟨by rfl, rfl⟩) (by assumption) ?_
                (try simp only [Act.put, List.setIfInBounds_toArray, List.set_cons_zero, List.set_cons_succ])
                refine wpAnyH_take (i := 10) (oi := ⟨some 68, _, _, _, _, _⟩) rfl (by kernel_rfl) (by kernel_rfl) (by kernel_rfl) (fun _ _ _ h => h) (Or.inr ⟨by rfl, rfl⟩) (by assumption) ?_
                (try simp only [Act.put, List.setIfInBounds_toArray, List.set_cons_zero, List.set_cons_succ])
                refine wpAnyH_take (i := 11) (oi := ⟨some 69, _, _, _, _, _⟩) rfl (by kernel_rfl) (by kernel_rfl) (by kernel_rfl) (fun _ _ _ h => h) (Or.inr ⟨by rfl, rfl⟩) (by assumption) ?_
                (try simp only [Act.put, List.setIfInBounds_toArray, List.set_cons_zero, List.set_cons_succ])
                refine wpAnyH_take (i := 12) (oi := ⟨some 70, _, _, _, _, _⟩) rfl (by kernel_rfl) (by kernel_rfl) (by kernel_rfl) (fun _ _ _ h => h) (Or.inr ⟨by rfl, rfl⟩) (by assumption) ?_
                (try simp only [Act.put, List.setIfInBounds_toArray, List.set_cons_zero, List.set_cons_succ])
                refine wpAnyH_take (i := 13) (oi := ⟨some 71, _, _, _, _, _⟩) rfl (by kernel_rfl) (by kernel_rfl) (by kernel_rfl) (fun _ _ _ h => h) (Or.inr ⟨by rfl, rfl⟩) (by assumption) ?_
                (try simp only [Act.put, List.setIfInBounds_toArray, List.set_cons_zero, List.set_cons_succ])
                refine wpAnyH_take (i := 14) (oi := ⟨some 72, _, _, _, _, _⟩) rfl (by kernel_rfl) (by kernel_rfl) (by kernel_rfl) (fun _ _ _ h => h) (Or.inr ⟨by rfl, rfl⟩) (by assumption) ?_
                (try simp only [Act.put, List.setIfInBounds_toArray, List.set_cons_zero, List.set_cons_succ])
                refine wpAnyH_take (i := 15) (oi := ⟨some 73, _, _, _, _, _⟩) (v := ?v15) rfl (by kernel_rfl) (by kernel_rfl) (by kernel_rfl) (fun _ _ _ h => h) (Or.inl ⟨by rfl, fun w hSw => ?hy15⟩) (by assumption) ?_
                case hy15 => (dsimp only at hSw; go_simp; try (with_reducible rfl))
                (try simp only [Act.put, List.setIfInBounds_toArray, List.set_cons_zero, List.set_cons_succ])
                refine wpAnyH_take (i := 16) (oi := ⟨some 74, _, _, _, _, _⟩) (v := ?v16) rfl (by kernel_rfl) (by kernel_rfl) (by kernel_rfl) (fun _ _ _ h => h) (Or.inl ⟨by rfl, fun w hSw => ?hy16⟩) (by assumption) ?_
                case hy16 => (dsimp only at hSw; go_simp; try (with_reducible rfl))
                (try simp only [Act.put, List.setIfInBounds_toArray, List.set_cons_zero, List.set_cons_succ])
                refine wpAnyH_take (i := 17) (oi := ⟨some 75, _, _, _, _, _⟩) (v := ?v17) rfl (by kernel_rfl) (by kernel_rfl) (by kernel_rfl) (fun _ _ _ h => h) (Or.inl ⟨by rfl, fun w hSw => ?hy17⟩) (by assumption) ?_
                case hy17 => (dsimp only at hSw; go_simp; try (with_reducible rfl))
                (try simp only [Act.put, List.setIfInBounds_toArray, List.set_cons_zero, List.set_cons_succ])
                refine wpAnyH_take (i := 18) (oi := ⟨some 76, _, _, _, _, _⟩) (v := ?v18) rfl (by kernel_rfl) (by kernel_rfl) (by kernel_rfl) (fun _ _ _ h => h) (Or.inl ⟨by rfl, fun w hSw => ?hy18⟩) (by assumption) ?_
                case hy18 => (dsimp only at hSw; go_simp; try (with_reducible rfl))
                (try simp only [Act.put, List.setIfInBounds_toArray, List.set_cons_zero, List.set_cons_succ])
                refine wpAnyH_take (i := 19) (oi := ⟨some 77, _, _, _, _, _⟩) (v := ?v19) rfl (by kernel_rfl) (by kernel_rfl) (by kernel_rfl) (fun _ _ _ h => h) (Or.inl ⟨by rfl, fun w hSw => ?hy19⟩) (by assumption) ?_
                case hy19 => (dsimp only at hSw; go_simp; try (with_reducible rfl))
                (try simp only [Act.put, List.setIfInBounds_toArray, List.set_cons_zero, List.set_cons_succ])
                refine wpAnyH_take (i := 20) (oi := ⟨some 78, _, _, _, _, _⟩) (v := ?v20) rfl (by kernel_rfl) (by kernel_rfl) (by kernel_rfl) (fun _ _ _ h => h) (Or.inl ⟨by rfl, fun w hSw => ?hy20⟩) (by assumption) ?_
                case hy20 => (dsimp only at hSw; go_simp; try (with_reducible rfl))
                (try simp only [Act.put, List.setIfInBounds_toArray, List.set_cons_zero, List.set_cons_succ])
                refine wpAnyH_take (i := 21) (oi := ⟨some 79, _, _, _, _, _⟩) (v := ?v21) rfl (by kernel_rfl) (by kernel_rfl) (by kernel_rfl) (fun _ _ _ h => h) (Or.inl ⟨by rfl, fun w hSw => ?hy21⟩) (by assumption) ?_
                case hy21 => (dsimp only at hSw; go_simp; try (with_reducible rfl))
                (try simp only [Act.put, List.setIfInBounds_toArray, List.set_cons_zero, List.set_cons_succ])
                refine wpAnyH_take (i := 22) (oi := ⟨some 80, _, _, _, _, _⟩) (v := ?v22) rfl (by kernel_rfl) (by kernel_rfl) (by kernel_rfl) (fun _ _ _ h => h) (Or.inl ⟨by rfl, fun w hSw => ?hy22⟩) (by assumption) ?_
                case hy22 => (dsimp only at hSw; go_simp; try (with_reducible rfl))
                (try simp only [Act.put, List.setIfInBounds_toArray, List.set_cons_zero, List.set_cons_succ])
                refine wpAnyH_take (i := 23) (oi := ⟨some 81, _, _, _, _, _⟩) (v := ?v23) rfl (by kernel_rfl) (by kernel_rfl) (by kernel_rfl) (fun _ _ _ h => h) (Or.inl ⟨by rfl, fun w hSw => ?hy23⟩) (by assumption) ?_
                case hy23 => (dsimp only at hSw; go_simp; try (with_reducible rfl))
                (try simp only [Act.put, List.setIfInBounds_toArray, List.set_cons_zero, List.set_cons_succ])
                refine wpAnyH_ready (rs := [24]) (by kernel_rfl) (by simp) ?_
                refine AllReadyH.cons rfl (fun K hK => ?_) AllReadyH.nil
                go_simp
                have hq := In_c (Z.take j) Z[j] _ _ _ (Kd.S.take hHeld.2.z hj); rw [hnt] at hq; refine hq.mono ?_; clear hq; rintro e w3 ⟨rfl, hb3⟩
                go_wp2_with fail
                refine hK.out _ _ (V3.held (by assumption) (by assumption)) (fun hHeld => ?_)
                clear hK K
                (try simp only [Act.put, List.setIfInBounds_toArray, List.set_cons_zero, List.set_cons_succ])
                refine wpAnyH_take (i := 25) (oi := ⟨some 83, _, _, _, _, _⟩) (v := ?v25) rfl (by kernel_rfl) (by kernel_rfl) (by kernel_rfl) (fun _ _ _ h => h) (Or.inl ⟨by rfl, fun w hSw => ?hy25⟩) (by assumption) ?_
                case hy25 => (dsimp only at hSw; go_simp; try (with_reducible rfl))
                (try simp only [Act.put, List.setIfInBounds_toArray, List.set_cons_zero, List.set_cons_succ])
                refine wpAnyH_done (by kernel_rfl) ?_ _
                all_goals
                  go_wp2
                  go_roundw
                  case rel => exact ⟨j + 1, by omega, by go_num, And.right (by assumption : _ ∧ V3 w ok a b (.slice A a.l.length c) (.slice A' b.l.length c') X Y Z (.slice Ax X.length cx) (.slice Ay Y.length cy) (.slice (some ⟨bz, oz, none⟩) Z.length cz) _)⟩
                  case measure => simp [intOf]; omega
              · have hin : decide (Z[j] ∈ X) = false := by simpa using hx
                have hiy : decide (Z[j] ∈ Y) = true := by simpa using (hn3.out _ (List.getElem_mem hlt)).resolve_left hx
                go_wp2
                refine wp_region_held_drew (S := (fun W => W.cell? ⟨bz, oz + j, none⟩ = some (.int .i64 Z[j]) ∧ V3 w ok a b (.slice A a.l.length c) (.slice A' b.l.length c') X Y Z (.slice Ax X.length cx) (.slice Ay Y.length cy) (.slice (some ⟨bz, oz, none⟩) Z.length cz) W)) (by kernel_rfl) ?_ (fun hHeld => ?_)
                · exact V3.held0 (by assumption) (by assumption) (Below.refl _ _).drew
                change wpAnyH _ .any _ _ _ 26 (Array.replicate 26 false) _ _
                refine wpAnyH_take (i := 0) (oi := ⟨some 58, _, _, _, _, _⟩) (v := ?vv0) rfl (by kernel_rfl) (by kernel_rfl) (by kernel_rfl) (fun _ _ _ h => h) (Or.inl ⟨by rfl, fun w hSw => ?hyy0⟩) (by assumption) ?_
                case hyy0 => (dsimp only at hSw; go_simp; try (with_reducible rfl))
                (try simp only [Act.put, List.setIfInBounds_toArray, List.set_cons_zero, List.set_cons_succ])
                refine wpAnyH_take (i := 1) (oi := ⟨some 59, _, _, _, _, _⟩) (v := ?vv1) rfl (by kernel_rfl) (by kernel_rfl) (by kernel_rfl) (fun _ _ _ h => h) (Or.inl ⟨by rfl, fun w hSw => ?hyy1⟩) (by assumption) ?_
                case hyy1 => (dsimp only at hSw; go_simp; try (with_reducible rfl))
                (try simp only [Act.put, List.setIfInBounds_toArray, List.set_cons_zero, List.set_cons_succ])
                refine wpAnyH_take (i := 2) (oi := ⟨some 60, _, _, _, _, _⟩) (v := ?vv2) rfl (by kernel_rfl) (by kernel_rfl) (by kernel_rfl) (fun _ _ _ h => h) (Or.inl ⟨by rfl, fun w hSw => ?hyy2⟩) (by assumption) ?_
                case hyy2 => (dsimp only at hSw; go_simp; try (with_reducible rfl))
                (try simp only [Act.put, List.setIfInBounds_toArray, List.set_cons_zero, List.set_cons_succ])
                refine wpAnyH_take (i := 3) (oi := ⟨some 61, _, _, _, _, _⟩) (v := ?vv3) rfl (by kernel_rfl) (by kernel_rfl) (by kernel_rfl) (fun _ _ _ h => h) (Or.inl ⟨by rfl, fun w hSw => ?hyy3⟩) (by assumption) ?_
                case hyy3 => (dsimp only at hSw; go_simp; try (with_reducible rfl))
                (try simp only [Act.put, List.setIfInBounds_toArray, List.set_cons_zero, List.set_cons_succ])
                refine wpAnyH_take (i := 4) (oi := ⟨some 62, _, _, _, _, _⟩) (v := ?vv4) rfl (by kernel_rfl) (by kernel_rfl) (by kernel_rfl) (fun _ _ _ h => h) (Or.inl ⟨by rfl, fun w hSw => ?hyy4⟩) (by assumption) ?_
                case hyy4 => (dsimp only at hSw; go_simp; try (with_reducible rfl))
                (try simp only [Act.put, List.setIfInBounds_toArray, List.set_cons_zero, List.set_cons_succ])
                refine wpAnyH_ready (rs := [5]) (by kernel_rfl) (by simp) ?_
                refine AllReadyH.cons rfl (fun K hK => ?_) AllReadyH.nil
                go_simp
                have hq := In_c X Z[j] _ _ _ hHeld.2.x; rw [hin] at hq; refine hq.mono ?_; clear hq; rintro e w3 ⟨rfl, hb3⟩
                go_wp2_with fail
                refine hK.out _ _ (V3.held (by assumption) (by assumption)) (fun hHeld => ?_)
                clear hK K
                (try simp only [Act.put, List.setIfInBounds_toArray, List.set_cons_zero, List.set_cons_succ])
                refine wpAnyH_take (i := 6) (oi := ⟨some 64, _, _, _, _, _⟩) (v := ?vv6) rfl (by kernel_rfl) (by kernel_rfl) (by kernel_rfl) (fun _ _ _ h => h) (Or.inl ⟨by rfl, fun w hSw => ?hyy6⟩) (by assumption) ?_
                case hyy6 => (dsimp only at hSw; go_simp; try (with_reducible rfl))
                (try simp only [Act.put, List.setIfInBounds_toArray, List.set_cons_zero, List.set_cons_succ])
                refine wpAnyH_take (i := 7) (oi := ⟨some 65, _, _, _, _, _⟩) (v := ?vv7) rfl (by kernel_rfl) (by kernel_rfl) (by kernel_rfl) (fun _ _ _ h => h) (Or.inl ⟨by rfl, fun w hSw => ?hyy7⟩) (by assumption) ?_
                case hyy7 => (dsimp only at hSw; go_simp; try (with_reducible rfl))
                (try simp only [Act.put, List.setIfInBounds_toArray, List.set_cons_zero, List.set_cons_succ])
                refine wpAnyH_take (i := 8) (oi := ⟨some 66, _, _, _, _, _⟩) (v := ?vv8) rfl (by kernel_rfl) (by kernel_rfl) (by kernel_rfl) (fun _ _ _ h => h) (Or.inl ⟨by rfl, fun w hSw => ?hyy8⟩) (by assumption) ?_
                case hyy8 => (dsimp only at hSw; go_simp; try (with_reducible rfl))
                (try simp only [Act.put, List.setIfInBounds_toArray, List.set_cons_zero, List.set_cons_succ])
                refine wpAnyH_take (i := 9) (oi := ⟨some 67, _, _, _, _, _⟩) (v := ?vv9) rfl (by kernel_rfl) (by kernel_rfl) (by kernel_rfl) (fun _ _ _ h => h) (Or.inl ⟨by rfl, fun w hSw => ?hyy9⟩) (by assumption) ?_
                case hyy9 => (dsimp only at hSw; go_simp; try (with_reducible rfl))
                (try simp only [Act.put, List.setIfInBounds_toArray, List.set_cons_zero, List.set_cons_succ])
                refine wpAnyH_take (i := 10) (oi := ⟨some 68, _, _, _, _, _⟩) (v := ?vv10) rfl (by kernel_rfl) (by kernel_rfl) (by kernel_rfl) (fun _ _ _ h => h) (Or.inl ⟨by rfl, fun w hSw => ?hyy10⟩) (by assumption) ?_
                case hyy10 => (dsimp only at hSw; go_simp; try (with_reducible rfl))
                (try simp only [Act.put, List.setIfInBounds_toArray, List.set_cons_zero, List.set_cons_succ])
                refine wpAnyH_take (i := 11) (oi := ⟨some 69, _, _, _, _, _⟩) (v := ?vv11) rfl (by kernel_rfl) (by kernel_rfl) (by kernel_rfl) (fun _ _ _ h => h) (Or.inl ⟨by rfl, fun w hSw => ?hyy11⟩) (by assumption) ?_
                case hyy11 => (dsimp only at hSw; go_simp; try (with_reducible rfl))
                (try simp only [Act.put, List.setIfInBounds_toArray, List.set_cons_zero, List.set_cons_succ])
                refine wpAnyH_take (i := 12) (oi := ⟨some 70, _, _, _, _, _⟩) (v := ?vv12) rfl (by kernel_rfl) (by kernel_rfl) (by kernel_rfl) (fun _ _ _ h => h) (Or.inl ⟨by rfl, fun w hSw => ?hyy12⟩) (by assumption) ?_
                case hyy12 => (dsimp only at hSw; go_simp; try (with_reducible rfl))
                (try simp only [Act.put, List.setIfInBounds_toArray, List.set_cons_zero, List.set_cons_succ])
                refine wpAnyH_ready (rs := [13]) (by kernel_rfl) (by simp) ?_
                refine AllReadyH.cons rfl (fun K hK => ?_) AllReadyH.nil
                go_simp
                have hq := In_c Y Z[j] _ _ _ hHeld.2.y; rw [hiy] at hq; refine hq.mono ?_; clear hq; rintro e w3 ⟨rfl, hb3⟩
                go_wp2_with fail
                refine hK.out _ _ (V3.held (by assumption) (by assumption)) (fun hHeld => ?_)
                clear hK K
                (try simp only [Act.put, List.setIfInBounds_toArray, List.set_cons_zero, List.set_cons_succ])
                refine wpAnyH_take (i := 14) (oi := ⟨some 72, _, _, _, _, _⟩) (v := ?vv14) rfl (by kernel_rfl) (by kernel_rfl) (by kernel_rfl) (fun _ _ _ h => h) (Or.inl ⟨by rfl, fun w hSw => ?hyy14⟩) (by assumption) ?_
                case hyy14 => (dsimp only at hSw; go_simp; try (with_reducible rfl))
                (try simp only [Act.put, List.setIfInBounds_toArray, List.set_cons_zero, List.set_cons_succ])
                refine wpAnyH_take (i := 15) (oi := ⟨some 73, _, _, _, _, _⟩) (v := ?vv15) rfl (by kernel_rfl) (by kernel_rfl) (by kernel_rfl) (fun _ _ _ h => h) (Or.inl ⟨by rfl, fun w hSw => ?hyy15⟩) (by assumption) ?_
                case hyy15 => (dsimp only at hSw; go_simp; try (with_reducible rfl))
                (try simp only [Act.put, List.setIfInBounds_toArray, List.set_cons_zero, List.set_cons_succ])
                refine wpAnyH_take (i := 16) (oi := ⟨some 74, _, _, _, _, _⟩) (v := ?vv16) rfl (by kernel_rfl) (by kernel_rfl) (by kernel_rfl) (fun _ _ _ h => h) (Or.inl ⟨by rfl, fun w hSw => ?hyy16⟩) (by assumption) ?_
                case hyy16 => (dsimp only at hSw; go_simp; try (with_reducible rfl))
                (try simp only [Act.put, List.setIfInBounds_toArray, List.set_cons_zero, List.set_cons_succ])
                refine wpAnyH_take (i := 17) (oi := ⟨some 75, _, _, _, _, _⟩) (v := ?vv17) rfl (by kernel_rfl) (by kernel_rfl) (by kernel_rfl) (fun _ _ _ h => h) (Or.inl ⟨by rfl, fun w hSw => ?hyy17⟩) (by assumption) ?_
                case hyy17 => (dsimp only at hSw; go_simp; try (with_reducible rfl))
                (try simp only [Act.put, List.setIfInBounds_toArray, List.set_cons_zero, List.set_cons_succ])
                refine wpAnyH_take (i := 18) (oi := ⟨some 76, _, _, _, _, _⟩) (v := ?vv18) rfl (by kernel_rfl) (by kernel_rfl) (by kernel_rfl) (fun _ _ _ h => h) (Or.inl ⟨by rfl, fun w hSw => ?hyy18⟩) (by assumption) ?_
                case hyy18 => (dsimp only at hSw; go_simp; try (with_reducible rfl))
                (try simp only [Act.put, List.setIfInBounds_toArray, List.set_cons_zero, List.set_cons_succ])
                refine wpAnyH_take (i := 19) (oi := ⟨some 77, _, _, _, _, _⟩) (v := ?vv19) rfl (by kernel_rfl) (by kernel_rfl) (by kernel_rfl) (fun _ _ _ h => h) (Or.inl ⟨by rfl, fun w hSw => ?hyy19⟩) (by assumption) ?_
                case hyy19 => (dsimp only at hSw; go_simp; try (with_reducible rfl))
                (try simp only [Act.put, List.setIfInBounds_toArray, List.set_cons_zero, List.set_cons_succ])
                refine wpAnyH_take (i := 20) (oi := ⟨some 78, _, _, _, _, _⟩) (v := ?vv20) rfl (by kernel_rfl) (by kernel_rfl) (by kernel_rfl) (fun _ _ _ h => h) (Or.inl ⟨by rfl, fun w hSw => ?hyy20⟩) (by assumption) ?_
                case hyy20 => (dsimp only at hSw; go_simp; try (with_reducible rfl))
                (try simp only [Act.put, List.setIfInBounds_toArray, List.set_cons_zero, List.set_cons_succ])
                refine wpAnyH_take (i := 21) (oi := ⟨some 79, _, _, _, _, _⟩) (v := ?vv21) rfl (by kernel_rfl) (by kernel_rfl) (by kernel_rfl) (fun _ _ _ h => h) (Or.inl ⟨by rfl, fun w hSw => ?hyy21⟩) (by assumption) ?_
                case hyy21 => (dsimp only at hSw; go_simp; try (with_reducible rfl))
                (try simp only [Act.put, List.setIfInBounds_toArray, List.set_cons_zero, List.set_cons_succ])
                refine wpAnyH_take (i := 22) (oi := ⟨some 80, _, _, _, _, _⟩) (v := ?vv22) rfl (by kernel_rfl) (by kernel_rfl) (by kernel_rfl) (fun _ _ _ h => h) (Or.inl ⟨by rfl, fun w hSw => ?hyy22⟩) (by assumption) ?_
                case hyy22 => (dsimp only at hSw; go_simp; try (with_reducible rfl))
                (try simp only [Act.put, List.setIfInBounds_toArray, List.set_cons_zero, List.set_cons_succ])
                refine wpAnyH_take (i := 23) (oi := ⟨some 81, _, _, _, _, _⟩) (v := ?vv23) rfl (by kernel_rfl) (by kernel_rfl) (by kernel_rfl) (fun _ _ _ h => h) (Or.inl ⟨by rfl, fun w hSw => ?hyy23⟩) (by assumption) ?_
                case hyy23 => (dsimp only at hSw; go_simp; try (with_reducible rfl))
                (try simp only [Act.put, List.setIfInBounds_toArray, List.set_cons_zero, List.set_cons_succ])
                refine wpAnyH_ready (rs := [24]) (by kernel_rfl) (by simp) ?_
                refine AllReadyH.cons rfl (fun K hK => ?_) AllReadyH.nil
                go_simp
                have hq := In_c (Z.take j) Z[j] _ _ _ (Kd.S.take hHeld.2.z hj); rw [hnt] at hq; refine hq.mono ?_; clear hq; rintro e w3 ⟨rfl, hb3⟩
                go_wp2_with fail
                refine hK.out _ _ (V3.held (by assumption) (by assumption)) (fun hHeld => ?_)
                clear hK K
                (try simp only [Act.put, List.setIfInBounds_toArray, List.set_cons_zero, List.set_cons_succ])
                refine wpAnyH_take (i := 25) (oi := ⟨some 83, _, _, _, _, _⟩) (v := ?vv25) rfl (by kernel_rfl) (by kernel_rfl) (by kernel_rfl) (fun _ _ _ h => h) (Or.inl ⟨by rfl, fun w hSw => ?hyy25⟩) (by assumption) ?_
                case hyy25 => (dsimp only at hSw; go_simp; try (with_reducible rfl))
                (try simp only [Act.put, List.setIfInBounds_toArray, List.set_cons_zero, List.set_cons_succ])
                refine wpAnyH_done (by kernel_rfl) ?_ _
                all_goals
                  go_wp2
                  go_roundw
                  case rel => exact ⟨j + 1, by omega, by go_num, And.right (by assumption : _ ∧ V3 w ok a b (.slice A a.l.length c) (.slice A' b.l.length c') X Y Z (.slice Ax X.length cx) (.slice Ay Y.length cy) (.slice (some ⟨bz, oz, none⟩) Z.length cz) _)⟩
                  case measure => simp [intOf]; omega
            · have hgr := HGr.out _ hV.t
              clear HGr
              obtain ⟨c0, c1, c2, c3, -⟩ := hV.t.x1.held
              go_wp2_with (first
                | (go_at_call 23; refine hgr.mono ?_; clear hgr; rintro e w3 ⟨rfl, hb3⟩; replace hV := hV.then hb3; clear hb3)
                | (go_at_call 14; refine (wakes_c _).mono ?_; rintro e w4 ⟨rfl, hb4⟩; replace hV := hV.then hb4))
              go_ret
              exact ⟨rfl, hV.t.x1.below⟩
end Go.Proofs.Ytgoeglahmlpmeaa

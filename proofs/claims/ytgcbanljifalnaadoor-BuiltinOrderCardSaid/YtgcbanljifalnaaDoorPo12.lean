import Derived.Test.YtgcbanljifalnaaDoorPo11
set_option linter.unusedVariables false
set_option maxRecDepth 20000
set_option linter.unusedSimpArgs false
/- Layer 13 (arith): what a term is worth, walked. Conditions: the arguments read; the bindings make no circle. -/
namespace Go.Proofs.YtgcbanljifalnaaDoor
open Go.RowKit Go.WideMaps

/-- What a walked term is worth. -/
def evX (l : Bs) (f : Nat) (x : Tm) (c : Nat) : Rk × Nat :=
    if x.k = 1 then (.er 20, c + 1)
    else if x.k = 2 then (.ok x.n, c + 1)
    else if x.k = 4 then
      match x.l with
      | [a] => if x.s = ⟨#[45]⟩ then (match evF l f a (c + 1) with
          | (.ok x, c') => (subR 0 x, c')
          | (.er e, c') => (.er e, c')) else (.er 21, c + 1)
      | [a, b] => if isOp x.s = true then (match evF l f a (c + 1) with
          | (.ok y, c') => (match evF l f b c' with
            | (.ok z, c'') => (opI x.s y z, c'')
            | (.er e, c'') => (.er e, c''))
          | (.er e, c') => (.er e, c')) else (.er 21, c + 1)
      | _ => (.er 21, c + 1)
    else (.er 21, c + 1)
theorem evF_succ (l : Bs) (f : Nat) (t : Tm) {c : Nat} (h : c + 1 ≤ 4096) : evF l (f + 1) t c = evX l f (wlk l t) c := by
  rw [evF, if_neg (by omega)]
  rfl
theorem evX_neg {l : Bs} {f : Nat} {x a : Tm} {c : Nat} (hk : x.k = 4) (hs : x.s = ⟨#[45]⟩) (hl : x.l = [a]) : evX l f x c = (match evF l f a (c + 1) with
          | (.ok y, c') => (subR 0 y, c')
          | (.er e, c') => (.er e, c')) := by
  unfold evX
  rw [if_neg (by omega), if_neg (by omega), if_pos hk, hl]
  simp only [hs, if_true]
theorem evX_op {l : Bs} {f : Nat} {x a b : Tm} {c : Nat} (hk : x.k = 4) (hs : isOp x.s = true) (hl : x.l = [a, b]) : evX l f x c = (match evF l f a (c + 1) with
          | (.ok y, c') => (match evF l f b c' with
            | (.ok z, c'') => (opI x.s y z, c'')
            | (.er e, c'') => (.er e, c''))
          | (.er e, c') => (.er e, c')) := by
  unfold evX
  rw [if_neg (by omega), if_neg (by omega), if_pos hk, hl]
  simp only [hs, if_true]
theorem evX_no {l : Bs} {f : Nat} {x : Tm} {c : Nat} (h1 : x.k ≠ 1) (h2 : x.k ≠ 2) (h3 : ¬ (x.k = 4 ∧ x.s = ⟨#[45]⟩ ∧ x.l.length = 1)) (h4 : ¬ (x.k = 4 ∧ isOp x.s = true ∧ x.l.length = 2)) : evX l f x c = (.er 21, c + 1) := by
  unfold evX
  rw [if_neg h1, if_neg h2]
  split
  · rename_i hk
    split
    · rename_i a hl
      rw [if_neg (fun hs => h3 ⟨hk, hs, by rw [hl]; rfl⟩)]
    · rename_i a b hl
      rw [if_neg (fun hs => h4 ⟨hk, hs, by rw [hl]; rfl⟩)]
    · rfl
  · rfl
/-- An argument, in memory. -/
theorem arg_at {W3 : World} {ok : Nat → Prop} {L : List Tm} {bb o n c R : Nat} (hS : Kd.tm.S W3 ok L (.slice (some ⟨bb, o, none⟩) n c)) (hok : ∀ i, ok i → i ≠ R ∧ i < W3.heap.size) {j : Nat} (hj : j < L.length) :
    ∃ Au cu, (∀ W, W3.grownBy W (some R) → W.cell? ⟨bb, o + j * 4, none⟩ = some (.int .u8 L[j].k) ∧ W.cell? ⟨bb, o + j * 4 + 1, none⟩ = some (.string L[j].s) ∧ W.cell? ⟨bb, o + j * 4 + 2, none⟩ = some (.int .i64 L[j].n) ∧ W.cell? ⟨bb, o + j * 4 + 3, none⟩ = some (.slice Au L[j].l.length cu)) ∧
      ∀ W, W3.grownBy W (some R) → TmV W ok L[j] (.agg #[.int .u8 L[j].k, .string L[j].s, .int .i64 L[j].n, .slice Au L[j].l.length cu]) := by
  obtain ⟨A', c', eA, -, -, hA⟩ := hS
  injection eA with eA1 eA2 eA3
  subst eA1
  obtain ⟨b', o', u, eB, hokb, hlo, h0, h1, h2, h3, h4⟩ := tm_elem hA hj
  injection eB with eB
  injection eB with e1 e2
  subst e1 e2
  obtain ⟨Au, cu, rfl⟩ := h4.form
  refine ⟨Au, cu, fun W hg => ?_, fun W hg => ⟨_, rfl, Kd.S.move (fun i hi => hg.block i (hok i hi).2 (fun e => (hok i hi).1 (by injection e))) h4⟩⟩
  have hbW := hg.block bb hlo (fun e => (hok bb hokb).1 (by injection e))
  exact ⟨(cell_of_block hbW _).trans h0, (cell_of_block hbW _).trans h1, (cell_of_block hbW _).trans h2, (cell_of_block hbW _).trans h3⟩
/-- A reckoner: its substitution, its nodes. -/
abbrev RkAt (w : World) (R p : Nat) (n : Int) : Prop := w.heap[R]? = some (.cells #[.pointer (some ⟨p, 0, none⟩), .int .i64 n] 139 (0, 0))
theorem rkAt_set {w : World} {R p : Nat} {n : Int} (h : RkAt w R p n) (m : Int) : RkAt (w.setCell ⟨R, 1, none⟩ (.int .i64 m)) R p m := by
  unfold RkAt at *
  simp [World.setCell, Array.getElem?_modify, h]
/-- What 'eval' leaves behind. -/
def EvPost (w : World) (R p : Nat) (r : Rk × Nat) (e : Ending) (w' : World) : Prop :=
  (match r.1 with
   | .ok n => e = .returned (.int .i64 n) ∧ RkAt w' R p (r.2 : Int) ∧ r.2 ≤ 4096
   | .er c => e = wrongEnd c) ∧ w.grownBy w' (some R)
theorem EvPost.ok {w w' : World} {R p : Nat} {r : Rk × Nat} {n : Int} {c : Nat} (h : r = (.ok n, c)) (hr : RkAt w' R p (c : Int)) (hc : c ≤ 4096) (hg : w.grownBy w' (some R)) : EvPost w R p r (.returned (.int .i64 n)) w' := by subst h; exact ⟨⟨rfl, hr, hc⟩, hg⟩
theorem EvPost.er {w w' : World} {R p : Nat} {r : Rk × Nat} {e : Int} (h : r.1 = .er e) (hg : w.grownBy w' (some R)) : EvPost w R p r (wrongEnd e) w' := by unfold EvPost; rw [h]; exact ⟨rfl, hg⟩
set_option maxRecDepth 100000 in
set_option maxHeartbeats 8000000 in
theorem eval_c (l : Bs) (p b R : Nat) (hp : p ≠ R) (hb : b ≠ R) : ∀ (f : Nat) (t : Tm), Fn l f t → ∀ (n : Nat) (v : Value) (w : World) (ok : Nat → Prop), Sub w ok l p b → TmV w ok t v → t.Wf → (∀ i, ok i → i ≠ R ∧ i < w.heap.size) → RkAt w R p (n : Int) → n ≤ 4096 →
    Calls Tryd.prog 117 #[.pointer (some ⟨R, 0, none⟩), v] w (EvPost w R p (evF l f t n)) := by
  intro f
  induction f with
  | zero => intro t hf; exact hf.elim
  | succ f ih =>
  intro t hf n v w ok hs hv hwf hok hrn hn
  obtain ⟨u, rfl, hvS⟩ := hv
  obtain ⟨A0, c0, rfl⟩ := hvS.form
  have hRl := (Array.getElem?_eq_some_iff.1 hrn).1
  have hff : ∀ a ∈ (wlk l t).l, Fn l f a := hf
  have hxw := wlk_wf hs.wf t hwf
  obtain ⟨j0, j1, l0, l1⟩ := box2 hrn
  by_cases hfull : n = 4096
  · subst hfull
    have HRES : Hid ((evF l (f + 1) t 4096).1 = .er 31) := Lib.hid (by rw [evF, if_pos (by omega)])
    generalize evF l (f + 1) t 4096 = O at HRES ⊢
    clear hvS hf ih hff hs hwf hxw hok hn
    go_enter Tryd.func117, Tryd.ntmps117
    go_wp2_with (go_at_call 132; refine (check_yes _ _).mono ?_; rintro e w1 ⟨rfl, hw1⟩; rw [hw1]; clear hw1)
    exact ⟨rfl, .er HRES.out (gbelow (grown_set w R 1 _) ((Below.refl _ _).alloc (Nat.le_refl _) _))⟩
  · have hn1 : n + 1 ≤ 4096 := by omega
    have hW1 : w.grownBy ((w.setCell ⟨R, 1, none⟩ (.int .i64 ((n : Int) + 1))).alloc (.cells #[.int .u8 t.k, .string t.s, .int .i64 t.n, .slice A0 t.l.length c0] 24)).drew (some R) := gbelow (gbelow (grown_set w R 1 _) ((Below.refl _ _).alloc (Nat.le_refl _) _)) (Below.refl _ _).drew
    have HWK := Lib.hid (Walk_c l p b t (.agg #[.int .u8 t.k, .string t.s, .int .i64 t.n, .slice A0 t.l.length c0]) ((w.setCell ⟨R, 1, none⟩ (.int .i64 ((n : Int) + 1))).alloc (.cells #[.int .u8 t.k, .string t.s, .int .i64 t.n, .slice A0 t.l.length c0] 24)).drew ok (hs.grown hW1 (fun i hi e => (hok i hi).1 (by injection e)) (fun e => hp (by injection e)) (fun e => hb (by injection e))) ((TmV.grown hW1 (fun i hi e => (hok i hi).1 (by injection e)) ⟨_, rfl, hvS⟩)) hwf)
    obtain ⟨O, HO⟩ : ∃ O, Hid (O = evF l (f + 1) t n) := ⟨_, Lib.hid rfl⟩
    rw [← HO.out]
    have HEV := Lib.hid (HO.out.trans (evF_succ l f t hn1))
    clear HO
    generalize wlk l t = x at HWK hxw hff HEV
    have hrn1 : RkAt ((w.setCell ⟨R, 1, none⟩ (.int .i64 ((n : Int) + 1))).alloc (.cells #[.int .u8 t.k, .string t.s, .int .i64 t.n, .slice A0 t.l.length c0] 24)) R p ((n : Int) + 1) := block_below ((Below.refl _ (w.setCell ⟨R, 1, none⟩ (.int .i64 ((n : Int) + 1)))).alloc (Nat.le_refl _) _) (by simp [World.setCell]; exact hRl) (rkAt_set hrn ((n : Int) + 1))
    have hbx1 : ((w.setCell ⟨R, 1, none⟩ (.int .i64 ((n : Int) + 1))).alloc (.cells #[.int .u8 t.k, .string t.s, .int .i64 t.n, .slice A0 t.l.length c0] 24)).heap[w.heap.size]? = some (.cells #[.int .u8 t.k, .string t.s, .int .i64 t.n, .slice A0 t.l.length c0] 24 (0, 0)) := heap_at _ _ _ (by simp [World.setCell])
    have hz1 : ((w.setCell ⟨R, 1, none⟩ (.int .i64 ((n : Int) + 1))).alloc (.cells #[.int .u8 t.k, .string t.s, .int .i64 t.n, .slice A0 t.l.length c0] 24)).heap.size = w.heap.size + 1 := by simp [World.setCell]
    have HIH := Lib.hid ih
    have HFF := Lib.hid hff
    have HS := Lib.hid hs
    have HOK := Lib.hid hok
    have HXW := Lib.hid hxw
    have hdf : decide ((4096 : Int) < (n : Int) + 1) = false := by simp; omega
    clear hvS ih hff hs hwf hxw hok hrn hfull
    go_enter Tryd.func117, Tryd.ntmps117
    go_wp2_with (go_at_call 132; refine (check_no _ _).mono ?_; rintro e w1 ⟨rfl, hw1⟩; rw [hw1]; clear hw1)
    generalize ((w.setCell ⟨R, 1, none⟩ (.int .i64 ((n : Int) + 1))).alloc (.cells #[.int .u8 t.k, .string t.s, .int .i64 t.n, .slice A0 t.l.length c0] 24)) = W1 at HWK hrn1 hbx1 hz1 hW1 ⊢
    obtain ⟨r0, r1, q0, q1⟩ := box2 hrn1
    obtain ⟨c0, c1, c2, c3, f0, f1, f2, f3⟩ := box4 hbx1
    refine wp_region_held_drew (S := (fun W => W.cell? ⟨R, 0, none⟩ = some (.pointer (some ⟨p, 0, none⟩)))) (by kernel_rfl) ?_ (fun hHeld => ?_)
    · exact cell_below (Below.refl _ W1).drew r0 (cell_lt r0)
    change wpAnyH _ .any _ _ _ 7 (Array.replicate 7 false) _ _
    refine wpAnyH_take (i := 0) (oi := ⟨some 21, _, _, _, _, _⟩) (v := ?_) rfl (by kernel_rfl) (by kernel_rfl) (by kernel_rfl) (fun _ _ _ h => h) (Or.inl ⟨by rfl, ?_⟩) (by assumption) ?_
    rotate_left
    · (intro w hSw; (try dsimp only at hSw); go_simp; try (with_reducible rfl))
    (try simp only [Act.put, List.setIfInBounds_toArray, List.set_cons_zero, List.set_cons_succ])
    refine wpAnyH_take (i := 1) (oi := ⟨some 22, _, _, _, _, _⟩) (v := ?_) rfl (by kernel_rfl) (by kernel_rfl) (by kernel_rfl) (fun _ _ _ h => h) (Or.inl ⟨by rfl, ?_⟩) (by assumption) ?_
    rotate_left
    · (intro w hSw; (try dsimp only at hSw); go_simp; try (with_reducible rfl))
    (try simp only [Act.put, List.setIfInBounds_toArray, List.set_cons_zero, List.set_cons_succ])
    refine wpAnyH_take (i := 2) (oi := ⟨some 23, _, _, _, _, _⟩) (v := ?_) rfl (by kernel_rfl) (by kernel_rfl) (by kernel_rfl) (fun _ _ _ h => h) (Or.inl ⟨by rfl, ?_⟩) (by assumption) ?_
    rotate_left
    · (intro w hSw; (try dsimp only at hSw); go_simp; try (with_reducible rfl))
    (try simp only [Act.put, List.setIfInBounds_toArray, List.set_cons_zero, List.set_cons_succ])
    refine wpAnyH_take (i := 3) (oi := ⟨some 24, _, _, _, _, _⟩) (v := ?_) rfl (by kernel_rfl) (by kernel_rfl) (by kernel_rfl) (fun _ _ _ h => h) (Or.inl ⟨by rfl, ?_⟩) (by assumption) ?_
    rotate_left
    · (intro w hSw; (try dsimp only at hSw); go_simp; try (with_reducible rfl))
    (try simp only [Act.put, List.setIfInBounds_toArray, List.set_cons_zero, List.set_cons_succ])
    refine wpAnyH_ready (rs := [4]) (by kernel_rfl) (by simp) ?_
    refine AllReadyH.cons (o := ⟨some 25, _, _, _, _, _⟩) rfl (fun K hK => ?_) AllReadyH.nil
    go_simp
    refine hK.out _ _ (cell_below (Below.refl _ W1).drew r0 (cell_lt r0)) (fun hHeld => ?_)
    clear hK K
    (try simp only [Act.put, List.setIfInBounds_toArray, List.set_cons_zero, List.set_cons_succ])
    refine wpAnyH_ready (rs := [5]) (by kernel_rfl) (by simp) ?_
    refine AllReadyH.cons (o := ⟨some 26, _, _, _, _, _⟩) rfl (fun K hK => ?_) AllReadyH.nil
    go_simp
    go_at_call 23
    refine HWK.out.mono ?_
    clear HWK
    rintro e W2 ⟨⟨u2, rfl, uu2, rfl, hvS2⟩, hb2⟩
    obtain ⟨A, c, rfl⟩ := hvS2.form
    replace hb2 : Below W1.heap.size W1 W2 := below_then (Below.refl _ W1).drew (Nat.le_refl _) hb2
    have hrn2 := block_below hb2 (cell_lt r0) hrn1
    have hbx2 := block_below hb2 (cell_lt c0) hbx1
    clear r0 r1 q0 q1 c0 c1 c2 c3 f0 f1 f2 f3
    obtain ⟨r0, r1, q0, q1⟩ := box2 hrn2
    obtain ⟨c0, c1, c2, c3, f0, f1, f2, f3⟩ := box4 hbx2
    go_wp2_with fail
    refine hK.out _ _ r0 (fun hHeld => ?_)
    clear hK K
    (try simp only [Act.put, List.setIfInBounds_toArray, List.set_cons_zero, List.set_cons_succ])
    have hrn3 := ((grown_set4 W2 w.heap.size (.int .u8 x.k) (.string x.s) (.int .i64 x.n) (.slice A x.l.length c)).block R (cell_lt r0) (fun e => by injection e; omega)).trans hrn2
    refine wpAnyH_ready (rs := [6]) (by kernel_rfl) (by simp) ?_
    refine AllReadyH.cons (o := ⟨none, _, _, _, _, _⟩) rfl (fun K hK => ?_) AllReadyH.nil
    go_simp
    refine hK.out _ _ (box2 hrn3).1 (fun hHeld => ?_)
    clear hK K
    (try simp only [Act.put, List.setIfInBounds_toArray, List.set_cons_zero, List.set_cons_succ])
    refine wpAnyH_done (by kernel_rfl) ?_ _
    have hbx3 := set4_block (a := .int .u8 x.k) (b := .string x.s) (c := .int .i64 x.n) (d := .slice A x.l.length c) hbx2
    have hgW : w.grownBy W2 (some R) := gbelow (W := W1) ⟨hW1.os, hW1.tape, hW1.output, hW1.size, hW1.block⟩ hb2
    have hg3 := gfresh hgW (grown_set4 W2 w.heap.size (.int .u8 x.k) (.string x.s) (.int .i64 x.n) (.slice A x.l.length c)) (Nat.le_refl _)
    have hS3 := Kd.S.move (w' := ((((W2.setCell ⟨w.heap.size, 0, none⟩ (.int .u8 x.k)).setCell ⟨w.heap.size, 1, none⟩ (.string x.s)).setCell ⟨w.heap.size, 2, none⟩ (.int .i64 x.n)).setCell ⟨w.heap.size, 3, none⟩ (.slice A x.l.length c))) (fun i hi => (grown_set4 W2 w.heap.size (.int .u8 x.k) (.string x.s) (.int .i64 x.n) (.slice A x.l.length c)).block i (by have := (HOK.out i hi).2; have := hb2.size; omega) (fun e => by have := (HOK.out i hi).2; injection e; omega)) hvS2
    generalize ((((W2.setCell ⟨w.heap.size, 0, none⟩ (.int .u8 x.k)).setCell ⟨w.heap.size, 1, none⟩ (.string x.s)).setCell ⟨w.heap.size, 2, none⟩ (.int .i64 x.n)).setCell ⟨w.heap.size, 3, none⟩ (.slice A x.l.length c)) = W3 at hrn3 hbx3 hg3 hS3 ⊢
    clear r0 r1 q0 q1 c0 c1 c2 c3 f0 f1 f2 f3 hvS2 hHeld hbx2 hrn2 hb2 hgW hrn1 hbx1 hz1 hW1
    obtain ⟨c0, c1, c2, c3, -, -, -, -⟩ := box4 hbx3
    have HG3 := Lib.hid hg3
    have HRN := Lib.hid hrn3
    have HBX := Lib.hid hbx3
    have HS3 := Lib.hid hS3
    clear hg3 hrn3 hbx3 hS3
    by_cases hk1 : x.k = 1
    · have q : (x.k == 1) = true := by simpa using hk1
      have HRES : Hid (O = (.er 20, n + 1)) := Lib.hid (HEV.out.trans (if_pos hk1))
      clear hk1 HEV
      go_wp2_with (go_at_call 132; refine (check_yes _ _).mono ?_; rintro e w1 ⟨rfl, hw1⟩; rw [hw1]; clear hw1)
      exact ⟨rfl, .er (by rw [HRES.out]) HG3.out⟩
    · have q1 : (x.k == 1) = false := by simpa using hk1
      by_cases hk2 : x.k = 2
      · have q2 : (x.k == 2) = true := by simpa using hk2
        have HRES : Hid (O = (.ok x.n, n + 1)) := Lib.hid (HEV.out.trans (by unfold evX; rw [if_neg hk1, if_pos hk2]))
        clear hk1 hk2 HEV
        go_wp2_with (go_at_call 132; refine (check_no _ _).mono ?_; rintro e w1 ⟨rfl, hw1⟩; rw [hw1]; clear hw1)
        go_ret
        exact .ok HRES.out HRN.out hn1 HG3.out
      · have q2 : (x.k == 2) = false := by simpa using hk2
        have HOK3 : Hid (∀ i, ok i → i ≠ R ∧ i < W3.heap.size) := Lib.hid (fun i hi => ⟨(HOK.out i hi).1, Nat.lt_of_lt_of_le (HOK.out i hi).2 HG3.out.size⟩)
        have HBOX : Hid (∀ W, W3.grownBy W (some R) → W.cell? ⟨w.heap.size, 0, none⟩ = some (.int .u8 x.k) ∧ W.cell? ⟨w.heap.size, 1, none⟩ = some (.string x.s) ∧ W.cell? ⟨w.heap.size, 2, none⟩ = some (.int .i64 x.n) ∧ W.cell? ⟨w.heap.size, 3, none⟩ = some (.slice A x.l.length c)) := Lib.hid (fun W hg => by
          have hb := (hg.block w.heap.size (Array.getElem?_eq_some_iff.1 HBX.out).1 (fun e => by injection e; omega)).trans HBX.out
          obtain ⟨d0, d1, d2, d3, -⟩ := box4 hb
          exact ⟨d0, d1, d2, d3⟩)
        have HIX : Hid (∀ j (hj : j < x.l.length) W (n' : Nat) va, W3.grownBy W (some R) → RkAt W R p (n' : Int) → n' ≤ 4096 → TmV W ok x.l[j] va → Calls Tryd.prog 117 #[.pointer (some ⟨R, 0, none⟩), va] W (EvPost W R p (evF l f x.l[j] n'))) := Lib.hid (fun j hj W n' va hg hr hn' hv =>
          HIH.out x.l[j] (HFF.out _ (List.getElem_mem hj)) n' va W ok (HS.out.grown (HG3.out.trans hg) (fun i hi e => (HOK.out i hi).1 (by injection e)) (fun e => hp (by injection e)) (fun e => hb (by injection e))) hv (WfL_at HXW.out.parts.2.2.2 hj) (fun i hi => ⟨(HOK.out i hi).1, Nat.lt_of_lt_of_le (HOK.out i hi).2 (HG3.out.trans hg).size⟩) hr hn')
        have HIN : Hid (∀ j (hj : j < x.l.length) n' m, (evF l f x.l[j] n').1 = .ok m → in64 m) := Lib.hid (fun j hj n' m h => evF_in HS.out.wf f _ n' m (WfL_at HXW.out.parts.2.2.2 hj) h)
        by_cases hneg : x.k = 4 ∧ x.s = ⟨#[45]⟩ ∧ x.l.length = 1
        · obtain ⟨hk4, hs4, hl4⟩ := hneg
          obtain ⟨a, hxa⟩ : ∃ a, x.l = [a] := by
            match hx : x.l, hl4 with
            | [a], _ => exact ⟨a, rfl⟩
          have hl0 : 0 < x.l.length := by omega
          have hxa0 : x.l[0] = a := by simp [hxa]
          obtain ⟨bb, o, rfl⟩ : ∃ bb o, A = some ⟨bb, o, none⟩ := by
            obtain ⟨A', c', eA, -, -, hA⟩ := HS3.out
            injection eA with eA1 eA2 eA3
            subst eA1
            obtain ⟨bb, o, e, _⟩ := hA.resolve_left (fun h => by rw [h.1] at hl0; simp at hl0)
            exact ⟨bb, o, e⟩
          obtain ⟨Au, cu, k1, k2⟩ := arg_at HS3.out HOK3.out hl0
          obtain ⟨g0, g1, g2, g3⟩ := k1 W3 (gnone (Below.refl _ _))
          have HI := Lib.hid (HIX.out 0 hl0 W3 (n + 1) _ (gnone (Below.refl _ _)) HRN.out hn1 (k2 W3 (gnone (Below.refl _ _))))
          have HM := Lib.hid (HIN.out 0 hl0 (n + 1))
          rw [hxa0] at g0 g1 g2 g3 HI HM
          simp only [Nat.zero_mul, Nat.add_zero] at g0 g1 g2 g3
          have HRES := Lib.hid (HEV.out.trans (evX_neg hk4 hs4 hxa))
          have q4 : (x.k == 4) = true := by simpa using hk4
          have q5 : x.s.toList = [45] := by rw [hs4]; kernel_rfl
          have q6 : ((x.l.length : Int) == 1) = true := by simp [hl4]
          have q7 : (0 : Int) < x.l.length := by omega
          clear hk1 hk2 hk4 hs4 hl4 hxa hl0 hxa0 k1 k2 HEV
          generalize evF l f a (n + 1) = E at HI HM HRES
          obtain ⟨r, n'⟩ := E
          cases r with
          | er ec =>
            go_wp2_with (first
              | (go_at_call_has 132 (Value.bool false); refine (check_no _ _).mono ?_; rintro e w1 ⟨rfl, hw1⟩; rw [hw1]; clear hw1)
              | (go_at_call 117; refine HI.out.mono ?_; clear HI; rintro e w4 ⟨he, hg4⟩; replace he : e = wrongEnd ec := he; subst he))
            exact ⟨rfl, .er (by rw [HRES.out]) (HG3.out.trans hg4)⟩
          | ok m =>
            have hm := HM.out m rfl
            have HNG := Lib.hid (neg_c m hm)
            clear hm HM
            cases hsub : subR 0 m with
            | er ec =>
              rw [hsub] at HNG
              have HRS := Lib.hid (HRES.out.trans (show _ = ((.er ec, n') : Rk × Nat) by rw [← hsub]))
              clear hsub HRES
              go_wp2_with (first
                | (go_at_call_has 132 (Value.bool false); refine (check_no _ _).mono ?_; rintro e w1 ⟨rfl, hw1⟩; rw [hw1]; clear hw1)
                | (go_at_call 117; refine HI.out.mono ?_; clear HI; rintro e w4 ⟨⟨rfl, hr4, hn4⟩, hg4⟩)
                | (go_at_call 133; refine (HNG.out _).mono ?_; clear HNG; rintro e w5 ⟨he, hb5⟩; replace he : e = wrongEnd ec := he; subst he))
              exact ⟨rfl, .er (by rw [HRS.out]) (gbelow (HG3.out.trans hg4) hb5)⟩
            | ok z =>
              rw [hsub] at HNG
              have HRS := Lib.hid (HRES.out.trans (show _ = ((.ok z, n') : Rk × Nat) by rw [← hsub]))
              clear hsub HRES
              go_wp2_with (first
                | (go_at_call_has 132 (Value.bool false); refine (check_no _ _).mono ?_; rintro e w1 ⟨rfl, hw1⟩; rw [hw1]; clear hw1)
                | (go_at_call 117; refine HI.out.mono ?_; clear HI; rintro e w4 ⟨⟨rfl, hr4, hn4⟩, hg4⟩; have HR4 := Lib.hid hr4; clear hr4)
                | (go_at_call 133; refine (HNG.out _).mono ?_; clear HNG; rintro e w5 ⟨he, hb5⟩; replace he : e = .returned (.int .i64 z) := he; subst he))
              go_ret
              exact .ok HRS.out (block_below hb5 (Array.getElem?_eq_some_iff.1 HR4.out).1 HR4.out) hn4 (gbelow (HG3.out.trans hg4) hb5)
        · go_upto_region 7 with (go_at_call_has 132 (Value.bool false); refine (check_no _ _).mono ?_; rintro e w1 ⟨rfl, hw1⟩; rw [hw1]; clear hw1)
          go_cut [49] (fun d wx => d = .bool false ∧ wx = W3)
          case first =>
            by_cases k4 : x.k = 4
            · have q4 : (x.k == 4) = true := by simpa using k4
              by_cases n45 : x.s = ⟨#[45]⟩
              · have q6 : ((x.l.length : Int) == 1) = false := by
                  have : x.l.length ≠ 1 := fun h => hneg ⟨k4, n45, h⟩
                  simp; omega
                have q5 : x.s.toList = [45] := by rw [n45]; kernel_rfl
                clear hneg k4 n45 hk1 hk2
                go_wp2
                go_meet
                case rel => exact ⟨rfl, rfl⟩
              · have q5 : ¬ x.s.toList = [45] := fun h => n45 (toList_inj (h.trans (by kernel_rfl)))
                clear hneg k4 n45 hk1 hk2
                go_wp2
                go_meet
                case rel => exact ⟨rfl, rfl⟩
            · have q4 : (x.k == 4) = false := by simpa using k4
              clear hneg k4 hk1 hk2
              go_wp2
              go_meet
              case rel => exact ⟨rfl, rfl⟩
          case rest =>
            obtain ⟨rfl, hwc⟩ := hcut
            rw [hwc]
            clear hwc
            have HNEG := Lib.hid hneg
            have HK12 := Lib.hid (And.intro hk1 hk2)
            have hsz := HXW.out.parts.2.2.1
            clear hneg hk1 hk2
            have hz : ∀ w, (zeroValue 161).run Tryd.prog w = .ok .nilFunc w := fun w => by kernel_rfl
            have HZ := Lib.hid hz
            have HSZ := Lib.hid hsz
            clear hz hsz
            by_cases hop : isOp x.s = true
            · obtain ⟨g, hmem, eg, hgc⟩ := op_fn hop
              have HMEM := Lib.hid hmem
              have HGC := Lib.hid hgc
              clear hmem hgc
              by_cases hgood : x.k = 4 ∧ x.l.length = 2
              · obtain ⟨hk4, hl2⟩ := hgood
                obtain ⟨a, d, hxa⟩ : ∃ a d, x.l = [a, d] := by
                  match hx : x.l, hl2 with
                  | [a, d], _ => exact ⟨a, d, rfl⟩
                have hl0 : 0 < x.l.length := by omega
                have hl1 : 1 < x.l.length := by omega
                have hxa0 : x.l[0] = a := by simp [hxa]
                have hxa1 : x.l[1] = d := by simp [hxa]
                obtain ⟨bb, o, rfl⟩ : ∃ bb o, A = some ⟨bb, o, none⟩ := by
                  obtain ⟨A', c', eA, -, -, hA⟩ := HS3.out
                  injection eA with eA1 eA2 eA3
                  subst eA1
                  obtain ⟨bb, o, e, _⟩ := hA.resolve_left (fun h => by rw [h.1] at hl0; simp at hl0)
                  exact ⟨bb, o, e⟩
                obtain ⟨Au, cu, k1, k2⟩ := arg_at HS3.out HOK3.out hl0
                obtain ⟨Av, cv, m1, m2⟩ := arg_at HS3.out HOK3.out hl1
                have HI1 := Lib.hid (HIX.out 0 hl0)
                have HI2 := Lib.hid (HIX.out 1 hl1)
                have HM1 := Lib.hid (HIN.out 0 hl0)
                have HM2 := Lib.hid (HIN.out 1 hl1)
                rw [hxa0] at k1 k2 HI1 HM1
                rw [hxa1] at m1 m2 HI2 HM2
                simp only [Nat.zero_mul, Nat.one_mul, Nat.add_zero] at k1 m1
                have HK1 := Lib.hid k1
                have HK2 := Lib.hid k2
                have HM1' := Lib.hid m1
                have HM2' := Lib.hid m2
                have HRES := Lib.hid (HEV.out.trans (evX_op hk4 hop hxa))
                have q4 : (x.k == 4) = true := by simpa using hk4
                have q6 : ((x.l.length : Int) != 2) = false := by simp [hl2]
                have q9 : (x.k != 4) = false := by simp [hk4]
                have q7 : (0 : Int) < x.l.length := by omega
                have q8 : (1 : Int) < x.l.length := by omega
                clear hk4 hl2 hxa hl0 hl1 hxa0 hxa1 k1 k2 m1 m2 HEV hop HIX HIN
                go_wp2_with (go_at_call_has 132 (Value.bool false); refine (check_no _ _).mono ?_; rintro e w1 ⟨rfl, hw1⟩; rw [hw1]; clear hw1)
                refine wp_region_held_drew (S := (fun W => W.cell? ⟨w.heap.size, 1, none⟩ = some (.string x.s))) (by kernel_rfl) ?_ (fun hHeld => ?_)
                · exact (HBOX.out _ (gnone (Below.refl _ W3).drew)).2.1
                change wpAnyH _ .any _ _ _ 9 (Array.replicate 9 false) _ _
                refine wpAnyH_take (i := 1) (oi := ⟨some 59, _, _, _, _, _⟩) (v := ?_) rfl (by kernel_rfl) (by kernel_rfl) (by kernel_rfl) (fun _ _ _ h => h) (Or.inl ⟨by rfl, ?_⟩) (by assumption) ?_
                rotate_left
                · (intro w hSw; (try dsimp only at hSw); go_simp; try (with_reducible rfl))
                (try simp only [Act.put, List.setIfInBounds_toArray, List.set_cons_zero, List.set_cons_succ])
                refine wpAnyH_take (i := 2) (oi := ⟨some 60, _, _, _, _, _⟩) (v := ?_) rfl (by kernel_rfl) (by kernel_rfl) (by kernel_rfl) (fun _ _ _ h => h) (Or.inl ⟨by rfl, ?_⟩) (by assumption) ?_
                rotate_left
                · (intro w hSw; (try dsimp only at hSw); go_simp; try (with_reducible rfl))
                (try simp only [Act.put, List.setIfInBounds_toArray, List.set_cons_zero, List.set_cons_succ])
                refine wpAnyH_ready (rs := [0]) (by kernel_rfl) (by simp) ?_
                refine AllReadyH.cons (o := ⟨some 58, _, _, _, _, _⟩) rfl (fun K hK => ?_) AllReadyH.nil
                go_simp
                go_at_call 134
                refine (operators_c _).mono ?_
                rintro e w5 ⟨⟨mb, rfl, hM5⟩, hb5⟩
                replace hb5 : Below W3.heap.size W3 w5 := below_then (Below.refl _ W3).drew (Nat.le_refl _) hb5
                have hlk := Mp.look_some Tryd.strLaw Tryd.underlying163 hM5 opL_keys true HMEM.out
                simp only [if_true] at hlk
                go_wp2_with fail
                refine hK.out _ _ (HBOX.out _ (gnone hb5)).2.1 (fun hHeld => ?_)
                clear hK K
                (try simp only [Act.put, List.setIfInBounds_toArray, List.set_cons_zero, List.set_cons_succ])
                refine wpAnyH_ready (rs := [3]) (by kernel_rfl) (by simp) ?_
                refine AllReadyH.cons (o := ⟨some 61, _, _, _, _, _⟩) rfl (fun K hK => ?_) AllReadyH.nil
                go_simp
                refine hK.out _ _ (HBOX.out _ (gnone hb5)).2.1 (fun hHeld => ?_)
                clear hK K
                (try simp only [Act.put, List.setIfInBounds_toArray, List.set_cons_zero, List.set_cons_succ])
                refine wpAnyH_take (i := 4) (oi := ⟨some 57, _, _, _, _, _⟩) (v := ?_) rfl (by kernel_rfl) (by kernel_rfl) (by kernel_rfl) (fun _ _ _ h => h) (Or.inl ⟨by rfl, ?_⟩) (by assumption) ?_
                rotate_left
                · (intro w hSw; (try dsimp only at hSw); go_simp; try (with_reducible rfl))
                (try simp only [Act.put, List.setIfInBounds_toArray, List.set_cons_zero, List.set_cons_succ])
                refine wpAnyH_take (i := 5) (oi := ⟨some 62, _, _, _, _, _⟩) (v := ?_) rfl (by kernel_rfl) (by kernel_rfl) (by kernel_rfl) (fun _ _ _ h => h) (Or.inl ⟨by rfl, ?_⟩) (by assumption) ?_
                rotate_left
                · (intro w hSw; (try dsimp only at hSw); go_simp; try (with_reducible rfl))
                (try simp only [Act.put, List.setIfInBounds_toArray, List.set_cons_zero, List.set_cons_succ])
                refine wpAnyH_take (i := 6) (oi := ⟨some 63, _, _, _, _, _⟩) (v := ?_) rfl (by kernel_rfl) (by kernel_rfl) (by kernel_rfl) (fun _ _ _ h => h) (Or.inl ⟨by rfl, ?_⟩) (by assumption) ?_
                rotate_left
                · (intro w hSw; (try dsimp only at hSw); go_simp; try (with_reducible rfl))
                (try simp only [Act.put, List.setIfInBounds_toArray, List.set_cons_zero, List.set_cons_succ])
                refine wpAnyH_take (i := 7) (oi := ⟨some 5, _, _, _, _, _⟩) (v := ?_) rfl (by kernel_rfl) (by kernel_rfl) (by kernel_rfl) (fun _ _ _ h => h) (Or.inl ⟨by rfl, ?_⟩) (by assumption) ?_
                rotate_left
                · (intro w hSw; (try dsimp only at hSw); go_simp; try (with_reducible rfl))
                (try simp only [Act.put, List.setIfInBounds_toArray, List.set_cons_zero, List.set_cons_succ])
                refine wpAnyH_take (i := 8) (oi := ⟨some 6, _, _, _, _, _⟩) (v := ?_) rfl (by kernel_rfl) (by kernel_rfl) (by kernel_rfl) (fun _ _ _ h => h) (Or.inl ⟨by rfl, ?_⟩) (by assumption) ?_
                rotate_left
                · (intro w hSw; (try dsimp only at hSw); go_simp; try (with_reducible rfl))
                (try simp only [Act.put, List.setIfInBounds_toArray, List.set_cons_zero, List.set_cons_succ])
                refine wpAnyH_done (by kernel_rfl) ?_ _
                clear hlk hHeld
                have hcb := HBOX.out _ (gnone hb5)
                obtain ⟨c0, c1, c2, c3⟩ := hcb
                obtain ⟨g0, g1, g2, g3⟩ := HK1.out _ (gnone hb5)
                have HR5 := Lib.hid (block_below hb5 (Array.getElem?_eq_some_iff.1 HRN.out).1 HRN.out)
                have HI := Lib.hid (HI1.out w5 (n + 1) _ (gnone hb5) HR5.out hn1 (HK2.out _ (gnone hb5)))
                have HG5 := Lib.hid (gnone (r := some R) hb5)
                have HMa := Lib.hid (HM1.out (n + 1))
                clear hb5 HI1 HM1
                generalize evF l f a (n + 1) = E at HI HMa HRES
                obtain ⟨r, n'⟩ := E
                cases r with
                | er ec =>
                  go_wp2_with (first
                    | (go_at_call_has 132 (Value.bool false); refine (check_no _ _).mono ?_; rintro e w1 ⟨rfl, hw1⟩; rw [hw1]; clear hw1)
                    | (go_at_call 117; refine HI.out.mono ?_; clear HI; rintro e w6 ⟨he, hg6⟩; replace he : e = wrongEnd ec := he; subst he))
                  exact ⟨rfl, .er (by rw [HRES.out]) (HG3.out.trans (HG5.out.trans hg6))⟩
                | ok ma =>
                  have HIa := Lib.hid (HMa.out ma rfl)
                  clear HMa
                  have HTW : Hid (∀ w6, w5.grownBy w6 (some R) → RkAt w6 R p (n' : Int) → n' ≤ 4096 → Calls Tryd.prog 117 #[.pointer (some ⟨R, 0, none⟩), .agg #[.int .u8 d.k, .string d.s, .int .i64 d.n, .slice Av d.l.length cv]] w6 (EvPost w6 R p (evF l f d n'))) := Lib.hid (fun w6 hg6 hr6 hn6 => HI2.out w6 n' _ (HG5.out.trans hg6) hr6 hn6 (HM2'.out _ (HG5.out.trans hg6)))
                  have HMb := Lib.hid (HM2.out n')
                  have HRES2 : Hid (O = (match evF l f d n' with
                      | (.ok z, c'') => (opI x.s ma z, c'')
                      | (.er e, c'') => (.er e, c''))) := Lib.hid HRES.out
                  clear HRES
                  have HRES := HRES2
                  clear HRES2
                  clear HI2 HM2
                  generalize evF l f d n' = E at HTW HMb HRES
                  obtain ⟨r, n''⟩ := E
                  cases r with
                  | er ec =>
                    go_wp2_with (first
                      | (go_at_call_has 132 (Value.bool false); refine (check_no _ _).mono ?_; rintro e w1 ⟨rfl, hw1⟩; rw [hw1]; clear hw1)
                      | (go_at_call_has 117 (Value.slice Au a.l.length cu); refine HI.out.mono ?_; clear HI; rintro e w6 ⟨⟨rfl, hr6, hn6⟩, hg6⟩; have hcb := HBOX.out _ (HG5.out.trans hg6); clear c0 c1 c2 c3 g0 g1 g2 g3; obtain ⟨c0, c1, c2, c3⟩ := hcb; obtain ⟨g0, g1, g2, g3⟩ := HM1'.out _ (HG5.out.trans hg6))
                      | (go_at_call 117; refine (HTW.out _ hg6 hr6 hn6).mono ?_; clear HTW; rintro e w7 ⟨he, hg7⟩; replace he : e = wrongEnd ec := he; subst he))
                    exact ⟨rfl, .er (by rw [HRES.out]) (HG3.out.trans (HG5.out.trans (hg6.trans hg7)))⟩
                  | ok mb' =>
                    have HOPC := Lib.hid (HGC.out ma mb' HIa.out (HMb.out mb' rfl))
                    clear HMb HGC HIa
                    have HRS : Hid (O = (opI x.s ma mb', n'')) := Lib.hid HRES.out
                    clear HRES
                    generalize opI x.s ma mb' = V at HOPC HRS
                    cases V with
                    | er ec =>
                      go_wp2_with (first
                        | (go_at_call_has 132 (Value.bool false); refine (check_no _ _).mono ?_; rintro e w1 ⟨rfl, hw1⟩; rw [hw1]; clear hw1)
                        | (go_at_call_has 117 (Value.slice Au a.l.length cu); refine HI.out.mono ?_; clear HI; rintro e w6 ⟨⟨rfl, hr6, hn6⟩, hg6⟩; have hcb := HBOX.out _ (HG5.out.trans hg6); clear c0 c1 c2 c3 g0 g1 g2 g3; obtain ⟨c0, c1, c2, c3⟩ := hcb; obtain ⟨g0, g1, g2, g3⟩ := HM1'.out _ (HG5.out.trans hg6))
                        | (go_at_call 117; refine (HTW.out _ hg6 hr6 hn6).mono ?_; clear HTW; rintro e w7 ⟨⟨rfl, hr7, hn7⟩, hg7⟩; have HR7 := Lib.hid hr7; clear hr7)
                        | (go_at_fn g; refine (HOPC.out _).mono ?_; clear HOPC; rintro e w8 ⟨he, hb8⟩; replace he : e = wrongEnd ec := he; subst he))
                      exact ⟨rfl, .er (by rw [HRS.out]) (gbelow (HG3.out.trans (HG5.out.trans (hg6.trans hg7))) hb8)⟩
                    | ok mz =>
                      go_wp2_with (first
                        | (go_at_call_has 132 (Value.bool false); refine (check_no _ _).mono ?_; rintro e w1 ⟨rfl, hw1⟩; rw [hw1]; clear hw1)
                        | (go_at_call_has 117 (Value.slice Au a.l.length cu); refine HI.out.mono ?_; clear HI; rintro e w6 ⟨⟨rfl, hr6, hn6⟩, hg6⟩; have hcb := HBOX.out _ (HG5.out.trans hg6); clear c0 c1 c2 c3 g0 g1 g2 g3; obtain ⟨c0, c1, c2, c3⟩ := hcb; obtain ⟨g0, g1, g2, g3⟩ := HM1'.out _ (HG5.out.trans hg6))
                        | (go_at_call 117; refine (HTW.out _ hg6 hr6 hn6).mono ?_; clear HTW; rintro e w7 ⟨⟨rfl, hr7, hn7⟩, hg7⟩; have HR7 := Lib.hid hr7; clear hr7)
                        | (go_at_fn g; refine (HOPC.out _).mono ?_; clear HOPC; rintro e w8 ⟨he, hb8⟩; replace he : e = .returned (.int .i64 mz) := he; subst he))
                      go_ret
                      exact .ok HRS.out (block_below hb8 (Array.getElem?_eq_some_iff.1 HR7.out).1 HR7.out) hn7 (gbelow (HG3.out.trans (HG5.out.trans (hg6.trans hg7))) hb8)
              · have HRES : Hid (O = (.er 21, n + 1)) := Lib.hid (HEV.out.trans (evX_no HK12.out.1 HK12.out.2 HNEG.out (fun h => hgood ⟨h.1, h.2.2⟩)))
                have HGOOD := Lib.hid hgood
                clear hgood hop HEV
                go_wp2_with (go_at_call_has 132 (Value.bool false); refine (check_no _ _).mono ?_; rintro e w1 ⟨rfl, hw1⟩; rw [hw1]; clear hw1)
                refine wp_region_held_drew (S := (fun W => W.cell? ⟨w.heap.size, 1, none⟩ = some (.string x.s))) (by kernel_rfl) ?_ (fun hHeld => ?_)
                · exact (HBOX.out _ (gnone (Below.refl _ W3).drew)).2.1
                change wpAnyH _ .any _ _ _ 9 (Array.replicate 9 false) _ _
                refine wpAnyH_take (i := 1) (oi := ⟨some 59, _, _, _, _, _⟩) (v := ?_) rfl (by kernel_rfl) (by kernel_rfl) (by kernel_rfl) (fun _ _ _ h => h) (Or.inl ⟨by rfl, ?_⟩) (by assumption) ?_
                rotate_left
                · (intro w hSw; (try dsimp only at hSw); go_simp; try (with_reducible rfl))
                (try simp only [Act.put, List.setIfInBounds_toArray, List.set_cons_zero, List.set_cons_succ])
                refine wpAnyH_take (i := 2) (oi := ⟨some 60, _, _, _, _, _⟩) (v := ?_) rfl (by kernel_rfl) (by kernel_rfl) (by kernel_rfl) (fun _ _ _ h => h) (Or.inl ⟨by rfl, ?_⟩) (by assumption) ?_
                rotate_left
                · (intro w hSw; (try dsimp only at hSw); go_simp; try (with_reducible rfl))
                (try simp only [Act.put, List.setIfInBounds_toArray, List.set_cons_zero, List.set_cons_succ])
                refine wpAnyH_ready (rs := [0]) (by kernel_rfl) (by simp) ?_
                refine AllReadyH.cons (o := ⟨some 58, _, _, _, _, _⟩) rfl (fun K hK => ?_) AllReadyH.nil
                go_simp
                go_at_call 134
                refine (operators_c _).mono ?_
                rintro e w5 ⟨⟨mb, rfl, hM5⟩, hb5⟩
                replace hb5 : Below W3.heap.size W3 w5 := below_then (Below.refl _ W3).drew (Nat.le_refl _) hb5
                have hlk := Mp.look_some Tryd.strLaw Tryd.underlying163 hM5 opL_keys true HMEM.out
                simp only [if_true] at hlk
                go_wp2_with fail
                refine hK.out _ _ (HBOX.out _ (gnone hb5)).2.1 (fun hHeld => ?_)
                clear hK K
                (try simp only [Act.put, List.setIfInBounds_toArray, List.set_cons_zero, List.set_cons_succ])
                refine wpAnyH_ready (rs := [3]) (by kernel_rfl) (by simp) ?_
                refine AllReadyH.cons (o := ⟨some 61, _, _, _, _, _⟩) rfl (fun K hK => ?_) AllReadyH.nil
                go_simp
                refine hK.out _ _ (HBOX.out _ (gnone hb5)).2.1 (fun hHeld => ?_)
                clear hK K
                (try simp only [Act.put, List.setIfInBounds_toArray, List.set_cons_zero, List.set_cons_succ])
                refine wpAnyH_take (i := 4) (oi := ⟨some 57, _, _, _, _, _⟩) (v := ?_) rfl (by kernel_rfl) (by kernel_rfl) (by kernel_rfl) (fun _ _ _ h => h) (Or.inl ⟨by rfl, ?_⟩) (by assumption) ?_
                rotate_left
                · (intro w hSw; (try dsimp only at hSw); go_simp; try (with_reducible rfl))
                (try simp only [Act.put, List.setIfInBounds_toArray, List.set_cons_zero, List.set_cons_succ])
                refine wpAnyH_take (i := 5) (oi := ⟨some 62, _, _, _, _, _⟩) (v := ?_) rfl (by kernel_rfl) (by kernel_rfl) (by kernel_rfl) (fun _ _ _ h => h) (Or.inl ⟨by rfl, ?_⟩) (by assumption) ?_
                rotate_left
                · (intro w hSw; (try dsimp only at hSw); go_simp; try (with_reducible rfl))
                (try simp only [Act.put, List.setIfInBounds_toArray, List.set_cons_zero, List.set_cons_succ])
                refine wpAnyH_take (i := 6) (oi := ⟨some 63, _, _, _, _, _⟩) (v := ?_) rfl (by kernel_rfl) (by kernel_rfl) (by kernel_rfl) (fun _ _ _ h => h) (Or.inl ⟨by rfl, ?_⟩) (by assumption) ?_
                rotate_left
                · (intro w hSw; (try dsimp only at hSw); go_simp; try (with_reducible rfl))
                (try simp only [Act.put, List.setIfInBounds_toArray, List.set_cons_zero, List.set_cons_succ])
                refine wpAnyH_take (i := 7) (oi := ⟨some 5, _, _, _, _, _⟩) (v := ?_) rfl (by kernel_rfl) (by kernel_rfl) (by kernel_rfl) (fun _ _ _ h => h) (Or.inl ⟨by rfl, ?_⟩) (by assumption) ?_
                rotate_left
                · (intro w hSw; (try dsimp only at hSw); go_simp; try (with_reducible rfl))
                (try simp only [Act.put, List.setIfInBounds_toArray, List.set_cons_zero, List.set_cons_succ])
                refine wpAnyH_take (i := 8) (oi := ⟨some 6, _, _, _, _, _⟩) (v := ?_) rfl (by kernel_rfl) (by kernel_rfl) (by kernel_rfl) (fun _ _ _ h => h) (Or.inl ⟨by rfl, ?_⟩) (by assumption) ?_
                rotate_left
                · (intro w hSw; (try dsimp only at hSw); go_simp; try (with_reducible rfl))
                (try simp only [Act.put, List.setIfInBounds_toArray, List.set_cons_zero, List.set_cons_succ])
                refine wpAnyH_done (by kernel_rfl) ?_ _
                clear hlk hHeld
                obtain ⟨c0, c1, c2, c3⟩ := HBOX.out _ (gnone hb5)
                have HG5 := Lib.hid (gnone (r := some R) hb5)
                clear hb5
                by_cases hk4 : x.k = 4
                · have q4 : (x.k == 4) = true := by simpa using hk4
                  have q9 : (x.k != 4) = false := by simp [hk4]
                  have q6 : ((x.l.length : Int) != 2) = true := by
                    have : x.l.length ≠ 2 := fun h => HGOOD.out ⟨hk4, h⟩
                    simp; omega
                  clear hk4
                  go_wp2_with (go_at_call_has 132 (Value.bool true); refine (check_yes _ _).mono ?_; rintro e w1 ⟨rfl, hw1⟩; rw [hw1]; clear hw1)
                  exact ⟨rfl, .er (by rw [HRES.out]) (HG3.out.trans HG5.out)⟩
                · have q4 : (x.k == 4) = false := by simpa using hk4
                  have q9 : (x.k != 4) = true := by simpa using hk4
                  clear hk4
                  go_wp2_with (go_at_call_has 132 (Value.bool true); refine (check_yes _ _).mono ?_; rintro e w1 ⟨rfl, hw1⟩; rw [hw1]; clear hw1)
                  exact ⟨rfl, .er (by rw [HRES.out]) (HG3.out.trans HG5.out)⟩
            · have HRES : Hid (O = (.er 21, n + 1)) := Lib.hid (HEV.out.trans (evX_no HK12.out.1 HK12.out.2 HNEG.out (fun h => hop h.2.1)))
              have HNOT := Lib.hid (op_none (s := x.s) (by simpa using hop))
              have HKEY := Lib.hid (str_key HSZ.out)
              clear hop HEV
              go_wp2_with (go_at_call_has 132 (Value.bool false); refine (check_no _ _).mono ?_; rintro e w1 ⟨rfl, hw1⟩; rw [hw1]; clear hw1)
              refine wp_region_held_drew (S := (fun W => W.cell? ⟨w.heap.size, 1, none⟩ = some (.string x.s))) (by kernel_rfl) ?_ (fun hHeld => ?_)
              · exact (HBOX.out _ (gnone (Below.refl _ W3).drew)).2.1
              change wpAnyH _ .any _ _ _ 9 (Array.replicate 9 false) _ _
              refine wpAnyH_take (i := 1) (oi := ⟨some 59, _, _, _, _, _⟩) (v := ?_) rfl (by kernel_rfl) (by kernel_rfl) (by kernel_rfl) (fun _ _ _ h => h) (Or.inl ⟨by rfl, ?_⟩) (by assumption) ?_
              rotate_left
              · (intro w hSw; (try dsimp only at hSw); go_simp; try (with_reducible rfl))
              (try simp only [Act.put, List.setIfInBounds_toArray, List.set_cons_zero, List.set_cons_succ])
              refine wpAnyH_take (i := 2) (oi := ⟨some 60, _, _, _, _, _⟩) (v := ?_) rfl (by kernel_rfl) (by kernel_rfl) (by kernel_rfl) (fun _ _ _ h => h) (Or.inl ⟨by rfl, ?_⟩) (by assumption) ?_
              rotate_left
              · (intro w hSw; (try dsimp only at hSw); go_simp; try (with_reducible rfl))
              (try simp only [Act.put, List.setIfInBounds_toArray, List.set_cons_zero, List.set_cons_succ])
              refine wpAnyH_ready (rs := [0]) (by kernel_rfl) (by simp) ?_
              refine AllReadyH.cons (o := ⟨some 58, _, _, _, _, _⟩) rfl (fun K hK => ?_) AllReadyH.nil
              go_simp
              go_at_call 134
              refine (operators_c _).mono ?_
              rintro e w5 ⟨⟨mb, rfl, hM5⟩, hb5⟩
              replace hb5 : Below W3.heap.size W3 w5 := below_then (Below.refl _ W3).drew (Nat.le_refl _) hb5
              obtain ⟨lk, hkk⟩ := HKEY.out
              have hlk := Mp.look_none Tryd.strLaw Tryd.underlying163 hM5 opL_keys true hkk (HZ.out _) HNOT.out
              simp only [if_true] at hlk
              clear hkk
              go_wp2_with fail
              refine hK.out _ _ (HBOX.out _ (gnone hb5)).2.1 (fun hHeld => ?_)
              clear hK K
              (try simp only [Act.put, List.setIfInBounds_toArray, List.set_cons_zero, List.set_cons_succ])
              refine wpAnyH_ready (rs := [3]) (by kernel_rfl) (by simp) ?_
              refine AllReadyH.cons (o := ⟨some 61, _, _, _, _, _⟩) rfl (fun K hK => ?_) AllReadyH.nil
              go_simp
              refine hK.out _ _ (HBOX.out _ (gnone hb5)).2.1 (fun hHeld => ?_)
              clear hK K
              (try simp only [Act.put, List.setIfInBounds_toArray, List.set_cons_zero, List.set_cons_succ])
              refine wpAnyH_take (i := 4) (oi := ⟨some 57, _, _, _, _, _⟩) (v := ?_) rfl (by kernel_rfl) (by kernel_rfl) (by kernel_rfl) (fun _ _ _ h => h) (Or.inl ⟨by rfl, ?_⟩) (by assumption) ?_
              rotate_left
              · (intro w hSw; (try dsimp only at hSw); go_simp; try (with_reducible rfl))
              (try simp only [Act.put, List.setIfInBounds_toArray, List.set_cons_zero, List.set_cons_succ])
              refine wpAnyH_take (i := 5) (oi := ⟨some 62, _, _, _, _, _⟩) (v := ?_) rfl (by kernel_rfl) (by kernel_rfl) (by kernel_rfl) (fun _ _ _ h => h) (Or.inl ⟨by rfl, ?_⟩) (by assumption) ?_
              rotate_left
              · (intro w hSw; (try dsimp only at hSw); go_simp; try (with_reducible rfl))
              (try simp only [Act.put, List.setIfInBounds_toArray, List.set_cons_zero, List.set_cons_succ])
              refine wpAnyH_take (i := 6) (oi := ⟨some 63, _, _, _, _, _⟩) (v := ?_) rfl (by kernel_rfl) (by kernel_rfl) (by kernel_rfl) (fun _ _ _ h => h) (Or.inl ⟨by rfl, ?_⟩) (by assumption) ?_
              rotate_left
              · (intro w hSw; (try dsimp only at hSw); go_simp; try (with_reducible rfl))
              (try simp only [Act.put, List.setIfInBounds_toArray, List.set_cons_zero, List.set_cons_succ])
              refine wpAnyH_take (i := 7) (oi := ⟨some 5, _, _, _, _, _⟩) (v := ?_) rfl (by kernel_rfl) (by kernel_rfl) (by kernel_rfl) (fun _ _ _ h => h) (Or.inl ⟨by rfl, ?_⟩) (by assumption) ?_
              rotate_left
              · (intro w hSw; (try dsimp only at hSw); go_simp; try (with_reducible rfl))
              (try simp only [Act.put, List.setIfInBounds_toArray, List.set_cons_zero, List.set_cons_succ])
              refine wpAnyH_take (i := 8) (oi := ⟨some 6, _, _, _, _, _⟩) (v := ?_) rfl (by kernel_rfl) (by kernel_rfl) (by kernel_rfl) (fun _ _ _ h => h) (Or.inl ⟨by rfl, ?_⟩) (by assumption) ?_
              rotate_left
              · (intro w hSw; (try dsimp only at hSw); go_simp; try (with_reducible rfl))
              (try simp only [Act.put, List.setIfInBounds_toArray, List.set_cons_zero, List.set_cons_succ])
              refine wpAnyH_done (by kernel_rfl) ?_ _
              clear hlk hHeld
              have HG5 := Lib.hid (gnone (r := some R) hb5)
              clear hb5
              go_wp2_with (go_at_call_has 132 (Value.bool true); refine (check_yes _ _).mono ?_; rintro e w1 ⟨rfl, hw1⟩; rw [hw1]; clear hw1)
              exact ⟨rfl, .er (by rw [HRES.out]) (HG3.out.trans HG5.out)⟩
end Go.Proofs.YtgcbanljifalnaaDoor
/- Layer 13 (arith): the entry. Conditions: the arguments read; the bindings make no circle. -/
namespace Go.Proofs.YtgcbanljifalnaaDoor
open Go.RowKit

/-- The deferred call: nothing to recover. -/
theorem ecatch_idle (p4 p5 : Addr) (w : World) :
    CallsD Tryd.prog 116 #[.pointer (some p4), .pointer (some p5)] .returning w fun e u' w' => e = .returned (.tuple #[]) ∧ u' = .returning ∧ w' = w := by
  refine callsD_of_wpS Tryd.func116 rfl fun c₀ cs hu => ?_
  apply wpS_seq
  apply wpS_region
  simp [wpOpsS, go_sem, recoverD, hu, Tryd.ntmps116, Exit.thenS]
  apply wpS_seq
  apply wpS_region
  simp [wpOpsS, go_sem, Exit.thenS]
  refine wpS_cond (t := false) (by simp [Act.eval, Array.replicate]) ?_
  simp only [Bool.false_eq_true, if_false]
  refine wpS_of_wp (wp_skip ?_)
  cases c₀
  simp_all [bodyPostS, results, Tryd.results116]
theorem Tryd.wrongAs (e : Int) (w : World) : (Instr.typeAssert (Value.iface 135 (Value.agg #[.int .i64 e])) 20 135 true).run Tryd.prog w = .ok (.tuple #[.agg #[.int .i64 e], .bool true]) w := by
  kernel_rfl
/-- The two named results. -/
structure Nm2 (B : Nat) (a b : Value) (w : World) : Prop where
  h4 : w.heap[B]? = some (.cells #[a] 2 (0, 0))
  h5 : w.heap[B + 1]? = some (.cells #[b] 43 (0, 0))
theorem Nm2.below {B N : Nat} {a b : Value} {w w' : World} (h : Nm2 B a b w) (hb : Below N w w') (hN : B + 1 < N) : Nm2 B a b w' :=
  ⟨(hb.block _ (by omega)).trans h.h4, (hb.block _ (by omega)).trans h.h5⟩
def set2 (B : Nat) (a b : Value) (w : World) : World := ((w.setCell ⟨B, 0, none⟩ a).setCell ⟨B + 1, 0, none⟩ b)
theorem Nm2.set {B : Nat} {a b a' b' : Value} {w : World} (h : Nm2 B a b w) : Nm2 B a' b' (set2 B a' b' w) := by
  unfold set2
  refine ⟨?_, ?_⟩
  · rw [Below.heap_setCell _ _ _ _ (by show B ≠ B + 1; omega)]; exact one_set h.h4
  · exact one_set ((Below.heap_setCell _ _ _ _ (by show B + 1 ≠ B; omega)).trans h.h5)
theorem set2_below (B : Nat) (a b : Value) (w : World) : Below B w (set2 B a b w) :=
  ⟨rfl, rfl, rfl, by simp [set2, World.setCell], fun k hk => by unfold set2; rw [Below.heap_setCell _ _ _ _ (by show k ≠ B + 1; omega), Below.heap_setCell _ _ _ _ (by show k ≠ B; omega)]⟩
theorem wp_hide {P : Program} {c : Code} {Q : Exit → Act → World → Prop} {a : Act} {w : World} (h : ∀ Q', Q' = Q → Code.wp P c Q' a w) : Code.wp P c Q a w := h Q rfl
set_option maxRecDepth 100000 in
set_option maxHeartbeats 4000000 in
/-- The deferred call: an error is caught. -/
theorem ecatch_wrong (B : Nat) (ec : Int) (v4 v5 : Value) (older : List PanicEntry) (w : World) (hn : Nm2 B v4 v5 w) :
    CallsD Tryd.prog 116 #[.pointer (some ⟨B, 0, none⟩), .pointer (some ⟨B + 1, 0, none⟩)] (.panicking ({ v := .iface 135 (.agg #[.int .i64 ec]), recovered := false } :: older)) w fun e u' w' =>
      e = .returned (.tuple #[]) ∧ u' = .panicking ({ v := .iface 135 (.agg #[.int .i64 ec]), recovered := true } :: older) ∧ Nm2 B (.int .i64 0) (.int .i64 ec) w' ∧ Below B w w' := by
  refine callsD_of_wpS Tryd.func116 rfl fun c₀ cs hu => ?_
  apply wpS_seq
  apply wpS_region
  simp [wpOpsS, go_sem, recoverD, hu, Tryd.ntmps116, Exit.thenS]
  apply wpS_seq
  apply wpS_region
  simp [wpOpsS, go_sem, Exit.thenS]
  refine wpS_cond (t := true) (by simp [Act.eval, Array.replicate]) ?_
  simp only [if_true]
  refine wpS_of_wp ?_
  have hta := Tryd.wrongAs ec
  have hB1 : B + 1 < w.heap.size := (Array.getElem?_eq_some_iff.1 hn.h5).1
  have HN := Lib.hid hn
  have HBW := Lib.hid hB1
  clear hn hB1 hu
  refine wp_hide fun Q hQ => ?_
  have HQ := Lib.hid hQ
  clear hQ
  change Code.wp _ _ _ ⟨#[.pointer (some ⟨B, 0, none⟩), .pointer (some ⟨B + 1, 0, none⟩), .iface 135 (.agg #[.int .i64 ec]), undef, undef, .iface 135 (.agg #[.int .i64 ec]), .iface 135 (.agg #[.int .i64 ec]), .bool true, undef, undef, undef, undef, undef, undef, undef, undef, undef, undef], []⟩ w
  go_upto_region 5 with fail
  have hbx := heap_new w (.cells #[.int .i64 ec] 135)
  have hba := (Below.refl _ w).alloc (Nat.le_refl _) (.cells #[.int .i64 ec] 135)
  have hn1 := HN.out.below hba HBW.out
  have hz : B + 1 < (w.alloc (.cells #[.int .i64 ec] 135)).heap.size := by have := HBW.out; simp; omega
  generalize hW : w.alloc (.cells #[.int .i64 ec] 135) = W1 at hbx hba hn1 hz ⊢
  have HBA := Lib.hid hba
  obtain ⟨b0, -⟩ := one_cell hbx
  obtain ⟨q4, f4⟩ := one_cell hn1.h4
  obtain ⟨q5, f5⟩ := one_cell hn1.h5
  have HN1 := Lib.hid hn1
  have hlt := HBW.out
  clear hW hbx hba hn1
  refine wp_region_held_drew (S := (fun W => W.cell? ⟨w.heap.size, 0, none⟩ = some (.int .i64 ec))) (by kernel_rfl) ?_ (fun hHeld => ?_)
  · exact b0
  change wpAnyH _ .any _ _ _ 4 (Array.replicate 4 false) _ _
  refine wpAnyH_take (i := 0) (oi := ⟨some 16, _, _, _, _, _⟩) (v := ?_) rfl (by kernel_rfl) (by kernel_rfl) (by kernel_rfl) (fun c a w h => by rw [HQ.out] at h ⊢; exact h) (Or.inl ⟨by rfl, ?_⟩) (by assumption) ?_
  rotate_left
  · (intro w hSw; (try dsimp only at hSw); go_simp; try (with_reducible rfl))
  (try simp only [Act.put, List.setIfInBounds_toArray, List.set_cons_zero, List.set_cons_succ])
  refine wpAnyH_take (i := 1) (oi := ⟨some 17, _, _, _, _, _⟩) (v := ?_) rfl (by kernel_rfl) (by kernel_rfl) (by kernel_rfl) (fun c a w h => by rw [HQ.out] at h ⊢; exact h) (Or.inl ⟨by rfl, ?_⟩) (by assumption) ?_
  rotate_left
  · (intro w hSw; (try dsimp only at hSw); go_simp; try (with_reducible rfl))
  (try simp only [Act.put, List.setIfInBounds_toArray, List.set_cons_zero, List.set_cons_succ])
  refine wpAnyH_ready (rs := [2]) (by kernel_rfl) (by simp) ?_
  refine AllReadyH.cons (o := ⟨none, _, _, _, _, _⟩) rfl (fun K hK => ?_) AllReadyH.nil
  go_simp
  refine hK.out _ _ (by show (W1.setCell ⟨B, 0, none⟩ (.int .i64 0)).cell? ⟨w.heap.size, 0, none⟩ = _; rw [World.cell?_setCell_other _ _ _ _ (by intro e; injection e; omega)]; exact b0) (fun hHeld => ?_)
  clear hK K
  (try simp only [Act.put, List.setIfInBounds_toArray, List.set_cons_zero, List.set_cons_succ])
  refine wpAnyH_ready (rs := [3]) (by kernel_rfl) (by simp) ?_
  refine AllReadyH.cons (o := ⟨none, _, _, _, _, _⟩) rfl (fun K hK => ?_) AllReadyH.nil
  go_simp
  refine hK.out _ _ (by show ((W1.setCell ⟨B, 0, none⟩ (.int .i64 0)).setCell ⟨B + 1, 0, none⟩ (.int .i64 ec)).cell? ⟨w.heap.size, 0, none⟩ = _; rw [World.cell?_setCell_other _ _ _ _ (by intro e; injection e; omega), World.cell?_setCell_other _ _ _ _ (by intro e; injection e; omega)]; exact b0) (fun hHeld => ?_)
  clear hK K
  (try simp only [Act.put, List.setIfInBounds_toArray, List.set_cons_zero, List.set_cons_succ])
  refine wpAnyH_done (by kernel_rfl) ?_ _
  rw [HQ.out]
  have hF := HN1.out.set (a' := .int .i64 0) (b' := .int .i64 ec)
  have hBF := ((HBA.out.mono (by omega)).trans (set2_below B (.int .i64 0) (.int .i64 ec) W1)).drew
  simp [bodyPostS, results, Tryd.results116]
  exact ⟨⟨hF.h4, hF.h5⟩, hBF⟩
/-- A result, as Eval has it. -/
def Rk.out (r : Rk) : Value := .tuple #[.int .i64 r.val, .int .i64 r.err]
set_option maxRecDepth 100000 in
set_option maxHeartbeats 8000000 in
theorem Eval_c (l : Bs) (p b : Nat) (t : Tm) (f : Nat) (hf : Fn l f t) (v : Value) (w : World) (ok ok' : Nat → Prop) (hs : Sub w ok l p b) (hv : TmV w ok' t v) (hwf : t.Wf) :
    Calls Tryd.prog 100 #[.pointer (some ⟨p, 0, none⟩), v] w fun e w' => e = .returned (evF l f t 0).1.out ∧ Below w.heap.size w w' := by
  have hmf : ∀ (fn : Go.Fn) (first cap : Array Value) (w : World), (Instr.makeFunc fn first cap).run Tryd.prog w = .ok (.func fn first cap) w := fun _ _ _ _ => rfl
  replace hs := hs.bound
  replace hv := hv.bound
  obtain ⟨u, rfl, hS⟩ := hv
  obtain ⟨A, c, rfl⟩ := hS.form
  obtain ⟨W3, hW3⟩ : ∃ W3, W3 = (((w.alloc (.cells #[.int .u8 t.k, .string t.s, .int .i64 t.n, .slice A t.l.length c] 24)).alloc (.cells #[.int .i64 0] 2)).alloc (.cells #[.int .i64 0] 43)) := ⟨_, rfl⟩
  have hB3 : Below w.heap.size w W3 := by rw [hW3]; exact (((Below.refl _ w).alloc (Nat.le_refl _) _).alloc (by simp) _).alloc (by simp; omega) _
  have hz3 : W3.heap.size = w.heap.size + 3 := by rw [hW3]; simp
  have h3 : W3.heap[w.heap.size]? = some (.cells #[.int .u8 t.k, .string t.s, .int .i64 t.n, .slice A t.l.length c] 24 (0, 0)) := by rw [hW3]; exact (Below.heap_alloc _ _ _ (by simp; omega)).trans ((Below.heap_alloc _ _ _ (by simp)).trans (heap_new w _))
  have hnm : Nm2 (w.heap.size + 1) (.int .i64 0) (.int .i64 0) W3 := ⟨by rw [hW3]; exact (Below.heap_alloc _ _ _ (by simp)).trans (heap_at _ _ _ (by simp)), by rw [hW3]; exact heap_at _ _ _ (by simp)⟩
  have HNM := Lib.hid hnm
  have HB3 := Lib.hid hB3
  have HW3 := Lib.hid hW3
  have hba := (Below.refl _ W3).alloc (Nat.le_refl _) (.cells #[.pointer (some ⟨p, 0, none⟩), .int .i64 0] 139)
  obtain ⟨b0, b1, b2, b3, -⟩ := box4 (block_below hba (by omega) h3)
  have hlt := hs.lt
  have HEV := Lib.hid (eval_c l p b W3.heap.size (by omega) (by omega) f t hf 0 (.agg #[.int .u8 t.k, .string t.s, .int .i64 t.n, .slice A t.l.length c]) (W3.alloc (.cells #[.pointer (some ⟨p, 0, none⟩), .int .i64 0] 139)) (fun i => i < w.heap.size) (((hs.below hB3).below hba).mono (fun k hk => hk.2)) ((TmV.mono (fun k hk => hk.2) (TmV.below (hB3.trans (hba.mono (by omega))) ⟨_, rfl, hS⟩))) hwf (fun i hi => ⟨by omega, by simp only [World.size_alloc]; omega⟩) (heap_new W3 _) (by omega))
  have HZ3 := Lib.hid hz3
  have HGA : Hid (∀ w6, (W3.alloc (.cells #[.pointer (some ⟨p, 0, none⟩), .int .i64 0] 139)).grownBy w6 (some W3.heap.size) → Below W3.heap.size W3 w6) := Lib.hid (fun w6 hg => below_of_grown (gfresh (r := none) (gnone hba) hg (Nat.le_refl _)))
  clear hS hs hW3 hB3 hz3 h3 hnm hba hlt hwf hf
  obtain ⟨⟨r, n'⟩, hE⟩ : ∃ E, E = evF l f t 0 := ⟨_, rfl⟩
  rw [← hE] at HEV ⊢
  clear hE
  cases r with
  | ok m =>
    go_enter_defers Tryd.func100, Tryd.ntmps100
    go_upto_region 1 with fail
    rw [← HW3.out]
    go_wp2_with (go_at_call 117; refine HEV.out.mono ?_; clear HEV; rintro e w6 ⟨⟨rfl, -, -⟩, hg6⟩; have hB6 := HGA.out w6 hg6; have hn6 := HNM.out.below hB6 (by have := HZ3.out; omega); obtain ⟨q4, f4⟩ := one_cell hn6.h4; obtain ⟨q5, f5⟩ := one_cell hn6.h5)
    have hN := hn6.set (a' := .int .i64 m) (b' := .int .i64 0)
    have hBF : Below w.heap.size w (set2 (w.heap.size + 1) (.int .i64 m) (.int .i64 0) w6) := (HB3.out.trans (hB6.mono (by have := HZ3.out; omega))).trans ((set2_below _ _ _ _).mono (by omega))
    change bodyPostD _ _ _ _ _ (set2 (w.heap.size + 1) (.int .i64 m) (.int .i64 0) w6)
    generalize set2 (w.heap.size + 1) (.int .i64 m) (.int .i64 0) w6 = WF at hN hBF ⊢
    clear q4 q5 f4 f5
    refine leaves_cons (f := 116) (args := #[.pointer (some ⟨w.heap.size + 1, 0, none⟩), .pointer (some ⟨w.heap.size + 1 + 1, 0, none⟩)]) (by simp) (by simp [go_sem]) ?_
    refine (ecatch_idle ⟨w.heap.size + 1, 0, none⟩ ⟨w.heap.size + 1 + 1, 0, none⟩ _).mono ?_
    rintro e u' w'' ⟨rfl, rfl, rfl⟩
    obtain ⟨q4, f4⟩ := one_cell hN.h4
    obtain ⟨q5, f5⟩ := one_cell hN.h5
    simp [Leaves, settle, results, Tryd.results100, go_sem, q4, q5]
    exact ⟨rfl, hBF⟩
  | er ec =>
    go_enter_defers Tryd.func100, Tryd.ntmps100
    go_upto_region 1 with fail
    rw [← HW3.out]
    go_wp2_with (go_at_call 117; refine HEV.out.mono ?_; clear HEV; rintro e w6 ⟨he, hg6⟩; replace he : e = wrongEnd ec := he; subst he)
    have hB6 := HGA.out w6 hg6
    have hn6 := HNM.out.below hB6 (by have := HZ3.out; omega)
    refine leaves_cons (f := 116) (args := #[.pointer (some ⟨w.heap.size + 1, 0, none⟩), .pointer (some ⟨w.heap.size + 1 + 1, 0, none⟩)]) (by simp) (by simp [go_sem]) ?_
    refine (ecatch_wrong (w.heap.size + 1) ec _ _ [] w6 hn6).mono ?_
    rintro e u' w'' ⟨rfl, rfl, hN, hb⟩
    have hBF : Below w.heap.size w w'' := (HB3.out.trans (hB6.mono (by have := HZ3.out; omega))).trans (hb.mono (by omega))
    obtain ⟨q4, f4⟩ := one_cell hN.h4
    obtain ⟨q5, f5⟩ := one_cell hN.h5
    simp [Leaves, settle, results, Tryd.results100, go_sem, q4, q5]
    exact ⟨rfl, hBF⟩
end Go.Proofs.YtgcbanljifalnaaDoor

/- Unification: visits counted; whether a variable occurs. Conditions: the arguments read; the bindings make no circle. -/
import Derived.Test.YtdflckjnpgbjlaaSf
import Derived.Defers
import Derived.Recover
import Derived.WalkSmall
set_option linter.unusedVariables false
set_option maxRecDepth 20000
set_option linter.unusedSimpArgs false
namespace Go.Proofs.Ytdflckjnpgbjlaa
open Go.RowKit

/-- A run: its substitution, its visits. -/
abbrev RunAt (w : World) (R p : Nat) (n : Int) : Prop := w.heap[R]? = some (.cells #[.pointer (some ⟨p, 0, none⟩), .int .i64 n] 100 (0, 0))
/-- Too many visits: thrown. -/
abbrev fullEnd : Ending := .panicked [{ v := .iface 93 (.agg #[]), recovered := false }]
theorem box2 {w : World} {B : Nat} {t : TypeId} {a b : Value} (h : w.heap[B]? = some (.cells #[a, b] t (0, 0))) :
    w.cell? ⟨B, 0, none⟩ = some a ∧ w.cell? ⟨B, 1, none⟩ = some b ∧ w.frozen? ⟨B, 0, none⟩ = false ∧ w.frozen? ⟨B, 1, none⟩ = false := by
  simp [World.cell?, World.frozen?, h]
theorem visits_ok (R p : Nat) (n : Int) (w : World) (h : RunAt w R p n) (h0 : 0 ≤ n) (h1 : n + 1 ≤ 4096) :
    Calls Try.prog 98 #[.pointer (some ⟨R, 0, none⟩), .int .i64 1] w fun e w' => e = .returned (.tuple #[]) ∧ w' = w.setCell ⟨R, 1, none⟩ (.int .i64 (n + 1)) := by
  obtain ⟨c0, c1, f0, f1⟩ := box2 h
  have hd : decide ((4096 : Int) < n + 1) = false := by simp; omega
  go_enter Try.func98, Try.ntmps98
  go_wp2
  go_end0
  exact ⟨rfl, rfl⟩
theorem visits_full (R p : Nat) (n : Int) (w : World) (h : RunAt w R p n) (h0 : 0 ≤ n) (h2 : n ≤ 4096) (h1 : 4096 < n + 1) :
    Calls Try.prog 98 #[.pointer (some ⟨R, 0, none⟩), .int .i64 1] w fun e w' => e = fullEnd ∧ w' = w.setCell ⟨R, 1, none⟩ (.int .i64 (n + 1)) := by
  obtain ⟨c0, c1, f0, f1⟩ := box2 h
  have hd : decide ((4096 : Int) < n + 1) = true := by simp; omega
  go_enter Try.func98, Try.ntmps98
  go_wp2
  exact ⟨rfl, rfl, rfl⟩
/-- How many nodes are visited till v is met. -/
def ocv (v : Int) (P : List Tm) : Nat := match P.findIdx? (isv v) with | some i => i + 1 | none => P.length
theorem ocv_cons (v : Int) (x : Tm) (P : List Tm) : ocv v (x :: P) = if isv v x = true then 1 else 1 + ocv v P := by
  unfold ocv
  rw [List.findIdx?_cons]
  cases hx : isv v x with
  | true => simp
  | false =>
    cases h : P.findIdx? (isv v) with
    | some i => simp [h]; omega
    | none => simp [h]; omega
theorem ocv_append (v : Int) (P Q : List Tm) : ocv v (P ++ Q) = if P.any (isv v) = true then ocv v P else P.length + ocv v Q := by
  induction P with
  | nil => simp
  | cons x P ih =>
    rw [List.cons_append, ocv_cons, ocv_cons, ih, List.any_cons]
    cases isv v x with
    | true => simp
    | false =>
      simp only [Bool.false_or, Bool.false_eq_true, if_false, List.length_cons]
      split <;> omega
theorem ocv_none {v : Int} {P : List Tm} (h : P.any (isv v) = false) : ocv v P = P.length := by
  have := ocv_append v P []
  rw [List.append_nil, h] at this
  simpa [ocv] using this
theorem ocv_le (v : Int) (P : List Tm) : ocv v P ≤ P.length := by
  unfold ocv
  cases h : P.findIdx? (isv v) with
  | some i => have := List.findIdx?_eq_some_iff_findIdx_eq.1 h; simp; omega
  | none => simp
/-- What 'occurs' leaves with. -/
def OcPost (w : World) (R p : Nat) (n : Nat) (q : Int) (P : List Tm) (e : Ending) (w' : World) : Prop :=
  ((n + ocv q P ≤ 4096 ∧ e = .returned (.bool (P.any (isv q))) ∧ RunAt w' R p ((n + ocv q P : Nat) : Int)) ∨ (4096 < n + ocv q P ∧ e = fullEnd)) ∧ w.grownBy w' (some R)
theorem runAt_set {w : World} {R p : Nat} {n : Int} (h : RunAt w R p n) (m : Int) : RunAt (w.setCell ⟨R, 1, none⟩ (.int .i64 m)) R p m := by
  unfold RunAt at *
  simp [World.setCell, Array.getElem?_modify, h]
set_option maxRecDepth 100000 in
set_option maxHeartbeats 4000000 in
theorem occurs_c (l : Bs) (p b R : Nat) (q : Int) (hp : p ≠ R) (hb : b ≠ R) : ∀ (f : Nat) (t : Tm), Fn l f t → ∀ (n : Nat) (v : Value) (w : World) (ok : Nat → Prop), Sub w ok l p b → TmV w ok t v → t.Wf → (∀ i, ok i → i ≠ R ∧ i < w.heap.size) → RunAt w R p (n : Int) → n ≤ 4096 →
    Calls Try.prog 140 #[.pointer (some ⟨R, 0, none⟩), .int .i64 q, v] w (OcPost w R p n q (vis l f t)) := by
  intro f
  induction f with
  | zero => intro t hf; exact hf.elim
  | succ f ih =>
  intro t hf n v w ok hs hv hwf hok hrn hn
  obtain ⟨u, rfl, hvS⟩ := hv
  obtain ⟨A0, c0, rfl⟩ := hvS.form
  have hRl := (Array.getElem?_eq_some_iff.1 hrn).1
  have hb1 : ∀ O : Obj, Below w.heap.size w (w.alloc O) := fun O => (Below.refl _ w).alloc (Nat.le_refl _) _
  have hff : ∀ a ∈ (wlk l t).l, Fn l f a := hf
  have hxw := wlk_wf hs.wf t hwf
  by_cases hfull : n = 4096
  · subst hfull
    have HV := Lib.hid (fun O => visits_full R p 4096 (w.alloc O) (block_below (hb1 O) hRl hrn) (by omega) (by omega) (by omega))
    have HP : Hid (4096 < 4096 + ocv q (vis l (f + 1) t)) := Lib.hid (by rw [vis_succ, ocv_cons]; split <;> omega)
    clear hvS hf ih hff hs hwf hxw hok hrn hn
    go_enter Try.func140, Try.ntmps140
    go_wp2_with (go_at_call 98; refine (HV.out _).mono ?_; clear HV; rintro e w1 ⟨rfl, rfl⟩)
    exact ⟨rfl, .inr ⟨HP.out, rfl⟩, gbelow (grown_set w R 1 _) ((Below.refl _ _).alloc (Nat.le_refl _) _)⟩
  · have hn1 : n + 1 ≤ 4096 := by omega
    have hW1 : w.grownBy ((w.setCell ⟨R, 1, none⟩ (.int .i64 ((n : Int) + 1))).alloc (.cells #[.int .u8 t.k, .string t.s, .int .i64 t.n, .slice A0 t.l.length c0] 24)).drew (some R) := gbelow (gbelow (grown_set w R 1 _) ((Below.refl _ _).alloc (Nat.le_refl _) _)) (Below.refl _ _).drew
    have HV := Lib.hid (fun O => visits_ok R p n (w.alloc O) (block_below (hb1 O) hRl hrn) (by omega) (by omega))
    have HWK := Lib.hid (Walk_c l p b t (.agg #[.int .u8 t.k, .string t.s, .int .i64 t.n, .slice A0 t.l.length c0]) ((w.setCell ⟨R, 1, none⟩ (.int .i64 ((n : Int) + 1))).alloc (.cells #[.int .u8 t.k, .string t.s, .int .i64 t.n, .slice A0 t.l.length c0] 24)).drew ok (hs.grown hW1 (fun i hi e => (hok i hi).1 (by injection e)) (fun e => hp (by injection e)) (fun e => hb (by injection e))) ((TmV.grown hW1 (fun i hi e => (hok i hi).1 (by injection e)) ⟨_, rfl, hvS⟩)) hwf)
    simp only [vis_succ]
    generalize wlk l t = x at HWK hxw hff ⊢
    have hrn1 : RunAt ((w.setCell ⟨R, 1, none⟩ (.int .i64 ((n : Int) + 1))).alloc (.cells #[.int .u8 t.k, .string t.s, .int .i64 t.n, .slice A0 t.l.length c0] 24)) R p ((n : Int) + 1) := block_below ((Below.refl _ (w.setCell ⟨R, 1, none⟩ (.int .i64 ((n : Int) + 1)))).alloc (Nat.le_refl _) _) (by simp [World.setCell]; exact hRl) (runAt_set hrn ((n : Int) + 1))
    have hbx1 : ((w.setCell ⟨R, 1, none⟩ (.int .i64 ((n : Int) + 1))).alloc (.cells #[.int .u8 t.k, .string t.s, .int .i64 t.n, .slice A0 t.l.length c0] 24)).heap[w.heap.size]? = some (.cells #[.int .u8 t.k, .string t.s, .int .i64 t.n, .slice A0 t.l.length c0] 24 (0, 0)) := heap_at _ _ _ (by simp [World.setCell])
    have hz1 : ((w.setCell ⟨R, 1, none⟩ (.int .i64 ((n : Int) + 1))).alloc (.cells #[.int .u8 t.k, .string t.s, .int .i64 t.n, .slice A0 t.l.length c0] 24)).heap.size = w.heap.size + 1 := by simp [World.setCell]
    have HIH := Lib.hid ih
    have HFF := Lib.hid hff
    have HS := Lib.hid hs
    have HOK := Lib.hid hok
    have HXW := Lib.hid hxw
    clear hvS ih hff hs hwf hxw hok hrn hfull
    go_enter Try.func140, Try.ntmps140
    go_wp2_with (go_at_call 98; refine (HV.out _).mono ?_; clear HV; rintro e w1 ⟨rfl, rfl⟩)
    generalize ((w.setCell ⟨R, 1, none⟩ (.int .i64 ((n : Int) + 1))).alloc (.cells #[.int .u8 t.k, .string t.s, .int .i64 t.n, .slice A0 t.l.length c0] 24)) = W1 at HWK hrn1 hbx1 hz1 hW1 ⊢
    obtain ⟨r0, r1, q0, q1⟩ := box2 hrn1
    obtain ⟨c0, c1, c2, c3, f0, f1, f2, f3⟩ := box4 hbx1
    refine wp_region_held_drew (S := (fun W => W.cell? ⟨R, 0, none⟩ = some (.pointer (some ⟨p, 0, none⟩)))) (by kernel_rfl) ?_ (fun hHeld => ?_)
    · exact cell_below (Below.refl _ W1).drew r0 (cell_lt r0)
    change wpAnyH _ .any _ _ _ 7 (Array.replicate 7 false) _ _
    refine wpAnyH_take (i := 0) (oi := ⟨some 11, _, _, _, _, _⟩) (v := ?_) rfl (by kernel_rfl) (by kernel_rfl) (by kernel_rfl) (fun _ _ _ h => h) (Or.inl ⟨by rfl, ?_⟩) (by assumption) ?_
    rotate_left
    · (intro w hSw; (try dsimp only at hSw); go_simp; try (with_reducible rfl))
    (try simp only [Act.put, List.setIfInBounds_toArray, List.set_cons_zero, List.set_cons_succ])
    refine wpAnyH_take (i := 1) (oi := ⟨some 12, _, _, _, _, _⟩) (v := ?_) rfl (by kernel_rfl) (by kernel_rfl) (by kernel_rfl) (fun _ _ _ h => h) (Or.inl ⟨by rfl, ?_⟩) (by assumption) ?_
    rotate_left
    · (intro w hSw; (try dsimp only at hSw); go_simp; try (with_reducible rfl))
    (try simp only [Act.put, List.setIfInBounds_toArray, List.set_cons_zero, List.set_cons_succ])
    refine wpAnyH_take (i := 2) (oi := ⟨some 13, _, _, _, _, _⟩) (v := ?_) rfl (by kernel_rfl) (by kernel_rfl) (by kernel_rfl) (fun _ _ _ h => h) (Or.inl ⟨by rfl, ?_⟩) (by assumption) ?_
    rotate_left
    · (intro w hSw; (try dsimp only at hSw); go_simp; try (with_reducible rfl))
    (try simp only [Act.put, List.setIfInBounds_toArray, List.set_cons_zero, List.set_cons_succ])
    refine wpAnyH_take (i := 3) (oi := ⟨some 14, _, _, _, _, _⟩) (v := ?_) rfl (by kernel_rfl) (by kernel_rfl) (by kernel_rfl) (fun _ _ _ h => h) (Or.inl ⟨by rfl, ?_⟩) (by assumption) ?_
    rotate_left
    · (intro w hSw; (try dsimp only at hSw); go_simp; try (with_reducible rfl))
    (try simp only [Act.put, List.setIfInBounds_toArray, List.set_cons_zero, List.set_cons_succ])
    refine wpAnyH_ready (rs := [4]) (by kernel_rfl) (by simp) ?_
    refine AllReadyH.cons (o := ⟨some 15, _, _, _, _, _⟩) rfl (fun K hK => ?_) AllReadyH.nil
    go_simp
    refine hK.out _ _ (cell_below (Below.refl _ W1).drew r0 (cell_lt r0)) (fun hHeld => ?_)
    clear hK K
    (try simp only [Act.put, List.setIfInBounds_toArray, List.set_cons_zero, List.set_cons_succ])
    refine wpAnyH_ready (rs := [5]) (by kernel_rfl) (by simp) ?_
    refine AllReadyH.cons (o := ⟨some 16, _, _, _, _, _⟩) rfl (fun K hK => ?_) AllReadyH.nil
    go_simp
    go_at_call 97
    refine HWK.out.mono ?_
    clear HWK
    rintro e W2 ⟨⟨u2, rfl, uu2, rfl, hvS2⟩, hb2⟩
    obtain ⟨A, c, rfl⟩ := hvS2.form
    replace hb2 : Below W1.heap.size W1 W2 := below_then (Below.refl _ W1).drew (Nat.le_refl _) hb2
    have hrn2 := block_below hb2 (cell_lt r0) hrn1
    have hbx2 := block_below hb2 (cell_lt c0) hbx1
    clear r0 r1 q0 q1 c0 c1 c2 c3 f0 f1 f2 f3
    obtain ⟨r0, r1, q0, q1⟩ := box2 hrn2
    obtain ⟨c0, c1, c2, c3, f0, f1, f2, f3⟩ := box4 hbx2
    go_wp2_with fail
    refine hK.out _ _ r0 (fun hHeld => ?_)
    clear hK K
    (try simp only [Act.put, List.setIfInBounds_toArray, List.set_cons_zero, List.set_cons_succ])
    have hrn3 := ((grown_set4 W2 w.heap.size (.int .u8 x.k) (.string x.s) (.int .i64 x.n) (.slice A x.l.length c)).block R (cell_lt r0) (fun e => by injection e; omega)).trans hrn2
    refine wpAnyH_ready (rs := [6]) (by kernel_rfl) (by simp) ?_
    refine AllReadyH.cons (o := ⟨none, _, _, _, _, _⟩) rfl (fun K hK => ?_) AllReadyH.nil
    go_simp
    refine hK.out _ _ (box2 hrn3).1 (fun hHeld => ?_)
    clear hK K
    (try simp only [Act.put, List.setIfInBounds_toArray, List.set_cons_zero, List.set_cons_succ])
    refine wpAnyH_done (by kernel_rfl) ?_ _
    have hbx3 := set4_block (a := .int .u8 x.k) (b := .string x.s) (c := .int .i64 x.n) (d := .slice A x.l.length c) hbx2
    have hgW : w.grownBy W2 (some R) := gbelow (W := W1) ⟨hW1.os, hW1.tape, hW1.output, hW1.size, hW1.block⟩ hb2
    have hg3 := gfresh hgW (grown_set4 W2 w.heap.size (.int .u8 x.k) (.string x.s) (.int .i64 x.n) (.slice A x.l.length c)) (Nat.le_refl _)
    have hS3 := Kd.S.move (w' := ((((W2.setCell ⟨w.heap.size, 0, none⟩ (.int .u8 x.k)).setCell ⟨w.heap.size, 1, none⟩ (.string x.s)).setCell ⟨w.heap.size, 2, none⟩ (.int .i64 x.n)).setCell ⟨w.heap.size, 3, none⟩ (.slice A x.l.length c))) (fun i hi => (grown_set4 W2 w.heap.size (.int .u8 x.k) (.string x.s) (.int .i64 x.n) (.slice A x.l.length c)).block i (by have := (HOK.out i hi).2; have := hb2.size; omega) (fun e => by have := (HOK.out i hi).2; injection e; omega)) hvS2
    generalize ((((W2.setCell ⟨w.heap.size, 0, none⟩ (.int .u8 x.k)).setCell ⟨w.heap.size, 1, none⟩ (.string x.s)).setCell ⟨w.heap.size, 2, none⟩ (.int .i64 x.n)).setCell ⟨w.heap.size, 3, none⟩ (.slice A x.l.length c)) = W3 at hrn3 hbx3 hg3 hS3 ⊢
    clear r0 r1 q0 q1 c0 c1 c2 c3 f0 f1 f2 f3 hvS2 hHeld hbx2 hrn2 hb2 hgW hrn1 hbx1 hz1 hW1
    obtain ⟨c0, c1, c2, c3, -, -, -, -⟩ := box4 hbx3
    have HG3 := Lib.hid hg3
    have HRN := Lib.hid hrn3
    have HBX := Lib.hid hbx3
    clear hg3 hrn3 hbx3
    by_cases hi : x.k = 1 ∧ x.n = q
    · have hiv : isv q x = true := by simpa [isv] using hi
      obtain ⟨hk, hq⟩ := hi
      have hk' : (x.k == 1) = true := by simpa using hk
      have hq' : (x.n == q) = true := by simpa using hq
      have hoc : Hid (ocv q (x :: x.l.flatMap (vis l f)) = 1) := Lib.hid (by rw [ocv_cons, if_pos hiv])
      have han : Hid ((x :: x.l.flatMap (vis l f)).any (isv q) = true) := Lib.hid (by rw [List.any_cons, hiv]; rfl)
      clear hk hq hiv
      go_wp2
      go_ret
      exact ⟨.inl ⟨by rw [hoc.out]; omega, by rw [han.out]; rfl, by rw [hoc.out]; exact HRN.out⟩, HG3.out⟩
    · have hiv : isv q x = false := by simpa [isv] using hi
      have hoc : Hid (ocv q (x :: x.l.flatMap (vis l f)) = 1 + ocv q (x.l.flatMap (vis l f))) := Lib.hid (by rw [ocv_cons, hiv]; simp)
      have han : Hid ((x :: x.l.flatMap (vis l f)).any (isv q) = (x.l.flatMap (vis l f)).any (isv q)) := Lib.hid (by rw [List.any_cons, hiv]; rfl)
      have hG : ((x.k == 1) = true ∧ (x.n == q) = false) ∨ (x.k == 1) = false := by
        by_cases h1 : x.k = 1
        · left; exact ⟨by simpa using h1, by have : x.n ≠ q := fun h => hi ⟨h1, h⟩; simpa using this⟩
        · right; simpa using h1
      obtain ⟨_, _, eA, hl, hcm, hA⟩ := hS3
      injection eA with eA1 eA2 eA3
      subst eA1 eA3
      clear eA2 hi hiv
      unfold maxLen at hcm
      rcases hG with ⟨hk', hq'⟩ | hk'
      all_goals
        go_wp2
        go_loopw [29] (fun i wr => ∃ j : Nat, j ≤ x.l.length ∧ i = .int .i64 j ∧ Hid (((x.l.take j).flatMap (vis l f)).any (isv q) = false) ∧ n + 1 + ((x.l.take j).flatMap (vis l f)).length ≤ 4096 ∧ RunAt wr R p ((n + 1 + ((x.l.take j).flatMap (vis l f)).length : Nat) : Int) ∧ w.grownBy wr (some R)) (fun i _ => x.l.length - (intOf i).toNat)
        case atStart => exact ⟨0, Nat.zero_le _, rfl, Lib.hid (by simp), by simpa using hn1, by simpa using HRN.out, HG3.out⟩
        case round =>
          obtain ⟨j, hj, rfl, hno, hcnt, hrnr, hgr⟩ := hrel
          have hRr : R < wr.heap.size := (Array.getElem?_eq_some_iff.1 hrnr).1
          by_cases hlt : j < x.l.length
          · obtain ⟨bb, o, u, rfl, hokb, hlo, h0, h1, h2, h3, h4⟩ := tm_elem hA hlt
            have hbW : wr.heap[bb]? = W3.heap[bb]? := (hgr.block bb (HOK.out _ hokb).2 (fun e => (HOK.out _ hokb).1 (by injection e))).trans (HG3.out.block bb (HOK.out _ hokb).2 (fun e => (HOK.out _ hokb).1 (by injection e))).symm
            have g0 := (cell_of_block hbW _).trans h0
            have g1 := (cell_of_block hbW _).trans h1
            have g2 := (cell_of_block hbW _).trans h2
            have g3 := (cell_of_block hbW _).trans h3
            have h4' : TmV wr ok x.l[j] (.agg #[.int .u8 x.l[j].k, .string x.l[j].s, .int .i64 x.l[j].n, u]) := ⟨u, rfl, Kd.S.move (fun i hi => (hgr.block i (HOK.out _ hi).2 (fun e => (HOK.out _ hi).1 (by injection e))).trans (HG3.out.block i (HOK.out _ hi).2 (fun e => (HOK.out _ hi).1 (by injection e))).symm) h4⟩
            obtain ⟨Au, cu, rfl⟩ := h4.form
            have hm := List.getElem_mem hlt
            have hnx : (x.l.take (j + 1)).flatMap (vis l f) = (x.l.take j).flatMap (vis l f) ++ vis l f x.l[j] := by rw [take_succ_at x.l hlt, List.flatMap_append]; simp
            have htl : x.l.flatMap (vis l f) = (x.l.take j).flatMap (vis l f) ++ (vis l f x.l[j] ++ (x.l.drop (j + 1)).flatMap (vis l f)) := by
              rw [← List.append_assoc, ← hnx, ← List.flatMap_append, List.take_append_drop]
            have hBa := (Below.refl _ wr).alloc (Nat.le_refl _) (.cells #[.int .u8 x.l[j].k, .string x.l[j].s, .int .i64 x.l[j].n, .slice Au x.l[j].l.length cu] 24)
            have hgra := gbelow hgr hBa
            have HI := Lib.hid (HIH.out x.l[j] (HFF.out _ hm) (n + 1 + ((x.l.take j).flatMap (vis l f)).length) _ (wr.alloc (.cells #[.int .u8 x.l[j].k, .string x.l[j].s, .int .i64 x.l[j].n, .slice Au x.l[j].l.length cu] 24)) ok
              (HS.out.grown hgra (fun i hi e => (HOK.out i hi).1 (by injection e)) (fun e => hp (by injection e)) (fun e => hb (by injection e)))
              (TmV.below hBa h4') (WfL_at HXW.out.parts.2.2.2 hlt) (fun i hi => ⟨(HOK.out i hi).1, by have := (HOK.out i hi).2; have := hgr.size; simp only [World.size_alloc]; omega⟩) (block_below hBa hRr hrnr) hcnt)
            have HNX := Lib.hid hnx
            have HTL := Lib.hid htl
            have HGR := Lib.hid hgra
            generalize x.l[j] = y at g0 g1 g2 g3 HI HNX HTL HGR
            clear hA h0 h1 h2 h3 h4 h4' hnx htl hm hrnr hgr hgra hBa hbW
            go_wp2_with (go_at_call 140; refine HI.out.mono ?_; clear HI; rintro e W6 ⟨⟨hle, rfl, hrn6⟩ | ⟨hfu, rfl⟩, hg6⟩)
            · have hany : (vis l f y).any (isv q) = true := by assumption
              have e1 : ocv q (x.l.flatMap (vis l f)) = ((x.l.take j).flatMap (vis l f)).length + ocv q (vis l f y) := by
                rw [HTL.out, ocv_append, hno.out, if_neg (by decide), ocv_append, hany, if_pos rfl]
              have e2 : (x.l.flatMap (vis l f)).any (isv q) = true := by
                rw [HTL.out, List.any_append, List.any_append, hany]; simp
              go_ret
              exact ⟨.inl ⟨by rw [hoc.out, e1]; omega, by rw [han.out, e2]; rfl, by rw [hoc.out, e1]; rw [show n + (1 + (((x.l.take j).flatMap (vis l f)).length + ocv q (vis l f y))) = n + 1 + ((x.l.take j).flatMap (vis l f)).length + ocv q (vis l f y) by omega]; exact hrn6⟩, HGR.out.trans hg6⟩
            · have hany : (vis l f y).any (isv q) = false := by first | assumption | simpa using (by assumption : ¬ (vis l f y).any (isv q) = true)
              have e3 := ocv_none hany
              go_roundw
              case rel => exact ⟨j + 1, by omega, by go_num, Lib.hid (by rw [HNX.out, List.any_append, hno.out, hany]; rfl), by rw [HNX.out, List.length_append]; omega, by rw [HNX.out, List.length_append, ← Nat.add_assoc, ← e3]; exact hrn6, HGR.out.trans hg6⟩
              case measure => simp [intOf]; omega
            · have e1 : ocv q (x.l.flatMap (vis l f)) = ((x.l.take j).flatMap (vis l f)).length + ocv q (vis l f y ++ (x.l.drop (j + 1)).flatMap (vis l f)) := by
                rw [HTL.out, ocv_append, hno.out, if_neg (by decide)]
              have e2 : ocv q (vis l f y) ≤ ocv q (vis l f y ++ (x.l.drop (j + 1)).flatMap (vis l f)) := by
                rw [ocv_append]; have := ocv_le q (vis l f y); split <;> omega
              exact ⟨rfl, .inr ⟨by rw [hoc.out, e1]; omega, rfl⟩, HGR.out.trans hg6⟩
          · have hf1 : x.l.take j = x.l := List.take_of_length_le (by omega)
            rw [hf1] at hno hcnt hrnr
            have e3 := ocv_none hno.out
            have HN := Lib.hid hrnr
            have HG := Lib.hid hgr
            clear hf1 hA hrnr hgr
            go_wp2
            go_ret
            exact ⟨.inl ⟨by rw [hoc.out, e3]; omega, by rw [han.out, hno.out]; rfl, by rw [hoc.out, e3, ← Nat.add_assoc]; exact HN.out⟩, HG.out⟩
end Go.Proofs.Ytdflckjnpgbjlaa

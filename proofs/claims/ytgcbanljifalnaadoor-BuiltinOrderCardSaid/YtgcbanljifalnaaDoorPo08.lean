import Derived.Test.YtgcbanljifalnaaDoorPo07
set_option linter.unusedVariables false
set_option maxRecDepth 20000
set_option linter.unusedSimpArgs false
/- Unification: a variable bound. Conditions: the arguments read; the bindings make no circle. -/
namespace Go.Proofs.YtgcbanljifalnaaDoor
open Go.RowKit

/-- How a step of unification ends: too many visits; not; bindings, and visits. -/
inductive UO
  | full
  | no
  | yes (l : Bs) (n : Nat)
/-- A variable bound. -/
noncomputable def biU (l : Bs) (v : Int) (t : Tm) (n : Nat) : UO :=
  if 4096 < n + ocv v (visA l t) then .full else if (visA l t).any (isv v) = true then .no else if bindE l v (visA l t) = 0 then .yes (l ++ [(v, t)]) (n + ocv v (visA l t)) else .no
/-- What is left behind. -/
def UPost (w : World) (ok : Nat → Prop) (R p b : Nat) (o : UO) (e : Ending) (w' : World) : Prop :=
  (match o with
   | .full => e = fullEnd
   | .no => e = .returned (.bool false)
   | .yes l n => e = .returned (.bool true) ∧ Sub w' ok l p b ∧ RunAt w' R p (n : Int)) ∧ Keeps (fun k => k = R ∨ k = b) w w'
theorem keeps_grown {S : Nat → Prop} {w w' : World} {r : Option Nat} (h : w.grownBy w' r) (hr : ∀ k, r = some k → S k) : Keeps S w w' :=
  ⟨h.os, h.tape, h.output, h.size, fun k hk hs => h.block k hk (fun e => hs (hr k e.symm))⟩
theorem gbelow2 {w W W' : World} {r : Option Nat} (h : Below w.heap.size w W) (g : W.grownBy W' r) : w.grownBy W' r := (gnone h).trans g
set_option maxRecDepth 100000 in
set_option maxHeartbeats 4000000 in
theorem ubind_c (l : Bs) (p b R : Nat) (q : Int) (hp : p ≠ R) (hb : b ≠ R) (t : Tm) (n : Nat) (v : Value) (w : World) (ok : Nat → Prop) (hs : Sub w ok l p b) (hv : TmV w ok t v) (hwf : t.Wf) (hok : ∀ i, ok i → i ≠ R ∧ i < w.heap.size) (hrn : RunAt w R p (n : Int)) (hn : n ≤ 4096) (hq : -9223372036854775808 ≤ q ∧ q ≤ 9223372036854775807) (hl : l.length < 1000000) :
    Calls Tryd.prog 142 #[.pointer (some ⟨R, 0, none⟩), .int .i64 q, v] w (UPost w ok R p b (biU l q t n)) := by
  obtain ⟨u, rfl, hvS⟩ := hv
  obtain ⟨A, c, rfl⟩ := hvS.form
  have hRl := (Array.getElem?_eq_some_iff.1 hrn).1
  have hB0 : Below w.heap.size w (w.alloc (.cells #[.int .u8 t.k, .string t.s, .int .i64 t.n, .slice A t.l.length c] 24)).drew := ((Below.refl _ w).alloc (Nat.le_refl _) _).drew
  have hf := hs.acyc.fueled t
  have HO := Lib.hid (occurs_c l p b R q hp hb _ t hf n (.agg #[.int .u8 t.k, .string t.s, .int .i64 t.n, .slice A t.l.length c]) _ ok (hs.below hB0) (TmV.below hB0 ⟨_, rfl, hvS⟩) hwf (fun i hi => ⟨(hok i hi).1, by have := (hok i hi).2; have := hB0.size; omega⟩) (block_below hB0 hRl hrn) hn)
  have hbx : (w.alloc (.cells #[.int .u8 t.k, .string t.s, .int .i64 t.n, .slice A t.l.length c] 24)).drew.heap[w.heap.size]? = some (.cells #[.int .u8 t.k, .string t.s, .int .i64 t.n, .slice A t.l.length c] 24 (0, 0)) := heap_new w _
  have hr0 := block_below hB0 hRl hrn
  have hbn : w.heap.size ≠ b := by have := hs.lt.2; omega
  change Hid (Calls _ _ _ _ (OcPost _ R p n q (visA l t))) at HO
  unfold biU
  have HS := Lib.hid hs
  have HV := Lib.hid (show TmV w ok t (.agg #[.int .u8 t.k, .string t.s, .int .i64 t.n, .slice A t.l.length c]) from ⟨_, rfl, hvS⟩)
  have HOK := Lib.hid hok
  have HF := Lib.hid hf
  have hle := ocv_le q (visA l t)
  clear hs hvS hok hf
  by_cases h1 : 4096 < n + ocv q (visA l t)
  · rw [if_pos h1]
    have HO2 := Lib.hid (HO.out.mono (fun e w' (h : OcPost _ R p n q (visA l t) e w') => (show e = fullEnd ∧ (w.alloc (.cells #[.int .u8 t.k, .string t.s, .int .i64 t.n, .slice A t.l.length c] 24)).drew.grownBy w' (some R) from ⟨by rcases h.1 with h2 | h2; omega; exact h2.2, h.2⟩)))
    clear HO h1 hle
    go_enter Tryd.func142, Tryd.ntmps142
    go_wp2
    refine wp_region_held_drew (S := (fun W => W.cell? ⟨R, 0, none⟩ = some (.pointer (some ⟨p, 0, none⟩)) ∧ W.cell? ⟨w.heap.size, 0, none⟩ = some (.int .u8 t.k) ∧ W.cell? ⟨w.heap.size, 1, none⟩ = some (.string t.s) ∧ W.cell? ⟨w.heap.size, 2, none⟩ = some (.int .i64 t.n) ∧ W.cell? ⟨w.heap.size, 3, none⟩ = some (.slice A t.l.length c))) (by kernel_rfl) ?_ (fun hHeld => ?_)
    · exact ⟨(box2 hr0).1, (box4 hbx).1, (box4 hbx).2.1, (box4 hbx).2.2.1, (box4 hbx).2.2.2.1⟩
    change wpAnyH _ .any _ _ _ 16 (Array.replicate 16 false) _ _
    refine wpAnyH_take (i := 0) (oi := ⟨some 7, _, _, _, _, _⟩) (v := ?_) rfl (by kernel_rfl) (by kernel_rfl) (by kernel_rfl) (fun _ _ _ h => h) (Or.inl ⟨by rfl, ?_⟩) (by assumption) ?_
    rotate_left
    · (intro w hSw; (try dsimp only at hSw); go_simp; try (with_reducible rfl))
    (try simp only [Act.put, List.setIfInBounds_toArray, List.set_cons_zero, List.set_cons_succ])
    refine wpAnyH_take (i := 1) (oi := ⟨some 8, _, _, _, _, _⟩) (v := ?_) rfl (by kernel_rfl) (by kernel_rfl) (by kernel_rfl) (fun _ _ _ h => h) (Or.inl ⟨by rfl, ?_⟩) (by assumption) ?_
    rotate_left
    · (intro w hSw; (try dsimp only at hSw); go_simp; try (with_reducible rfl))
    (try simp only [Act.put, List.setIfInBounds_toArray, List.set_cons_zero, List.set_cons_succ])
    refine wpAnyH_take (i := 2) (oi := ⟨some 9, _, _, _, _, _⟩) (v := ?_) rfl (by kernel_rfl) (by kernel_rfl) (by kernel_rfl) (fun _ _ _ h => h) (Or.inl ⟨by rfl, ?_⟩) (by assumption) ?_
    rotate_left
    · (intro w hSw; (try dsimp only at hSw); go_simp; try (with_reducible rfl))
    (try simp only [Act.put, List.setIfInBounds_toArray, List.set_cons_zero, List.set_cons_succ])
    refine wpAnyH_ready (rs := [3]) (by kernel_rfl) (by simp) ?_
    refine AllReadyH.cons (o := ⟨some 10, _, _, _, _, _⟩) rfl (fun K hK => ?_) AllReadyH.nil
    go_simp
    go_at_call 152
    refine HO2.out.mono ?_
    rintro e W5 ⟨rfl, hg5⟩
    exact ⟨rfl, rfl, (keeps_grown (gbelow2 hB0 hg5) (fun k hk => .inl (by injection hk with hk; exact hk.symm)))⟩
  · rw [if_neg h1]
    by_cases h2 : (visA l t).any (isv q) = true
    · rw [if_pos h2]
      have HO2 := Lib.hid (HO.out.mono (fun e w' (h : OcPost _ R p n q (visA l t) e w') => (show e = .returned (.bool true) ∧ (w.alloc (.cells #[.int .u8 t.k, .string t.s, .int .i64 t.n, .slice A t.l.length c] 24)).drew.grownBy w' (some R) from ⟨by rcases h.1 with h3 | h3; rw [← h2]; exact h3.2.1; omega, h.2⟩)))
      clear HO h1 h2 hle
      go_enter Tryd.func142, Tryd.ntmps142
      go_wp2
      refine wp_region_held_drew (S := (fun W => W.cell? ⟨w.heap.size, 0, none⟩ = some (.int .u8 t.k) ∧ W.cell? ⟨w.heap.size, 1, none⟩ = some (.string t.s) ∧ W.cell? ⟨w.heap.size, 2, none⟩ = some (.int .i64 t.n) ∧ W.cell? ⟨w.heap.size, 3, none⟩ = some (.slice A t.l.length c))) (by kernel_rfl) ?_ (fun hHeld => ?_)
      · exact ⟨(box4 hbx).1, (box4 hbx).2.1, (box4 hbx).2.2.1, (box4 hbx).2.2.2.1⟩
      change wpAnyH _ .any _ _ _ 16 (Array.replicate 16 false) _ _
      refine wpAnyH_take (i := 0) (oi := ⟨some 7, _, _, _, _, _⟩) (v := ?_) rfl (by kernel_rfl) (by kernel_rfl) (by kernel_rfl) (fun _ _ _ h => h) (Or.inl ⟨by rfl, ?_⟩) (by assumption) ?_
      rotate_left
      · (intro w hSw; (try dsimp only at hSw); go_simp; try (with_reducible rfl))
      (try simp only [Act.put, List.setIfInBounds_toArray, List.set_cons_zero, List.set_cons_succ])
      refine wpAnyH_take (i := 1) (oi := ⟨some 8, _, _, _, _, _⟩) (v := ?_) rfl (by kernel_rfl) (by kernel_rfl) (by kernel_rfl) (fun _ _ _ h => h) (Or.inl ⟨by rfl, ?_⟩) (by assumption) ?_
      rotate_left
      · (intro w hSw; (try dsimp only at hSw); go_simp; try (with_reducible rfl))
      (try simp only [Act.put, List.setIfInBounds_toArray, List.set_cons_zero, List.set_cons_succ])
      refine wpAnyH_take (i := 2) (oi := ⟨some 9, _, _, _, _, _⟩) (v := ?_) rfl (by kernel_rfl) (by kernel_rfl) (by kernel_rfl) (fun _ _ _ h => h) (Or.inl ⟨by rfl, ?_⟩) (by assumption) ?_
      rotate_left
      · (intro w hSw; (try dsimp only at hSw); go_simp; try (with_reducible rfl))
      (try simp only [Act.put, List.setIfInBounds_toArray, List.set_cons_zero, List.set_cons_succ])
      refine wpAnyH_ready (rs := [3]) (by kernel_rfl) (by simp) ?_
      refine AllReadyH.cons (o := ⟨some 10, _, _, _, _, _⟩) rfl (fun K hK => ?_) AllReadyH.nil
      go_simp
      go_at_call 152
      refine HO2.out.mono ?_
      clear HO2
      rintro e W5 ⟨rfl, hg5⟩
      have hbx5 := (hg5.block w.heap.size (by simp) (fun e => by injection e; omega)).trans hbx
      go_wp2_with fail
      refine hK.out _ _ ⟨(box4 hbx5).1, (box4 hbx5).2.1, (box4 hbx5).2.2.1, (box4 hbx5).2.2.2.1⟩ (fun hHeld => ?_)
      clear hK K
      (try simp only [Act.put, List.setIfInBounds_toArray, List.set_cons_zero, List.set_cons_succ])
      refine wpAnyH_take (i := 4) (oi := ⟨some 11, _, _, _, _, _⟩) (v := ?_) rfl (by kernel_rfl) (by kernel_rfl) (by kernel_rfl) (fun _ _ _ h => h) (Or.inl ⟨by rfl, ?_⟩) (by assumption) ?_
      rotate_left
      · (intro w hSw; (try dsimp only at hSw); go_simp; try (with_reducible rfl))
      (try simp only [Act.put, List.setIfInBounds_toArray, List.set_cons_zero, List.set_cons_succ])
      refine wpAnyH_take (i := 5) (oi := ⟨some 12, _, _, _, _, _⟩) (v := ?_) rfl (by kernel_rfl) (by kernel_rfl) (by kernel_rfl) (fun _ _ _ h => h) (Or.inl ⟨by rfl, ?_⟩) (by assumption) ?_
      rotate_left
      · (intro w hSw; (try dsimp only at hSw); go_simp; try (with_reducible rfl))
      (try simp only [Act.put, List.setIfInBounds_toArray, List.set_cons_zero, List.set_cons_succ])
      refine wpAnyH_take (i := 6) (oi := ⟨some 13, _, _, _, _, _⟩) rfl (by kernel_rfl) (by kernel_rfl) (by kernel_rfl) (fun _ _ _ h => h) (Or.inr ⟨by rfl, rfl⟩) (by assumption) ?_
      (try simp only [Act.put, List.setIfInBounds_toArray, List.set_cons_zero, List.set_cons_succ])
      refine wpAnyH_take (i := 7) (oi := ⟨some 14, _, _, _, _, _⟩) rfl (by kernel_rfl) (by kernel_rfl) (by kernel_rfl) (fun _ _ _ h => h) (Or.inr ⟨by rfl, rfl⟩) (by assumption) ?_
      (try simp only [Act.put, List.setIfInBounds_toArray, List.set_cons_zero, List.set_cons_succ])
      refine wpAnyH_take (i := 8) (oi := ⟨some 15, _, _, _, _, _⟩) rfl (by kernel_rfl) (by kernel_rfl) (by kernel_rfl) (fun _ _ _ h => h) (Or.inr ⟨by rfl, rfl⟩) (by assumption) ?_
      (try simp only [Act.put, List.setIfInBounds_toArray, List.set_cons_zero, List.set_cons_succ])
      refine wpAnyH_take (i := 9) (oi := ⟨some 16, _, _, _, _, _⟩) rfl (by kernel_rfl) (by kernel_rfl) (by kernel_rfl) (fun _ _ _ h => h) (Or.inr ⟨by rfl, rfl⟩) (by assumption) ?_
      (try simp only [Act.put, List.setIfInBounds_toArray, List.set_cons_zero, List.set_cons_succ])
      refine wpAnyH_take (i := 10) (oi := ⟨some 17, _, _, _, _, _⟩) rfl (by kernel_rfl) (by kernel_rfl) (by kernel_rfl) (fun _ _ _ h => h) (Or.inr ⟨by rfl, rfl⟩) (by assumption) ?_
      (try simp only [Act.put, List.setIfInBounds_toArray, List.set_cons_zero, List.set_cons_succ])
      refine wpAnyH_take (i := 11) (oi := ⟨some 18, _, _, _, _, _⟩) rfl (by kernel_rfl) (by kernel_rfl) (by kernel_rfl) (fun _ _ _ h => h) (Or.inr ⟨by rfl, rfl⟩) (by assumption) ?_
      (try simp only [Act.put, List.setIfInBounds_toArray, List.set_cons_zero, List.set_cons_succ])
      refine wpAnyH_take (i := 12) (oi := ⟨some 19, _, _, _, _, _⟩) rfl (by kernel_rfl) (by kernel_rfl) (by kernel_rfl) (fun _ _ _ h => h) (Or.inr ⟨by rfl, rfl⟩) (by assumption) ?_
      (try simp only [Act.put, List.setIfInBounds_toArray, List.set_cons_zero, List.set_cons_succ])
      refine wpAnyH_take (i := 13) (oi := ⟨some 20, _, _, _, _, _⟩) rfl (by kernel_rfl) (by kernel_rfl) (by kernel_rfl) (fun _ _ _ h => h) (Or.inr ⟨by rfl, rfl⟩) (by assumption) ?_
      (try simp only [Act.put, List.setIfInBounds_toArray, List.set_cons_zero, List.set_cons_succ])
      refine wpAnyH_take (i := 14) (oi := ⟨some 21, _, _, _, _, _⟩) (v := ?_) rfl (by kernel_rfl) (by kernel_rfl) (by kernel_rfl) (fun _ _ _ h => h) (Or.inl ⟨by rfl, ?_⟩) (by assumption) ?_
      rotate_left
      · (intro w hSw; (try dsimp only at hSw); go_simp; try (with_reducible rfl))
      (try simp only [Act.put, List.setIfInBounds_toArray, List.set_cons_zero, List.set_cons_succ])
      refine wpAnyH_take (i := 15) (oi := ⟨some 6, _, _, _, _, _⟩) (v := ?_) rfl (by kernel_rfl) (by kernel_rfl) (by kernel_rfl) (fun _ _ _ h => h) (Or.inl ⟨by rfl, ?_⟩) (by assumption) ?_
      rotate_left
      · (intro w hSw; (try dsimp only at hSw); go_simp; try (with_reducible rfl))
      (try simp only [Act.put, List.setIfInBounds_toArray, List.set_cons_zero, List.set_cons_succ])
      refine wpAnyH_done (by kernel_rfl) ?_ _
      go_wp2
      go_ret
      exact ⟨rfl, (keeps_grown (gbelow2 hB0 hg5) (fun k hk => .inl (by injection hk with hk; exact hk.symm)))⟩
    · rw [if_neg h2]
      have h2' : (visA l t).any (isv q) = false := by simpa using h2
      have h4 := ocv_none h2'
      have HO2 := Lib.hid (HO.out.mono (fun e w' (h : OcPost _ R p n q (visA l t) e w') => (show (e = .returned (.bool false) ∧ RunAt w' R p ((n + ocv q (visA l t) : Nat) : Int)) ∧ (w.alloc (.cells #[.int .u8 t.k, .string t.s, .int .i64 t.n, .slice A t.l.length c] 24)).drew.grownBy w' (some R) from ⟨by rcases h.1 with h3 | h3; rw [← h2']; exact h3.2; omega, h.2⟩)))
      have HBI := Lib.hid (fun W (hs : Sub W ok l p b) (hv : TmV W ok t (.agg #[.int .u8 t.k, .string t.s, .int .i64 t.n, .slice A t.l.length c])) => Bind_c l p b _ q t _ W ok hs hv hwf HF.out hq hl)
      change Hid (∀ W, _ → _ → Calls _ _ _ W (fun e w' => e = .returned (.int .i64 (bindE l q (visA l t))) ∧ Sub w' ok (bnd l q t (visA l t)) p b ∧ _)) at HBI
      have hne := fun h => bindE_eq (l := l) (v := q) (P := visA l t) h t
      generalize bnd l q t (visA l t) = lN at HBI hne
      generalize ocv q (visA l t) = oc at HO2
      clear HO h1 h2 h2' h4 hle HF
      have HNE := Lib.hid hne
      clear hne
      by_cases h5 : bindE l q (visA l t) = 0
      · rw [if_pos h5]
        have HN2 := Lib.hid (HNE.out h5)
        rw [h5] at HBI
        clear h5 HNE
        go_enter Tryd.func142, Tryd.ntmps142
        go_wp2
        refine wp_region_held_drew (S := (fun W => W.cell? ⟨R, 0, none⟩ = some (.pointer (some ⟨p, 0, none⟩)) ∧ W.cell? ⟨w.heap.size, 0, none⟩ = some (.int .u8 t.k) ∧ W.cell? ⟨w.heap.size, 1, none⟩ = some (.string t.s) ∧ W.cell? ⟨w.heap.size, 2, none⟩ = some (.int .i64 t.n) ∧ W.cell? ⟨w.heap.size, 3, none⟩ = some (.slice A t.l.length c))) (by kernel_rfl) ?_ (fun hHeld => ?_)
        · exact ⟨(box2 hr0).1, (box4 hbx).1, (box4 hbx).2.1, (box4 hbx).2.2.1, (box4 hbx).2.2.2.1⟩
        change wpAnyH _ .any _ _ _ 16 (Array.replicate 16 false) _ _
        refine wpAnyH_take (i := 0) (oi := ⟨some 7, _, _, _, _, _⟩) (v := ?_) rfl (by kernel_rfl) (by kernel_rfl) (by kernel_rfl) (fun _ _ _ h => h) (Or.inl ⟨by rfl, ?_⟩) (by assumption) ?_
        rotate_left
        · (intro w hSw; (try dsimp only at hSw); go_simp; try (with_reducible rfl))
        (try simp only [Act.put, List.setIfInBounds_toArray, List.set_cons_zero, List.set_cons_succ])
        refine wpAnyH_take (i := 1) (oi := ⟨some 8, _, _, _, _, _⟩) (v := ?_) rfl (by kernel_rfl) (by kernel_rfl) (by kernel_rfl) (fun _ _ _ h => h) (Or.inl ⟨by rfl, ?_⟩) (by assumption) ?_
        rotate_left
        · (intro w hSw; (try dsimp only at hSw); go_simp; try (with_reducible rfl))
        (try simp only [Act.put, List.setIfInBounds_toArray, List.set_cons_zero, List.set_cons_succ])
        refine wpAnyH_take (i := 2) (oi := ⟨some 9, _, _, _, _, _⟩) (v := ?_) rfl (by kernel_rfl) (by kernel_rfl) (by kernel_rfl) (fun _ _ _ h => h) (Or.inl ⟨by rfl, ?_⟩) (by assumption) ?_
        rotate_left
        · (intro w hSw; (try dsimp only at hSw); go_simp; try (with_reducible rfl))
        (try simp only [Act.put, List.setIfInBounds_toArray, List.set_cons_zero, List.set_cons_succ])
        refine wpAnyH_ready (rs := [3]) (by kernel_rfl) (by simp) ?_
        refine AllReadyH.cons (o := ⟨some 10, _, _, _, _, _⟩) rfl (fun K hK => ?_) AllReadyH.nil
        go_simp
        go_at_call 152
        refine HO2.out.mono ?_
        clear HO2
        rintro e W5 ⟨⟨rfl, hrn5⟩, hg5⟩
        have hbx5 := (hg5.block w.heap.size (by simp) (fun e => by injection e; omega)).trans hbx
        have r0 : W5.cell? ⟨R, 0, none⟩ = some (.pointer (some ⟨p, 0, none⟩)) := (box2 hrn5).1
        go_wp2_with fail
        refine hK.out _ _ ⟨r0, (box4 hbx5).1, (box4 hbx5).2.1, (box4 hbx5).2.2.1, (box4 hbx5).2.2.2.1⟩ (fun hHeld => ?_)
        clear hK K
        (try simp only [Act.put, List.setIfInBounds_toArray, List.set_cons_zero, List.set_cons_succ])
        refine wpAnyH_take (i := 4) (oi := ⟨some 11, _, _, _, _, _⟩) (v := ?_) rfl (by kernel_rfl) (by kernel_rfl) (by kernel_rfl) (fun _ _ _ h => h) (Or.inl ⟨by rfl, ?_⟩) (by assumption) ?_
        rotate_left
        · (intro w hSw; (try dsimp only at hSw); go_simp; try (with_reducible rfl))
        (try simp only [Act.put, List.setIfInBounds_toArray, List.set_cons_zero, List.set_cons_succ])
        refine wpAnyH_take (i := 5) (oi := ⟨some 12, _, _, _, _, _⟩) (v := ?_) rfl (by kernel_rfl) (by kernel_rfl) (by kernel_rfl) (fun _ _ _ h => h) (Or.inl ⟨by rfl, ?_⟩) (by assumption) ?_
        rotate_left
        · (intro w hSw; (try dsimp only at hSw); go_simp; try (with_reducible rfl))
        (try simp only [Act.put, List.setIfInBounds_toArray, List.set_cons_zero, List.set_cons_succ])
        refine wpAnyH_take (i := 6) (oi := ⟨some 13, _, _, _, _, _⟩) (v := ?_) rfl (by kernel_rfl) (by kernel_rfl) (by kernel_rfl) (fun _ _ _ h => h) (Or.inl ⟨by rfl, ?_⟩) (by assumption) ?_
        rotate_left
        · (intro w hSw; (try dsimp only at hSw); go_simp; try (with_reducible rfl))
        (try simp only [Act.put, List.setIfInBounds_toArray, List.set_cons_zero, List.set_cons_succ])
        refine wpAnyH_take (i := 7) (oi := ⟨some 14, _, _, _, _, _⟩) (v := ?_) rfl (by kernel_rfl) (by kernel_rfl) (by kernel_rfl) (fun _ _ _ h => h) (Or.inl ⟨by rfl, ?_⟩) (by assumption) ?_
        rotate_left
        · (intro w hSw; (try dsimp only at hSw); go_simp; try (with_reducible rfl))
        (try simp only [Act.put, List.setIfInBounds_toArray, List.set_cons_zero, List.set_cons_succ])
        refine wpAnyH_take (i := 8) (oi := ⟨some 15, _, _, _, _, _⟩) (v := ?_) rfl (by kernel_rfl) (by kernel_rfl) (by kernel_rfl) (fun _ _ _ h => h) (Or.inl ⟨by rfl, ?_⟩) (by assumption) ?_
        rotate_left
        · (intro w hSw; (try dsimp only at hSw); go_simp; try (with_reducible rfl))
        (try simp only [Act.put, List.setIfInBounds_toArray, List.set_cons_zero, List.set_cons_succ])
        refine wpAnyH_take (i := 9) (oi := ⟨some 16, _, _, _, _, _⟩) (v := ?_) rfl (by kernel_rfl) (by kernel_rfl) (by kernel_rfl) (fun _ _ _ h => h) (Or.inl ⟨by rfl, ?_⟩) (by assumption) ?_
        rotate_left
        · (intro w hSw; (try dsimp only at hSw); go_simp; try (with_reducible rfl))
        (try simp only [Act.put, List.setIfInBounds_toArray, List.set_cons_zero, List.set_cons_succ])
        refine wpAnyH_take (i := 10) (oi := ⟨some 17, _, _, _, _, _⟩) (v := ?_) rfl (by kernel_rfl) (by kernel_rfl) (by kernel_rfl) (fun _ _ _ h => h) (Or.inl ⟨by rfl, ?_⟩) (by assumption) ?_
        rotate_left
        · (intro w hSw; (try dsimp only at hSw); go_simp; try (with_reducible rfl))
        (try simp only [Act.put, List.setIfInBounds_toArray, List.set_cons_zero, List.set_cons_succ])
        refine wpAnyH_take (i := 11) (oi := ⟨some 18, _, _, _, _, _⟩) (v := ?_) rfl (by kernel_rfl) (by kernel_rfl) (by kernel_rfl) (fun _ _ _ h => h) (Or.inl ⟨by rfl, ?_⟩) (by assumption) ?_
        rotate_left
        · (intro w hSw; (try dsimp only at hSw); go_simp; try (with_reducible rfl))
        (try simp only [Act.put, List.setIfInBounds_toArray, List.set_cons_zero, List.set_cons_succ])
        refine wpAnyH_ready (rs := [12]) (by kernel_rfl) (by simp) ?_
        refine AllReadyH.cons (o := ⟨some 19, _, _, _, _, _⟩) rfl (fun K hK => ?_) AllReadyH.nil
        go_simp
        go_at_call 153
        refine (HBI.out _ (HS.out.grown (gbelow2 hB0 hg5) (fun i hi e => (HOK.out i hi).1 (by injection e)) (fun e => hp (by injection e)) (fun e => hb (by injection e))) (TmV.grown (gbelow2 hB0 hg5) (fun i hi e => (HOK.out i hi).1 (by injection e)) HV.out)).mono ?_
        clear HBI
        rintro e W6 ⟨rfl, hs6, hg6⟩
        have hbx6 := (hg6.block w.heap.size (cell_lt (box4 hbx5).1) (fun e => hbn (by injection e))).trans hbx5
        have r6 := (hg6.block R (cell_lt r0) (fun e => hb (by injection e with e; exact e.symm))).trans hrn5
        go_wp2_with fail
        refine hK.out _ _ ⟨(box2 r6).1, (box4 hbx6).1, (box4 hbx6).2.1, (box4 hbx6).2.2.1, (box4 hbx6).2.2.2.1⟩ (fun hHeld => ?_)
        clear hK K
        (try simp only [Act.put, List.setIfInBounds_toArray, List.set_cons_zero, List.set_cons_succ])
        refine wpAnyH_take (i := 13) (oi := ⟨some 20, _, _, _, _, _⟩) (v := ?_) rfl (by kernel_rfl) (by kernel_rfl) (by kernel_rfl) (fun _ _ _ h => h) (Or.inl ⟨by rfl, ?_⟩) (by assumption) ?_
        rotate_left
        · (intro w hSw; (try dsimp only at hSw); go_simp; try (with_reducible rfl))
        (try simp only [Act.put, List.setIfInBounds_toArray, List.set_cons_zero, List.set_cons_succ])
        refine wpAnyH_take (i := 14) (oi := ⟨some 21, _, _, _, _, _⟩) (v := ?_) rfl (by kernel_rfl) (by kernel_rfl) (by kernel_rfl) (fun _ _ _ h => h) (Or.inl ⟨by rfl, ?_⟩) (by assumption) ?_
        rotate_left
        · (intro w hSw; (try dsimp only at hSw); go_simp; try (with_reducible rfl))
        (try simp only [Act.put, List.setIfInBounds_toArray, List.set_cons_zero, List.set_cons_succ])
        refine wpAnyH_take (i := 15) (oi := ⟨some 6, _, _, _, _, _⟩) (v := ?_) rfl (by kernel_rfl) (by kernel_rfl) (by kernel_rfl) (fun _ _ _ h => h) (Or.inl ⟨by rfl, ?_⟩) (by assumption) ?_
        rotate_left
        · (intro w hSw; (try dsimp only at hSw); go_simp; try (with_reducible rfl))
        (try simp only [Act.put, List.setIfInBounds_toArray, List.set_cons_zero, List.set_cons_succ])
        refine wpAnyH_done (by kernel_rfl) ?_ _
        go_wp2
        go_ret
        exact ⟨⟨rfl, HN2.out ▸ hs6, (hg6.block R (cell_lt r0) (fun e => hb (by injection e with e; exact e.symm))).trans hrn5⟩, (keeps_grown (gbelow2 hB0 hg5) (fun k hk => .inl (by injection hk with hk; exact hk.symm))).trans (keeps_grown hg6 (fun k hk => .inl (.inr (by injection hk with hk; exact hk.symm))))⟩
      · rw [if_neg h5]
        generalize bindE l q (visA l t) = E at h5 HBI
        have h5' : (E == 0) = false := by simpa using h5
        clear h5 HNE
        go_enter Tryd.func142, Tryd.ntmps142
        go_wp2
        refine wp_region_held_drew (S := (fun W => W.cell? ⟨R, 0, none⟩ = some (.pointer (some ⟨p, 0, none⟩)) ∧ W.cell? ⟨w.heap.size, 0, none⟩ = some (.int .u8 t.k) ∧ W.cell? ⟨w.heap.size, 1, none⟩ = some (.string t.s) ∧ W.cell? ⟨w.heap.size, 2, none⟩ = some (.int .i64 t.n) ∧ W.cell? ⟨w.heap.size, 3, none⟩ = some (.slice A t.l.length c))) (by kernel_rfl) ?_ (fun hHeld => ?_)
        · exact ⟨(box2 hr0).1, (box4 hbx).1, (box4 hbx).2.1, (box4 hbx).2.2.1, (box4 hbx).2.2.2.1⟩
        change wpAnyH _ .any _ _ _ 16 (Array.replicate 16 false) _ _
        refine wpAnyH_take (i := 0) (oi := ⟨some 7, _, _, _, _, _⟩) (v := ?_) rfl (by kernel_rfl) (by kernel_rfl) (by kernel_rfl) (fun _ _ _ h => h) (Or.inl ⟨by rfl, ?_⟩) (by assumption) ?_
        rotate_left
        · (intro w hSw; (try dsimp only at hSw); go_simp; try (with_reducible rfl))
        (try simp only [Act.put, List.setIfInBounds_toArray, List.set_cons_zero, List.set_cons_succ])
        refine wpAnyH_take (i := 1) (oi := ⟨some 8, _, _, _, _, _⟩) (v := ?_) rfl (by kernel_rfl) (by kernel_rfl) (by kernel_rfl) (fun _ _ _ h => h) (Or.inl ⟨by rfl, ?_⟩) (by assumption) ?_
        rotate_left
        · (intro w hSw; (try dsimp only at hSw); go_simp; try (with_reducible rfl))
        (try simp only [Act.put, List.setIfInBounds_toArray, List.set_cons_zero, List.set_cons_succ])
        refine wpAnyH_take (i := 2) (oi := ⟨some 9, _, _, _, _, _⟩) (v := ?_) rfl (by kernel_rfl) (by kernel_rfl) (by kernel_rfl) (fun _ _ _ h => h) (Or.inl ⟨by rfl, ?_⟩) (by assumption) ?_
        rotate_left
        · (intro w hSw; (try dsimp only at hSw); go_simp; try (with_reducible rfl))
        (try simp only [Act.put, List.setIfInBounds_toArray, List.set_cons_zero, List.set_cons_succ])
        refine wpAnyH_ready (rs := [3]) (by kernel_rfl) (by simp) ?_
        refine AllReadyH.cons (o := ⟨some 10, _, _, _, _, _⟩) rfl (fun K hK => ?_) AllReadyH.nil
        go_simp
        go_at_call 152
        refine HO2.out.mono ?_
        clear HO2
        rintro e W5 ⟨⟨rfl, hrn5⟩, hg5⟩
        have hbx5 := (hg5.block w.heap.size (by simp) (fun e => by injection e; omega)).trans hbx
        have r0 : W5.cell? ⟨R, 0, none⟩ = some (.pointer (some ⟨p, 0, none⟩)) := (box2 hrn5).1
        go_wp2_with fail
        refine hK.out _ _ ⟨r0, (box4 hbx5).1, (box4 hbx5).2.1, (box4 hbx5).2.2.1, (box4 hbx5).2.2.2.1⟩ (fun hHeld => ?_)
        clear hK K
        (try simp only [Act.put, List.setIfInBounds_toArray, List.set_cons_zero, List.set_cons_succ])
        refine wpAnyH_take (i := 4) (oi := ⟨some 11, _, _, _, _, _⟩) (v := ?_) rfl (by kernel_rfl) (by kernel_rfl) (by kernel_rfl) (fun _ _ _ h => h) (Or.inl ⟨by rfl, ?_⟩) (by assumption) ?_
        rotate_left
        · (intro w hSw; (try dsimp only at hSw); go_simp; try (with_reducible rfl))
        (try simp only [Act.put, List.setIfInBounds_toArray, List.set_cons_zero, List.set_cons_succ])
        refine wpAnyH_take (i := 5) (oi := ⟨some 12, _, _, _, _, _⟩) (v := ?_) rfl (by kernel_rfl) (by kernel_rfl) (by kernel_rfl) (fun _ _ _ h => h) (Or.inl ⟨by rfl, ?_⟩) (by assumption) ?_
        rotate_left
        · (intro w hSw; (try dsimp only at hSw); go_simp; try (with_reducible rfl))
        (try simp only [Act.put, List.setIfInBounds_toArray, List.set_cons_zero, List.set_cons_succ])
        refine wpAnyH_take (i := 6) (oi := ⟨some 13, _, _, _, _, _⟩) (v := ?_) rfl (by kernel_rfl) (by kernel_rfl) (by kernel_rfl) (fun _ _ _ h => h) (Or.inl ⟨by rfl, ?_⟩) (by assumption) ?_
        rotate_left
        · (intro w hSw; (try dsimp only at hSw); go_simp; try (with_reducible rfl))
        (try simp only [Act.put, List.setIfInBounds_toArray, List.set_cons_zero, List.set_cons_succ])
        refine wpAnyH_take (i := 7) (oi := ⟨some 14, _, _, _, _, _⟩) (v := ?_) rfl (by kernel_rfl) (by kernel_rfl) (by kernel_rfl) (fun _ _ _ h => h) (Or.inl ⟨by rfl, ?_⟩) (by assumption) ?_
        rotate_left
        · (intro w hSw; (try dsimp only at hSw); go_simp; try (with_reducible rfl))
        (try simp only [Act.put, List.setIfInBounds_toArray, List.set_cons_zero, List.set_cons_succ])
        refine wpAnyH_take (i := 8) (oi := ⟨some 15, _, _, _, _, _⟩) (v := ?_) rfl (by kernel_rfl) (by kernel_rfl) (by kernel_rfl) (fun _ _ _ h => h) (Or.inl ⟨by rfl, ?_⟩) (by assumption) ?_
        rotate_left
        · (intro w hSw; (try dsimp only at hSw); go_simp; try (with_reducible rfl))
        (try simp only [Act.put, List.setIfInBounds_toArray, List.set_cons_zero, List.set_cons_succ])
        refine wpAnyH_take (i := 9) (oi := ⟨some 16, _, _, _, _, _⟩) (v := ?_) rfl (by kernel_rfl) (by kernel_rfl) (by kernel_rfl) (fun _ _ _ h => h) (Or.inl ⟨by rfl, ?_⟩) (by assumption) ?_
        rotate_left
        · (intro w hSw; (try dsimp only at hSw); go_simp; try (with_reducible rfl))
        (try simp only [Act.put, List.setIfInBounds_toArray, List.set_cons_zero, List.set_cons_succ])
        refine wpAnyH_take (i := 10) (oi := ⟨some 17, _, _, _, _, _⟩) (v := ?_) rfl (by kernel_rfl) (by kernel_rfl) (by kernel_rfl) (fun _ _ _ h => h) (Or.inl ⟨by rfl, ?_⟩) (by assumption) ?_
        rotate_left
        · (intro w hSw; (try dsimp only at hSw); go_simp; try (with_reducible rfl))
        (try simp only [Act.put, List.setIfInBounds_toArray, List.set_cons_zero, List.set_cons_succ])
        refine wpAnyH_take (i := 11) (oi := ⟨some 18, _, _, _, _, _⟩) (v := ?_) rfl (by kernel_rfl) (by kernel_rfl) (by kernel_rfl) (fun _ _ _ h => h) (Or.inl ⟨by rfl, ?_⟩) (by assumption) ?_
        rotate_left
        · (intro w hSw; (try dsimp only at hSw); go_simp; try (with_reducible rfl))
        (try simp only [Act.put, List.setIfInBounds_toArray, List.set_cons_zero, List.set_cons_succ])
        refine wpAnyH_ready (rs := [12]) (by kernel_rfl) (by simp) ?_
        refine AllReadyH.cons (o := ⟨some 19, _, _, _, _, _⟩) rfl (fun K hK => ?_) AllReadyH.nil
        go_simp
        go_at_call 153
        refine (HBI.out _ (HS.out.grown (gbelow2 hB0 hg5) (fun i hi e => (HOK.out i hi).1 (by injection e)) (fun e => hp (by injection e)) (fun e => hb (by injection e))) (TmV.grown (gbelow2 hB0 hg5) (fun i hi e => (HOK.out i hi).1 (by injection e)) HV.out)).mono ?_
        clear HBI
        rintro e W6 ⟨rfl, hs6, hg6⟩
        have hbx6 := (hg6.block w.heap.size (cell_lt (box4 hbx5).1) (fun e => hbn (by injection e))).trans hbx5
        have r6 := (hg6.block R (cell_lt r0) (fun e => hb (by injection e with e; exact e.symm))).trans hrn5
        go_wp2_with fail
        refine hK.out _ _ ⟨(box2 r6).1, (box4 hbx6).1, (box4 hbx6).2.1, (box4 hbx6).2.2.1, (box4 hbx6).2.2.2.1⟩ (fun hHeld => ?_)
        clear hK K
        (try simp only [Act.put, List.setIfInBounds_toArray, List.set_cons_zero, List.set_cons_succ])
        refine wpAnyH_take (i := 13) (oi := ⟨some 20, _, _, _, _, _⟩) (v := ?_) rfl (by kernel_rfl) (by kernel_rfl) (by kernel_rfl) (fun _ _ _ h => h) (Or.inl ⟨by rfl, ?_⟩) (by assumption) ?_
        rotate_left
        · (intro w hSw; (try dsimp only at hSw); go_simp; try (with_reducible rfl))
        (try simp only [Act.put, List.setIfInBounds_toArray, List.set_cons_zero, List.set_cons_succ])
        refine wpAnyH_take (i := 14) (oi := ⟨some 21, _, _, _, _, _⟩) (v := ?_) rfl (by kernel_rfl) (by kernel_rfl) (by kernel_rfl) (fun _ _ _ h => h) (Or.inl ⟨by rfl, ?_⟩) (by assumption) ?_
        rotate_left
        · (intro w hSw; (try dsimp only at hSw); go_simp; try (with_reducible rfl))
        (try simp only [Act.put, List.setIfInBounds_toArray, List.set_cons_zero, List.set_cons_succ])
        refine wpAnyH_take (i := 15) (oi := ⟨some 6, _, _, _, _, _⟩) (v := ?_) rfl (by kernel_rfl) (by kernel_rfl) (by kernel_rfl) (fun _ _ _ h => h) (Or.inl ⟨by rfl, ?_⟩) (by assumption) ?_
        rotate_left
        · (intro w hSw; (try dsimp only at hSw); go_simp; try (with_reducible rfl))
        (try simp only [Act.put, List.setIfInBounds_toArray, List.set_cons_zero, List.set_cons_succ])
        refine wpAnyH_done (by kernel_rfl) ?_ _
        go_wp2
        go_ret
        exact ⟨rfl, (keeps_grown (gbelow2 hB0 hg5) (fun k hk => .inl (by injection hk with hk; exact hk.symm))).trans (keeps_grown hg6 (fun k hk => .inl (.inr (by injection hk with hk; exact hk.symm))))⟩
end Go.Proofs.YtgcbanljifalnaaDoor
/- Unification: its state; the next pair, walked. Conditions: the arguments read; the bindings make no circle. -/
namespace Go.Proofs.YtgcbanljifalnaaDoor
open Go.RowKit

/-- A pair of terms. -/
def Kd.pp : Kd (Tm × Tm) := Kd.pair Kd.tm Kd.tm
abbrev Ps := List (Tm × Tm)
theorem pp_at {w : World} {ok : Nat → Prop} {T : Ps} {b o : Nat} (h : Kd.pp.At w ok T b o) {j : Nat} (hj : j < T.length) :
    ∃ u u', w.cell? ⟨b, o + j * 8, none⟩ = some (.int .u8 T[j].1.k) ∧ w.cell? ⟨b, o + j * 8 + 1, none⟩ = some (.string T[j].1.s) ∧ w.cell? ⟨b, o + j * 8 + 2, none⟩ = some (.int .i64 T[j].1.n) ∧ w.cell? ⟨b, o + j * 8 + 3, none⟩ = some u ∧
      w.cell? ⟨b, o + j * 8 + 4, none⟩ = some (.int .u8 T[j].2.k) ∧ w.cell? ⟨b, o + j * 8 + 5, none⟩ = some (.string T[j].2.s) ∧ w.cell? ⟨b, o + j * 8 + 6, none⟩ = some (.int .i64 T[j].2.n) ∧ w.cell? ⟨b, o + j * 8 + 7, none⟩ = some u' ∧
      Kd.tm.S w ok T[j].1.l u ∧ Kd.tm.S w ok T[j].2.l u' := by
  obtain ⟨cs, hk, hc⟩ := h j T[j] (List.getElem?_eq_getElem hj)
  obtain ⟨c1, c2, rfl, h1, h2⟩ := hk
  obtain ⟨u, rfl, hS⟩ := TmK_iff.1 h1
  obtain ⟨u', rfl, hS'⟩ := TmK_iff.1 h2
  have hsz : Kd.pp.sz = 8 := rfl
  rw [hsz] at hc
  exact ⟨u, u', hc 0 _ rfl, hc 1 _ rfl, hc 2 _ rfl, hc 3 _ rfl, hc 4 _ rfl, hc 5 _ rfl, hc 6 _ rfl, hc 7 _ rfl, hS, hS'⟩
theorem Tryd.sizeP (w : World) : (sizeOf (Tryd.prog.elem 150)).run Tryd.prog w = .ok 8 w := by kernel_rfl
/-- The state: the substitution, its visits, the pairs to be unified. -/
structure US (N0 R p b B2 B3 : Nat) (l : Bs) (n : Nat) (T : Ps) (W : World) : Prop where
  sub : Sub W (fun i => i < N0) l p b
  run : RunAt W R p (n : Int)
  r : W.heap[B2]? = some (.cells #[.pointer (some ⟨R, 0, none⟩)] 153 (0, 0))
  ps : ∃ v, W.heap[B3]? = some (.cells #[v] 150 (0, 0)) ∧ Kd.pp.S2 W (fun i => i ≠ R ∧ i ≠ b ∧ i ≠ B3) (fun i => i < N0) T v
  wf : ∀ x ∈ T, x.1.Wf ∧ x.2.Wf
/-- The places are apart. -/
structure UA (N0 R p b B2 B3 : Nat) : Prop where
  a1 : N0 ≤ R
  a2 : N0 ≤ p
  a3 : N0 ≤ b
  a4 : N0 ≤ B2
  a5 : N0 ≤ B3
  a6 : R ≠ p ∧ R ≠ b ∧ R ≠ B2 ∧ R ≠ B3 ∧ p ≠ B3 ∧ b ≠ B3 ∧ B2 ≠ B3 ∧ b ≠ B2
section
variable {N0 R p b B2 B3 n : Nat} {l : Bs} {T : Ps} {W W' : World}
theorem US.lt (h : US N0 R p b B2 B3 l n T W) : R < W.heap.size ∧ B2 < W.heap.size ∧ B3 < W.heap.size := by
  obtain ⟨v, h3, -⟩ := h.ps
  exact ⟨(Array.getElem?_eq_some_iff.1 h.run).1, (Array.getElem?_eq_some_iff.1 h.r).1, (Array.getElem?_eq_some_iff.1 h3).1⟩
theorem US.below (h : US N0 R p b B2 B3 l n T W) (hb : Below W.heap.size W W') : US N0 R p b B2 B3 l n T W' := by
  obtain ⟨v, h3, h4⟩ := h.ps
  exact ⟨h.sub.below hb, block_below hb h.lt.1 h.run, block_below hb h.lt.2.1 h.r, ⟨v, block_below hb h.lt.2.2 h3, h4.below hb⟩, h.wf⟩
end
theorem one_set {w : World} {B : Nat} {v v' : Value} {t : TypeId} (h : w.heap[B]? = some (.cells #[v] t (0, 0))) : (w.setCell ⟨B, 0, none⟩ v').heap[B]? = some (.cells #[v'] t (0, 0)) := by
  simp [World.setCell, Array.getElem?_modify, h]
/-- Without the first pair. -/
theorem pp_tail {w : World} {oks oki : Nat → Prop} {x : Tm × Tm} {T : Ps} {v : Value} (h : Kd.pp.S2 w oks oki (x :: T) v) :
    ∃ A c, (∀ W, (Instr.slice 150 v (some (.int .i64 1)) none none).run Tryd.prog W = .ok (.slice A T.length c) W) ∧ Kd.pp.S2 w oks oki T (.slice A T.length c) := by
  obtain ⟨A, c, rfl, hl, hc, hA⟩ := h
  obtain ⟨b, o, rfl, hb, hat⟩ := hA.resolve_left (by rintro ⟨h, _⟩; cases h)
  have hv : sliced (some ⟨b, o, none⟩) 1 (x :: T).length c 8 = .slice (if c = 1 then some ⟨b, o, none⟩ else some ⟨b, o + 8, none⟩) T.length (c - 1) := by
    unfold sliced
    simp only [Option.map_some, Nat.one_mul, add_off, List.length_cons, Nat.add_sub_cancel]
  refine ⟨if c = 1 then some ⟨b, o, none⟩ else some ⟨b, o + 8, none⟩, c - 1, fun W => ?_, ?_⟩
  · rw [run_slice_l W 150 _ _ _ Tryd.underlying150 .i64 1 (by omega) (by simp; omega), Tryd.sizeP, ← hv]
    rfl
  · refine ⟨_, _, rfl, by simp at hl; omega, by omega, ?_⟩
    by_cases hT : T = []
    · exact .inl ⟨hT, fun e => by split at e <;> cases e⟩
    · have : 0 < T.length := List.length_pos_iff.2 hT
      refine .inr ⟨b, o + 8, by rw [if_neg (by simp at hl; omega)], hb, fun j y hy => ?_⟩
      obtain ⟨cs, hk, hcs⟩ := hat (j + 1) y (by simpa using hy)
      refine ⟨cs, hk, fun i u hu => ?_⟩
      have := hcs i u hu
      rw [show o + (j + 1) * Kd.pp.sz + i = o + 8 + j * Kd.pp.sz + i by simp only [show Kd.pp.sz = 8 from rfl]; omega] at this
      exact this
theorem box8 {w : World} {B : Nat} {t : TypeId} {a b c d a' b' c' d' : Value} (h : w.heap[B]? = some (.cells #[a, b, c, d, a', b', c', d'] t (0, 0))) :
    (w.cell? ⟨B, 0, none⟩ = some a ∧ w.cell? ⟨B, 1, none⟩ = some b ∧ w.cell? ⟨B, 2, none⟩ = some c ∧ w.cell? ⟨B, 3, none⟩ = some d ∧ w.cell? ⟨B, 4, none⟩ = some a' ∧ w.cell? ⟨B, 5, none⟩ = some b' ∧ w.cell? ⟨B, 6, none⟩ = some c' ∧ w.cell? ⟨B, 7, none⟩ = some d') ∧
    (w.frozen? ⟨B, 0, none⟩ = false ∧ w.frozen? ⟨B, 1, none⟩ = false ∧ w.frozen? ⟨B, 2, none⟩ = false ∧ w.frozen? ⟨B, 3, none⟩ = false ∧ w.frozen? ⟨B, 4, none⟩ = false ∧ w.frozen? ⟨B, 5, none⟩ = false ∧ w.frozen? ⟨B, 6, none⟩ = false ∧ w.frozen? ⟨B, 7, none⟩ = false) := by
  simp [World.cell?, World.frozen?, h]
theorem grown_set8 (W : World) (B : Nat) (a b c d a' b' c' d' : Value) : W.grownBy ((((((((W.setCell ⟨B, 0, none⟩ a).setCell ⟨B, 1, none⟩ b).setCell ⟨B, 2, none⟩ c).setCell ⟨B, 3, none⟩ d).setCell ⟨B, 4, none⟩ a').setCell ⟨B, 5, none⟩ b').setCell ⟨B, 6, none⟩ c').setCell ⟨B, 7, none⟩ d') (some B) :=
  (((((((grown_set W B 0 a).trans (grown_set _ B 1 b)).trans (grown_set _ B 2 c)).trans (grown_set _ B 3 d)).trans (grown_set _ B 4 a')).trans (grown_set _ B 5 b')).trans (grown_set _ B 6 c')).trans (grown_set _ B 7 d')
theorem below_gr {N : Nat} {w w' : World} {r : Option Nat} (h : w.grownBy w' r) (hN : N ≤ w.heap.size) (hr : ∀ k, r = some k → N ≤ k) : Below N w w' :=
  ⟨h.os, h.tape, h.output, h.size, fun k hk => h.block k (Nat.lt_of_lt_of_le hk hN) (fun e => by have := hr k e.symm; omega)⟩
theorem US.pop {N0 R p b B2 B3 n : Nat} {l : Bs} {T : Ps} {x : Tm × Tm} {w W : World} {v : Value} (hA : UA N0 R p b B2 B3) (h : US N0 R p b B2 B3 l n (x :: T) w) (hN : N0 ≤ w.heap.size) (hT : Kd.pp.S2 w (fun i => i ≠ R ∧ i ≠ b ∧ i ≠ B3) (fun i => i < N0) T v)
    (hg : w.grownBy W (some B3)) (h3 : W.heap[B3]? = some (.cells #[v] 150 (0, 0))) : US N0 R p b B2 B3 l n T W := by
  have hmv : ∀ k, k < w.heap.size → k ≠ B3 → W.heap[k]? = w.heap[k]? := fun k h1 h2 => hg.block k h1 (fun e => h2 (by injection e))
  have ha := hA.a6
  have hlt := h.lt
  exact ⟨h.sub.grown hg (fun k hk e => by have := hA.a5; injection e; omega) (fun e => by injection e; omega) (fun e => by injection e; omega), (hmv R hlt.1 (by omega)).trans h.run, (hmv B2 hlt.2.1 (by omega)).trans h.r,
      ⟨_, h3, (Kd.S2.move (fun k hk => hmv k hk.2 hk.1.2.2) (fun k hk => hmv k hk.2 (by have := hA.a5; have := hk.1; omega)) (Kd.S2.bound hT)).mono (fun _ h => h.1) (fun _ h => h.1)⟩, fun y hy => h.wf y (by simp [hy])⟩
set_option maxRecDepth 100000 in
set_option maxHeartbeats 4000000 in
theorem next_c (N0 R p b B2 B3 : Nat) (hA : UA N0 R p b B2 B3) (l : Bs) (n : Nat) (x : Tm × Tm) (T : Ps) (w : World) (h : US N0 R p b B2 B3 l n (x :: T) w) (hN : N0 ≤ w.heap.size) :
    Calls Tryd.prog 140 #[.pointer (some ⟨B3, 0, none⟩), .pointer (some ⟨B2, 0, none⟩)] w fun e w' => (∃ A c A' c', e = .returned (.agg #[.int .u8 (wlk l x.1).k, .string (wlk l x.1).s, .int .i64 (wlk l x.1).n, .slice A (wlk l x.1).l.length c, .int .u8 (wlk l x.2).k, .string (wlk l x.2).s, .int .i64 (wlk l x.2).n, .slice A' (wlk l x.2).l.length c']) ∧
      Kd.tm.S w' (fun i => i < N0) (wlk l x.1).l (.slice A (wlk l x.1).l.length c) ∧ Kd.tm.S w' (fun i => i < N0) (wlk l x.2).l (.slice A' (wlk l x.2).l.length c')) ∧ US N0 R p b B2 B3 l n T w' ∧ Below N0 w w' := by
  obtain ⟨v, h3, h4⟩ := h.ps
  obtain ⟨At, ct, hsl, hT⟩ := pp_tail h4
  obtain ⟨A, c, rfl, hl, hc, hAt⟩ := h4
  obtain ⟨bb, o, rfl, hbo, hat⟩ := hAt.resolve_left (by rintro ⟨h, _⟩; cases h)
  obtain ⟨u, u', g0, g1, g2, g3, g4, g5, g6, g7, hu, hu'⟩ := pp_at hat (j := 0) (by simp)
  simp only [List.getElem_cons_zero, Nat.zero_mul, Nat.add_zero] at g0 g1 g2 g3 g4 g5 g6 g7 hu hu'
  obtain ⟨Au, cu, rfl⟩ := hu.form
  obtain ⟨Au', cu', rfl⟩ := hu'.form
  obtain ⟨b30, b3f⟩ := one_cell h3
  have hlt := h.lt
  have hwf := h.wf x (by simp)
  obtain ⟨x1, x2⟩ := x
  simp only at g0 g1 g2 g3 g4 g5 g6 g7 hu hu' hwf ⊢
  simp only [List.length_cons] at b30 hsl h3 hl
  have hbl := cell_lt g0
  obtain ⟨b20, -⟩ := one_cell h.r
  obtain ⟨r0, -, -, -⟩ := box2 h.run
  -- the worlds: two boxes, the pairs' variable set
  obtain ⟨W3, hW3⟩ : ∃ W3, W3 = (((w.setCell ⟨B3, 0, none⟩ (.slice At T.length ct)).alloc (.cells #[.int .u8 0, .string ⟨#[]⟩, .int .i64 0, .slice none 0 0, .int .u8 0, .string ⟨#[]⟩, .int .i64 0, .slice none 0 0] 152)).alloc (.cells #[.int .u8 x1.k, .string x1.s, .int .i64 x1.n, .slice Au x1.l.length cu, .int .u8 x2.k, .string x2.s, .int .i64 x2.n, .slice Au' x2.l.length cu'] 152)) := ⟨_, rfl⟩
  have hgs := grown_set w B3 0 (.slice At T.length ct)
  have hz3 : W3.heap.size = w.heap.size + 2 := by rw [hW3]; simp [World.setCell]
  have hg3 : w.grownBy W3 (some B3) := by rw [hW3]; exact gbelow (gbelow hgs ((Below.refl _ _).alloc (Nat.le_refl _) _)) ((Below.refl _ _).alloc (Nat.le_refl _) _)
  have hB3' : W3.heap[B3]? = some (.cells #[.slice At T.length ct] 150 (0, 0)) := by rw [hW3]; exact (Below.heap_alloc _ _ _ (by simp [World.setCell]; omega)).trans ((Below.heap_alloc _ _ _ (by simp [World.setCell]; omega)).trans (one_set h3))
  have hres : W3.heap[w.heap.size]? = some (.cells #[.int .u8 0, .string ⟨#[]⟩, .int .i64 0, .slice none 0 0, .int .u8 0, .string ⟨#[]⟩, .int .i64 0, .slice none 0 0] 152 (0, 0)) := by rw [hW3]; exact (Below.heap_alloc _ _ _ (by simp [World.setCell])).trans (heap_at _ _ _ (by simp [World.setCell]))
  have hpx : W3.heap[w.heap.size + 1]? = some (.cells #[.int .u8 x1.k, .string x1.s, .int .i64 x1.n, .slice Au x1.l.length cu, .int .u8 x2.k, .string x2.s, .int .i64 x2.n, .slice Au' x2.l.length cu'] 152 (0, 0)) := by rw [hW3]; exact heap_at _ _ _ (by simp [World.setCell])
  have hmv : ∀ k, k < w.heap.size → k ≠ B3 → W3.heap[k]? = w.heap[k]? := fun k h1 h2 => hg3.block k h1 (fun e => h2 (by injection e))
  have ha := hA.a6
  have HPOP := Lib.hid (fun W' (hg : w.grownBy W' (some B3)) h3 => US.pop hA h hN hT hg h3)
  have hUS : US N0 R p b B2 B3 l n T W3 := HPOP.out _ hg3 hB3'
  have hu3 : TmV W3 (fun i => i < N0) x1 (.agg #[.int .u8 x1.k, .string x1.s, .int .i64 x1.n, .slice Au x1.l.length cu]) := ⟨_, rfl, Kd.S.move (fun k hk => hmv k (by omega) (by have := hA.a5; omega)) hu⟩
  have hu3' : TmV W3 (fun i => i < N0) x2 (.agg #[.int .u8 x2.k, .string x2.s, .int .i64 x2.n, .slice Au' x2.l.length cu']) := ⟨_, rfl, Kd.S.move (fun k hk => hmv k (by omega) (by have := hA.a5; omega)) hu'⟩
  have hBN : Below N0 w W3 := below_gr hg3 hN (fun k hk => by injection hk with hk; have := hA.a5; omega)
  have HU := Lib.hid hUS
  have HW1 := Lib.hid (fun W (hW : Below W3.heap.size W3 W) => Walk_c l p b x1 _ W _ (hUS.sub.below hW) (hu3.below hW) hwf.1)
  have HW2 := Lib.hid (fun W (hW : Below W3.heap.size W3 W) => Walk_c l p b x2 _ W _ (hUS.sub.below hW) (hu3'.below hW) hwf.2)
  generalize wlk l x1 = y1 at HW1 ⊢
  generalize wlk l x2 = y2 at HW2 ⊢
  have hb2n : B2 ≠ B3 := by omega
  have hRn : R ≠ B3 := by omega
  have HB := Lib.hid hBN
  have HG3 := Lib.hid hg3
  have HB3 := Lib.hid hB3'
  have HP := Lib.hid hpx
  have HR := Lib.hid hres
  have hb3n : B3 ≠ w.heap.size := by omega
  have HSL := Lib.hid (hsl)
  clear h h3 hat hAt hT hu hu' hwf hgs hg3 hB3' hres hpx hmv hUS hu3 hu3' hBN hsl hbo
  have hsl := HSL.out
  go_enter Tryd.func140, Tryd.ntmps140
  go_wp2
  rw [← hW3]
  clear hW3
  have hp4 := block_below (k := w.heap.size + 1) (Below.refl W3.heap.size W3).drew (by omega) HP.out
  refine wp_region_held_drew (S := (fun W => W.cell? ⟨B2, 0, none⟩ = some (.pointer (some ⟨R, 0, none⟩)) ∧ W.cell? ⟨R, 0, none⟩ = some (.pointer (some ⟨p, 0, none⟩)) ∧ W.cell? ⟨w.heap.size + 1, 0, none⟩ = some (.int .u8 x1.k) ∧ W.cell? ⟨w.heap.size + 1, 1, none⟩ = some (.string x1.s) ∧ W.cell? ⟨w.heap.size + 1, 2, none⟩ = some (.int .i64 x1.n) ∧ W.cell? ⟨w.heap.size + 1, 3, none⟩ = some (.slice Au x1.l.length cu) ∧ W.cell? ⟨w.heap.size + 1, 4, none⟩ = some (.int .u8 x2.k) ∧ W.cell? ⟨w.heap.size + 1, 5, none⟩ = some (.string x2.s) ∧ W.cell? ⟨w.heap.size + 1, 6, none⟩ = some (.int .i64 x2.n) ∧ W.cell? ⟨w.heap.size + 1, 7, none⟩ = some (.slice Au' x2.l.length cu'))) (by kernel_rfl) ?_ (fun hHeld => ?_)
  · exact ⟨(one_cell (HU.out.below (Below.refl _ W3).drew).r).1, (box2 (HU.out.below (Below.refl _ W3).drew).run).1, (box8 hp4).1.1, (box8 hp4).1.2.1, (box8 hp4).1.2.2.1, (box8 hp4).1.2.2.2.1, (box8 hp4).1.2.2.2.2.1, (box8 hp4).1.2.2.2.2.2.1, (box8 hp4).1.2.2.2.2.2.2.1, (box8 hp4).1.2.2.2.2.2.2.2⟩
  change wpAnyH _ .any _ _ _ 16 (Array.replicate 16 false) _ _
  refine wpAnyH_take (i := 0) (oi := ⟨some 9, _, _, _, _, _⟩) (v := ?_) rfl (by kernel_rfl) (by kernel_rfl) (by kernel_rfl) (fun _ _ _ h => h) (Or.inl ⟨by rfl, ?_⟩) (by assumption) ?_
  rotate_left
  · (intro w hSw; (try dsimp only at hSw); go_simp; try (with_reducible rfl))
  (try simp only [Act.put, List.setIfInBounds_toArray, List.set_cons_zero, List.set_cons_succ])
  refine wpAnyH_take (i := 1) (oi := ⟨some 10, _, _, _, _, _⟩) (v := ?_) rfl (by kernel_rfl) (by kernel_rfl) (by kernel_rfl) (fun _ _ _ h => h) (Or.inl ⟨by rfl, ?_⟩) (by assumption) ?_
  rotate_left
  · (intro w hSw; (try dsimp only at hSw); go_simp; try (with_reducible rfl))
  (try simp only [Act.put, List.setIfInBounds_toArray, List.set_cons_zero, List.set_cons_succ])
  refine wpAnyH_take (i := 2) (oi := ⟨some 11, _, _, _, _, _⟩) (v := ?_) rfl (by kernel_rfl) (by kernel_rfl) (by kernel_rfl) (fun _ _ _ h => h) (Or.inl ⟨by rfl, ?_⟩) (by assumption) ?_
  rotate_left
  · (intro w hSw; (try dsimp only at hSw); go_simp; try (with_reducible rfl))
  (try simp only [Act.put, List.setIfInBounds_toArray, List.set_cons_zero, List.set_cons_succ])
  refine wpAnyH_take (i := 3) (oi := ⟨some 12, _, _, _, _, _⟩) (v := ?_) rfl (by kernel_rfl) (by kernel_rfl) (by kernel_rfl) (fun _ _ _ h => h) (Or.inl ⟨by rfl, ?_⟩) (by assumption) ?_
  rotate_left
  · (intro w hSw; (try dsimp only at hSw); go_simp; try (with_reducible rfl))
  (try simp only [Act.put, List.setIfInBounds_toArray, List.set_cons_zero, List.set_cons_succ])
  refine wpAnyH_take (i := 4) (oi := ⟨some 13, _, _, _, _, _⟩) (v := ?_) rfl (by kernel_rfl) (by kernel_rfl) (by kernel_rfl) (fun _ _ _ h => h) (Or.inl ⟨by rfl, ?_⟩) (by assumption) ?_
  rotate_left
  · (intro w hSw; (try dsimp only at hSw); go_simp; try (with_reducible rfl))
  (try simp only [Act.put, List.setIfInBounds_toArray, List.set_cons_zero, List.set_cons_succ])
  refine wpAnyH_take (i := 5) (oi := ⟨some 14, _, _, _, _, _⟩) (v := ?_) rfl (by kernel_rfl) (by kernel_rfl) (by kernel_rfl) (fun _ _ _ h => h) (Or.inl ⟨by rfl, ?_⟩) (by assumption) ?_
  rotate_left
  · (intro w hSw; (try dsimp only at hSw); go_simp; try (with_reducible rfl))
  (try simp only [Act.put, List.setIfInBounds_toArray, List.set_cons_zero, List.set_cons_succ])
  refine wpAnyH_take (i := 7) (oi := ⟨some 16, _, _, _, _, _⟩) (v := ?_) rfl (by kernel_rfl) (by kernel_rfl) (by kernel_rfl) (fun _ _ _ h => h) (Or.inl ⟨by rfl, ?_⟩) (by assumption) ?_
  rotate_left
  · (intro w hSw; (try dsimp only at hSw); go_simp; try (with_reducible rfl))
  (try simp only [Act.put, List.setIfInBounds_toArray, List.set_cons_zero, List.set_cons_succ])
  refine wpAnyH_take (i := 8) (oi := ⟨some 17, _, _, _, _, _⟩) (v := ?_) rfl (by kernel_rfl) (by kernel_rfl) (by kernel_rfl) (fun _ _ _ h => h) (Or.inl ⟨by rfl, ?_⟩) (by assumption) ?_
  rotate_left
  · (intro w hSw; (try dsimp only at hSw); go_simp; try (with_reducible rfl))
  (try simp only [Act.put, List.setIfInBounds_toArray, List.set_cons_zero, List.set_cons_succ])
  refine wpAnyH_take (i := 9) (oi := ⟨some 18, _, _, _, _, _⟩) (v := ?_) rfl (by kernel_rfl) (by kernel_rfl) (by kernel_rfl) (fun _ _ _ h => h) (Or.inl ⟨by rfl, ?_⟩) (by assumption) ?_
  rotate_left
  · (intro w hSw; (try dsimp only at hSw); go_simp; try (with_reducible rfl))
  (try simp only [Act.put, List.setIfInBounds_toArray, List.set_cons_zero, List.set_cons_succ])
  refine wpAnyH_take (i := 10) (oi := ⟨some 19, _, _, _, _, _⟩) (v := ?_) rfl (by kernel_rfl) (by kernel_rfl) (by kernel_rfl) (fun _ _ _ h => h) (Or.inl ⟨by rfl, ?_⟩) (by assumption) ?_
  rotate_left
  · (intro w hSw; (try dsimp only at hSw); go_simp; try (with_reducible rfl))
  (try simp only [Act.put, List.setIfInBounds_toArray, List.set_cons_zero, List.set_cons_succ])
  refine wpAnyH_take (i := 11) (oi := ⟨some 20, _, _, _, _, _⟩) (v := ?_) rfl (by kernel_rfl) (by kernel_rfl) (by kernel_rfl) (fun _ _ _ h => h) (Or.inl ⟨by rfl, ?_⟩) (by assumption) ?_
  rotate_left
  · (intro w hSw; (try dsimp only at hSw); go_simp; try (with_reducible rfl))
  (try simp only [Act.put, List.setIfInBounds_toArray, List.set_cons_zero, List.set_cons_succ])
  refine wpAnyH_take (i := 12) (oi := ⟨some 21, _, _, _, _, _⟩) (v := ?_) rfl (by kernel_rfl) (by kernel_rfl) (by kernel_rfl) (fun _ _ _ h => h) (Or.inl ⟨by rfl, ?_⟩) (by assumption) ?_
  rotate_left
  · (intro w hSw; (try dsimp only at hSw); go_simp; try (with_reducible rfl))
  (try simp only [Act.put, List.setIfInBounds_toArray, List.set_cons_zero, List.set_cons_succ])
  refine wpAnyH_ready (rs := [6]) (by kernel_rfl) (by simp) ?_
  refine AllReadyH.cons (o := ⟨some 15, _, _, _, _, _⟩) rfl (fun K hK => ?_) AllReadyH.nil
  go_simp
  go_at_call 23
  refine (HW1.out _ (Below.refl _ W3).drew).mono ?_
  clear HW1
  rintro e W5 ⟨⟨u5, rfl, uu5, rfl, hy1⟩, hb5⟩
  obtain ⟨A1, c1, rfl⟩ := hy1.form
  replace hb5 : Below W3.heap.size W3 W5 := below_then (Below.refl _ W3).drew (Nat.le_refl _) hb5
  have hu5 := HU.out.below hb5
  have hp5 := block_below hb5 (by omega) HP.out
  go_wp2_with fail
  refine hK.out _ _ ⟨(one_cell hu5.r).1, (box2 hu5.run).1, (box8 hp5).1.1, (box8 hp5).1.2.1, (box8 hp5).1.2.2.1, (box8 hp5).1.2.2.2.1, (box8 hp5).1.2.2.2.2.1, (box8 hp5).1.2.2.2.2.2.1, (box8 hp5).1.2.2.2.2.2.2.1, (box8 hp5).1.2.2.2.2.2.2.2⟩ (fun hHeld => ?_)
  clear hK K
  (try simp only [Act.put, List.setIfInBounds_toArray, List.set_cons_zero, List.set_cons_succ])
  refine wpAnyH_ready (rs := [13]) (by kernel_rfl) (by simp) ?_
  refine AllReadyH.cons (o := ⟨some 22, _, _, _, _, _⟩) rfl (fun K hK => ?_) AllReadyH.nil
  go_simp
  go_at_call 23
  refine (HW2.out _ hb5).mono ?_
  clear HW2
  rintro e W6 ⟨⟨u6, rfl, uu6, rfl, hy2⟩, hb6⟩
  obtain ⟨A2, c2, rfl⟩ := hy2.form
  have hb7 : Below W3.heap.size W3 W6 := below_then hb5 hb5.size hb6
  have hu6 := hu5.below hb6
  have hp6 := block_below hb7 (by omega) HP.out
  have hr6 := block_below hb7 (by omega) HR.out
  obtain ⟨⟨q0, q1, q2, q3, q4, q5, q6, q7⟩, ⟨t0, t1, t2, t3, t4, t5, t6, t7⟩⟩ := box8 hr6
  replace hy1 := hy1.below hb6
  go_wp2_with fail
  refine hK.out _ _ ⟨(one_cell hu6.r).1, (box2 hu6.run).1, (box8 hp6).1.1, (box8 hp6).1.2.1, (box8 hp6).1.2.2.1, (box8 hp6).1.2.2.2.1, (box8 hp6).1.2.2.2.2.1, (box8 hp6).1.2.2.2.2.2.1, (box8 hp6).1.2.2.2.2.2.2.1, (box8 hp6).1.2.2.2.2.2.2.2⟩ (fun hHeld => ?_)
  clear hK K
  (try simp only [Act.put, List.setIfInBounds_toArray, List.set_cons_zero, List.set_cons_succ])
  refine wpAnyH_take (i := 14) (oi := ⟨some 23, _, _, _, _, _⟩) (v := ?_) rfl (by kernel_rfl) (by kernel_rfl) (by kernel_rfl) (fun _ _ _ h => h) (Or.inl ⟨by rfl, ?_⟩) (by assumption) ?_
  rotate_left
  · (intro w hSw; (try dsimp only at hSw); go_simp; try (with_reducible rfl))
  (try simp only [Act.put, List.setIfInBounds_toArray, List.set_cons_zero, List.set_cons_succ])
  have hg8 := (grown_set8 W6 w.heap.size (.int .u8 y1.k) (.string y1.s) (.int .i64 y1.n) (.slice A1 y1.l.length c1) (.int .u8 y2.k) (.string y2.s) (.int .i64 y2.n) (.slice A2 y2.l.length c2))
  have hz7 := hb7.size
  have hu8 := (hg8.block B2 (by have := hu6.lt; omega) (fun e => by injection e; omega)).trans hu6.r
  have hn8 := (hg8.block R (by have := hu6.lt; omega) (fun e => by injection e; omega)).trans hu6.run
  have hp8 := (hg8.block (w.heap.size + 1) (by omega) (fun e => by injection e; omega)).trans hp6
  refine wpAnyH_ready (rs := [15]) (by kernel_rfl) (by simp) ?_
  refine AllReadyH.cons (o := ⟨none, _, _, _, _, _⟩) rfl (fun K hK => ?_) AllReadyH.nil
  go_simp
  refine hK.out _ _ ⟨(one_cell hu8).1, (box2 hn8).1, (box8 hp8).1.1, (box8 hp8).1.2.1, (box8 hp8).1.2.2.1, (box8 hp8).1.2.2.2.1, (box8 hp8).1.2.2.2.2.1, (box8 hp8).1.2.2.2.2.2.1, (box8 hp8).1.2.2.2.2.2.2.1, (box8 hp8).1.2.2.2.2.2.2.2⟩ (fun hHeld => ?_)
  clear hK K
  (try simp only [Act.put, List.setIfInBounds_toArray, List.set_cons_zero, List.set_cons_succ])
  refine wpAnyH_done (by kernel_rfl) ?_ _
  go_wp2
  refine bodyPost_ret (v := .agg #[.int .u8 y1.k, .string y1.s, .int .i64 y1.n, .slice A1 y1.l.length c1, .int .u8 y2.k, .string y2.s, .int .i64 y2.n, .slice A2 y2.l.length c2]) (by simp [results, Tryd.results140, go_sem, q0, q1, q2, q3, q4, q5, q6, q7]) rfl ?_
  have hS8 : ∀ {y : Tm} {v : Value}, Kd.tm.S W6 (fun i => i < N0) y.l v → Kd.tm.S (((((((((W6.setCell ⟨w.heap.size, 0, none⟩ (.int .u8 y1.k)).setCell ⟨w.heap.size, 1, none⟩ (.string y1.s)).setCell ⟨w.heap.size, 2, none⟩ (.int .i64 y1.n)).setCell ⟨w.heap.size, 3, none⟩ (.slice A1 y1.l.length c1)).setCell ⟨w.heap.size, 4, none⟩ (.int .u8 y2.k)).setCell ⟨w.heap.size, 5, none⟩ (.string y2.s)).setCell ⟨w.heap.size, 6, none⟩ (.int .i64 y2.n)).setCell ⟨w.heap.size, 7, none⟩ (.slice A2 y2.l.length c2))) (fun i => i < N0) y.l v := fun hS => Kd.S.move (fun i hi => hg8.block i (by omega) (fun e => by injection e; omega)) hS
  refine ⟨⟨A1, c1, A2, c2, rfl, hS8 hy1, hS8 hy2⟩, ?_, (HB.out.trans (hb7.mono (by omega))).trans (below_gr hg8 (by omega) (fun k hk => by injection hk; omega))⟩
  have ha := hA.a6
  refine HPOP.out _ (gfresh (gbelow HG3.out hb7) hg8 (Nat.le_refl _)) ((hg8.block B3 (by have := hu6.lt; omega) (fun e => by injection e; omega)).trans (block_below hb7 (by have := HU.out.lt; omega) HB3.out))
end Go.Proofs.YtgcbanljifalnaaDoor

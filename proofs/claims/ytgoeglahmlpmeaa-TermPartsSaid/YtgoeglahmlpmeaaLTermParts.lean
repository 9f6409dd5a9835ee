/- The law TermParts, walked. Conditions: the arguments read; what they are made of is in its bounds. -/
import Derived.Test.YtgoeglahmlpmeaaL1
import Derived.Test.YtgoeglahmlpmeaaKl
set_option linter.unusedVariables false
set_option linter.unusedSimpArgs false
namespace Go.Proofs.Ytgoeglahmlpmeaa
open Go.RowKit
attribute [local go_sem ↓] Go.wp_at_zero Go.wp_at_succ

/-- All are good; all are ground; two lists are alike so far. -/
def goodL (l : List Tm) : Bool := l.all fun t => t.good
def groundL (l : List Tm) : Bool := l.all fun t => decide (t.occ = [])
theorem goodL_snoc (l : List Tm) (t : Tm) : goodL (l ++ [t]) = (goodL l && t.good) := by simp [goodL]
theorem groundL_snoc (l : List Tm) (t : Tm) : groundL (l ++ [t]) = (groundL l && decide (t.occ = [])) := by simp [groundL]
theorem groundL_iff : ∀ l : List Tm, groundL l = decide (occL l = [])
  | [] => by simp [groundL, occL]
  | t :: ts => by
    have := groundL_iff ts
    simp only [groundL, List.all_cons, occL, List.append_eq_nil_iff] at this ⊢
    rw [this]
    by_cases h1 : t.occ = [] <;> by_cases h2 : occL ts = [] <;> simp [h1, h2]
theorem struct_good (s : ByteArray) (l : List Tm) (h : l ≠ []) :
    Tm.good ⟨4, s, 0, l⟩ = (((decide ((l.length : Int) ≤ 16) && nameOk s) && goodL l) && decide ((1 + depL l : Nat) ≤ 64)) := by
  have hp : 0 < l.length := List.length_pos_iff.2 h
  have e1 : decide (0 < l.length ∧ l.length ≤ 16) = decide ((l.length : Int) ≤ 16) := by rw [decide_eq_decide]; omega
  have e2 : decide ((1 + depL l : Nat) ≤ 64) = decide (depL l + 1 ≤ 64) := by rw [decide_eq_decide]; omega
  simp only [Tm.good, Tm.dep, Tm.shp]
  rw [if_neg (by decide), if_neg (by decide), if_neg (by decide), e1, e2]
  by_cases hd : depL l + 1 ≤ 64
  · have hg : goodL l = shpL l := by
      rw [Bool.eq_iff_iff, shpL_iff]
      simp only [goodL, List.all_eq_true, Tm.good, Bool.and_eq_true, decide_eq_true_eq]
      exact ⟨fun h' t ht => (h' t ht).2, fun h' t ht => ⟨by have := dep_mem ht; omega, h' t ht⟩⟩
    rw [hg]
    cases decide ((l.length : Int) ≤ 16) <;> cases nameOk s <;> cases shpL l <;> simp [hd]
  · simp [hd]
theorem name_good (s : ByteArray) : Tm.good ⟨3, s, 0, []⟩ = nameOk s := by
  simp [Tm.good, Tm.shp, Tm.dep, depL]

mutual
theorem dep_le_siz : ∀ t : Tm, t.dep ≤ t.siz
  | ⟨_, _, _, l⟩ => by have := depL_le_sizL l; simp only [Tm.dep, Tm.siz]; omega
theorem depL_le_sizL : ∀ l : List Tm, depL l ≤ sizL l
  | [] => by simp [depL, sizL]
  | t :: ts => by have := dep_le_siz t; have := depL_le_sizL ts; simp only [depL, sizL]; omega
end
theorem Bx.base {w w4 W : World} {ok : Nat → Prop} {B : Nat} {t : Tm} {u : Value} (h : Bx w4 ok B t u W) (hb : Below w.heap.size w w4) : Bx w ok B t u W := ⟨below_then hb hb.size h.below, h.box, h.args⟩
/-- The state of the law: both structures in boxes, both lists as they came. -/
structure PS (w : World) (ok : Nat → Prop) (B : Nat) (s : ByteArray) (l m : List Tm) (u u' v v' : Value) (W : World) : Prop where
  t : Bx w (fun _ => True) B ⟨4, s, 0, l⟩ u W
  o : Bx w (fun _ => True) (B + 1) ⟨4, s, 0, m⟩ u' W
  l : Kd.tm.S W ok l v
  m : Kd.tm.S W ok m v'
theorem PS.then {w : World} {ok : Nat → Prop} {B : Nat} {s : ByteArray} {l m : List Tm} {u u' v v' : Value} {W W' : World} (h : PS w ok B s l m u u' v v' W) (hb : Below W.heap.size W W') : PS w ok B s l m u u' v v' W' :=
  ⟨h.t.then hb, h.o.then hb, h.l.below hb, h.m.below hb⟩

set_option maxRecDepth 100000 in
set_option maxHeartbeats 16000000 in
theorem TermParts_c (s : ByteArray) (l m : List Tm) (v v' : Value) (w : World) (ok : Nat → Prop) (hv : Kd.tm.S w ok l v) (hv' : Kd.tm.S w ok m v') (hwl : WfL l) (hwm : WfL m) (hs : s.size ≤ 140737488351232) :
    Calls Try.prog 6 #[.string s, v, v'] w fun e w' => e = .returned (.bool true) ∧ Below w.heap.size w w' := by
  have HL := Lib.hid (fun W (hW : Below w.heap.size w W) => Great_c l v W ok (hv.below hW) hwl)
  have HM := Lib.hid (fun W (hW : Below w.heap.size w W) => Great_c m v' W ok (hv'.below hW) hwm)
  have HV := Lib.hid hv
  have HV' := Lib.hid hv'
  obtain ⟨A, c, rfl, hl, hc, hA⟩ := hv
  obtain ⟨A', c', rfl, hl', hc', hA'⟩ := hv'
  unfold maxLen at hc hc'
  have hb := Below.refl w.heap.size w
  cases hgl : great l with
  | true =>
    rw [hgl] at HL
    clear hA hA' HM HV HV'
    go_enter Try.func6, Try.ntmps6
    go_wp2_with (first
      | (go_at_call 13; refine (HL.out _ hb).mono ?_; clear HL; rintro e w1 ⟨rfl, hb1⟩; replace hb := below_then hb hb.size hb1)
      | (go_at_call 14; refine (wakes_c _).mono ?_; rintro e w2 ⟨rfl, hb2⟩; replace hb := below_then hb hb.size hb2))
    go_ret
    exact ⟨rfl, hb⟩
  | false =>
    rw [hgl] at HL
    cases hgm : great m with
    | true =>
      rw [hgm] at HM
      clear hA hA' HV HV'
      go_enter Try.func6, Try.ntmps6
      go_wp2_with (first
        | (go_at_call_has 13 (Value.slice A l.length c); refine (HL.out _ hb).mono ?_; clear HL; rintro e w1 ⟨rfl, hb1⟩; replace hb := below_then hb hb.size hb1)
        | (go_at_call 13; refine (HM.out _ hb).mono ?_; clear HM; rintro e w1 ⟨rfl, hb1⟩; replace hb := below_then hb hb.size hb1)
        | (go_at_call 14; refine (wakes_c _).mono ?_; rintro e w2 ⟨rfl, hb2⟩; replace hb := below_then hb hb.size hb2))
      go_ret
      exact ⟨rfl, hb⟩
    | false =>
      rw [hgm] at HM
      have hzl := great_siz hgl
      have hzm := great_siz hgm
      have hll := length_le_sizL l
      have hlm := length_le_sizL m
      clear hgl hgm
      by_cases h0 : l = []
      · subst h0
        clear hA hA' HV HV'
        go_enter Try.func6, Try.ntmps6
        go_wp2_with (first
          | (go_at_call 13; refine (HL.out _ hb).mono ?_; clear HL; rintro e w1 ⟨rfl, hb1⟩; replace hb := below_then hb hb.size hb1)
          | (go_at_call 13; refine (HM.out _ hb).mono ?_; clear HM; rintro e w1 ⟨rfl, hb1⟩; replace hb := below_then hb hb.size hb1)
          | (go_at_call 14; refine (wakes_c _).mono ?_; rintro e w2 ⟨rfl, hb2⟩; replace hb := below_then hb hb.size hb2))
        go_ret
        exact ⟨rfl, hb⟩
      · have hl0 : ((l.length : Int) == 0) = false := by
          rw [beq_eq_false_iff_ne]; intro h; exact h0 (List.eq_nil_of_length_eq_zero (by omega))
        by_cases hm0 : m = []
        · subst hm0
          clear hA hA' HV HV' h0
          go_enter Try.func6, Try.ntmps6
          go_wp2_with (first
            | (go_at_call_has 13 (Value.slice A l.length c); refine (HL.out _ hb).mono ?_; clear HL; rintro e w1 ⟨rfl, hb1⟩; replace hb := below_then hb hb.size hb1)
            | (go_at_call 13; refine (HM.out _ hb).mono ?_; clear HM; rintro e w1 ⟨rfl, hb1⟩; replace hb := below_then hb hb.size hb1)
            | (go_at_call 14; refine (wakes_c _).mono ?_; rintro e w2 ⟨rfl, hb2⟩; replace hb := below_then hb hb.size hb2))
          go_ret
          exact ⟨rfl, hb⟩
        · have hm0' : ((m.length : Int) == 0) = false := by
            rw [beq_eq_false_iff_ne]; intro h; exact hm0 (List.eq_nil_of_length_eq_zero (by omega))
          have hk1 : Hid (mkF s l = ⟨4, s, 0, l⟩) := Lib.hid (by unfold mkF; rw [if_neg h0])
          have hk2 : Hid (mkF s m = ⟨4, s, 0, m⟩) := Lib.hid (by unfold mkF; rw [if_neg hm0])
          have HF1 := Lib.hid (fun W (hW : Below w.heap.size w W) => F_c s l _ W _ _ (HV.out.below hW).S2 (by omega))
          have HF2 := Lib.hid (fun W (hW : Below w.heap.size w W) => F_c s m _ W _ _ (HV'.out.below hW).S2 (by omega))
          clear hA hA'
          have hsw : Tm.Wf ⟨3, s, 0, []⟩ := by simp [Tm.Wf, WfL]; omega
          have HX1 := Lib.hid (struct_good s l h0)
          have hs0 := hs
          clear hs hk1 hk2
          have hk1 : Hid (mkF s l = ⟨4, s, 0, l⟩) := Lib.hid (by unfold mkF; rw [if_neg h0])
          have hk2 : Hid (mkF s m = ⟨4, s, 0, m⟩) := Lib.hid (by unfold mkF; rw [if_neg hm0])
          have HWL := Lib.hid hwl
          have HW4 : Hid (Tm.Wf ⟨4, s, 0, l⟩) := Lib.hid (by simp [Tm.Wf, hwl]; exact hs0)
          obtain ⟨Gn, hGn⟩ : ∃ Gn, nameOk s = Gn := ⟨_, rfl⟩
          clear h0 hm0 hwl hwm hs0
          by_cases h16 : (l.length : Int) ≤ 16
          · have HGG0 : Hid ((decide ((l.length : Int) ≤ 16) && nameOk s) = Gn) := Lib.hid (by rw [hGn]; simp [h16])
            go_enter Try.func6, Try.ntmps6
            go_wp2_with (first
              | (go_at_call_has 13 (Value.slice A l.length c); refine (HL.out _ hb).mono ?_; clear HL; rintro e w1 ⟨rfl, hb1⟩; replace hb := below_then hb hb.size hb1)
              | (go_at_call 13; refine (HM.out _ hb).mono ?_; clear HM; rintro e w1 ⟨rfl, hb1⟩; replace hb := below_then hb hb.size hb1)
              | (go_at_call_has 15 (Value.slice A l.length c); refine (HF1.out _ hb).mono ?_; clear HF1; rw [hk1.out]; rintro e w3 ⟨⟨r, rfl, ru, rfl, hrS⟩, hb3⟩; obtain ⟨rA, rc, rfl⟩ := hrS.form; replace hrS := Kd.S.mono (ok' := fun _ => True) (fun _ _ => trivial) hrS; replace hb := below_then hb hb.size hb3)
              | (go_at_call 15; refine (HF2.out _ hb).mono ?_; clear HF2; rw [hk2.out]; rintro e w4 ⟨⟨q, rfl, qu, rfl, hqS⟩, hb4⟩; obtain ⟨qA, qc, rfl⟩ := hqS.form; replace hqS := Kd.S.mono (ok' := fun _ => True) (fun _ _ => trivial) hqS; replace hb := below_then hb hb.size hb4; replace hrS := hrS.below hb4; have hst := (((Below.refl _ w4).alloc (Nat.le_refl _) (.cells #[.int .u8 4, .string s, .int .i64 0, .slice rA l.length rc] 26)).alloc (by simp) (.cells #[.int .u8 4, .string s, .int .i64 0, .slice qA m.length qc] 26)); have hP : PS w ok w4.heap.size s l m (.slice rA l.length rc) (.slice qA m.length qc) (.slice A l.length c) (.slice A' m.length c') ((w4.alloc (.cells #[.int .u8 4, .string s, .int .i64 0, .slice rA l.length rc] 26)).alloc (.cells #[.int .u8 4, .string s, .int .i64 0, .slice qA m.length qc] 26)) := ⟨(Bx.two (w := w4) (ok := fun _ => True) (a := ⟨4, s, 0, l⟩) (b := ⟨4, s, 0, m⟩) hrS hqS).1.base hb, (Bx.two (w := w4) (ok := fun _ => True) (a := ⟨4, s, 0, l⟩) (b := ⟨4, s, 0, m⟩) hrS hqS).2.base hb, (HV.out.below hb).below hst, (HV'.out.below hb).below hst⟩; clear hst hrS hqS)
              | (go_at_call 19; refine (A_c s _ (fun _ => False)).mono ?_; rintro e w5 ⟨rfl, hb5⟩; replace hP := hP.then hb5; clear hb5)
              | (go_at_call 24; have hq := fun W => Good_c ⟨3, s, 0, []⟩ _ W (fun _ => False) ⟨_, rfl, Kd.S.nil _ _ _⟩ hsw; rw [name_good, hGn] at hq; refine (hq _).mono ?_; clear hq; rintro e w5 ⟨rfl, hb5⟩; replace hP := hP.then hb5; clear hb5))
            clear hGn h16
            clear hb HV HV' hk1 hk2 hl0 hm0' hsw
            go_loopw [9, 10, 11, 12, 13, 14] (fun z d g q e i W => ∃ j : Nat, j ≤ l.length ∧ i = .int .i64 j ∧ z = .int .i64 (1 + (sizL (l.take j) : Int)) ∧ d = .int .i64 (1 + (depL (l.take j) : Int)) ∧ g = .bool (Gn && goodL (l.take j)) ∧ q = .bool (groundL (l.take j)) ∧ e = .bool (((l.length : Int) == m.length) && eqbL (l.take j) (m.take j)) ∧ PS w ok w4.heap.size s l m (.slice rA l.length rc) (.slice qA m.length qc) (.slice A l.length c) (.slice A' m.length c') W) (fun _ _ _ _ _ i _ => l.length - (intOf i).toNat)
            case atStart => exact ⟨0, Nat.zero_le _, rfl, by simp [sizL], by simp [depL], by simp [goodL], by simp [groundL], by simp [eqbL], hP⟩
            case round =>
              clear hP
              obtain ⟨j, hj, rfl, rfl, rfl, rfl, rfl, rfl, hP⟩ := hrel
              by_cases hlt : j < l.length
              · obtain ⟨_, _, ea, hal, hac, hAa⟩ := hP.l
                injection ea with e1 e2 e3
                subst e1 e3
                clear e2
                unfold maxLen at hac
                obtain ⟨ba, oa, ua, rfl, -, hloa, k0, k1, k2, k3, k4⟩ := tm_elem hAa hlt
                obtain ⟨uA, uc, rfl⟩ := k4.form
                have hsj := siz_mem (List.getElem_mem hlt)
                have hdj := dep_mem (List.getElem_mem hlt)
                have hwj := WfL_at HWL.out hlt
                have h1 : Hid (sizL (l.take (j + 1)) = sizL (l.take j) + (l[j]).siz) := Lib.hid (by rw [take_succ_at l hlt, sizL_append]; simp [sizL])
                have h2 : Hid (depL (l.take (j + 1)) = max (depL (l.take j)) (l[j]).dep) := Lib.hid (by rw [take_succ_at l hlt, depL_append]; simp [depL])
                have h3 : Hid (goodL (l.take (j + 1)) = (goodL (l.take j) && (l[j]).good)) := Lib.hid (by rw [take_succ_at l hlt, goodL_snoc])
                have h4 : Hid (groundL (l.take (j + 1)) = (groundL (l.take j) && decide ((l[j]).occ = []))) := Lib.hid (by rw [take_succ_at l hlt, groundL_snoc])
                have h5 : Hid (∀ (h : j < m.length), eqbL (l.take (j + 1)) (m.take (j + 1)) = (eqbL (l.take j) (m.take j) && (l[j]).eqb m[j])) := Lib.hid (fun h => by rw [take_succ_at l hlt, take_succ_at m h, eqbL_snoc (by rw [List.length_take, List.length_take]; omega)])
                have hsl : sizL (l.take (j + 1)) ≤ sizL l := by have := sizL_append (l.take (j + 1)) (l.drop (j + 1)); rw [List.take_append_drop] at this; omega
                have hdl : depL (l.take j) ≤ sizL l := by have h6 := depL_le_sizL (l.take j); have := sizL_append (l.take j) (l.drop j); rw [List.take_append_drop] at this; omega
                have hdt : (l[j]).dep ≤ sizL l := by have := dep_le_siz l[j]; omega
                clear hAa
                generalize ht : l[j] = t at k0 k1 k2 k3 k4 hsj hdj hwj h1 h2 h3 h4 h5 hdt
                have hz0 : Hid (sizL (l.take (j + 1)) = sizL (l.take j) + t.siz) := h1
                have hzz := h1.out
                have hwz : IntKind.i64.wrap (1 + (sizL (l.take j) : Int) + (t.siz : Int)) = 1 + (sizL (l.take j) : Int) + (t.siz : Int) := by rw [IntKind.wrap_i64]; omega
                have hwd : IntKind.i64.wrap (1 + (t.dep : Int)) = 1 + (t.dep : Int) := by rw [IntKind.wrap_i64]; omega
                have hzt : t.siz ≤ 1000000 := by omega
                generalize hGG : (Gn && goodL (l.take j)) = g at h3 ⊢
                generalize hQQ : groundL (l.take j) = q at h4 ⊢
                have HGG := Lib.hid hGG
                have HTT := Lib.hid ht
                clear hGG hQQ ht hzz hsj hdj hdl hdt hsl
                generalize hEE : (((l.length : Int) == m.length) && eqbL (l.take j) (m.take j)) = e
                have HEE := Lib.hid hEE
                clear hEE
                cases e with
                | false =>
                  have HNE : Hid ((((l.length : Int) == m.length) && eqbL (l.take (j + 1)) (m.take (j + 1))) = false) := Lib.hid (by
                    have h6 := HEE.out
                    by_cases hlm : (l.length : Int) = m.length
                    · rw [h5.out (by omega)]
                      have : ((l.length : Int) == m.length) = true := by simpa using hlm
                      rw [this, Bool.true_and] at h6 ⊢
                      rw [h6, Bool.false_and]
                    · have : ((l.length : Int) == m.length) = false := by simpa using hlm
                      rw [this, Bool.false_and])
                  clear h5 HEE
                  cases g <;> cases q
                  all_goals
                    go_wp2_with (first
                      | (go_at_call 26; refine (termSize_c t _ _ _ ⟨_, rfl, k4⟩ hzt).mono ?_; rintro e u1 ⟨rfl, hu⟩; replace hP := hP.then hu; replace k4 := k4.below hu; replace k0 := held_cell hu k0; replace k1 := held_cell hu k1; replace k2 := held_cell hu k2; replace k3 := held_cell hu k3; clear hu)
                      | (go_at_call 28; refine (termDepth_c t _ _ _ ⟨_, rfl, k4⟩ hzt).mono ?_; rintro e u1 ⟨rfl, hu⟩; replace hP := hP.then hu; replace k4 := k4.below hu; replace k0 := held_cell hu k0; replace k1 := held_cell hu k1; replace k2 := held_cell hu k2; replace k3 := held_cell hu k3; clear hu)
                      | (go_at_call 24; refine (Good_c t _ _ _ ⟨_, rfl, k4⟩ hwj).mono ?_; rintro e u1 ⟨rfl, hu⟩; replace hP := hP.then hu; replace k4 := k4.below hu; replace k0 := held_cell hu k0; replace k1 := held_cell hu k1; replace k2 := held_cell hu k2; replace k3 := held_cell hu k3; clear hu)
                      | (go_at_call 23; refine (Ground_c t _ _ _ ⟨_, rfl, k4⟩ hzt).mono ?_; rintro e u1 ⟨rfl, hu⟩; replace hP := hP.then hu; replace k4 := k4.below hu; replace k0 := held_cell hu k0; replace k1 := held_cell hu k1; replace k2 := held_cell hu k2; replace k3 := held_cell hu k3; clear hu))
                    all_goals
                      refine wp_region_held_drew (S := (fun W => PS w ok w4.heap.size s l m (.slice rA l.length rc) (.slice qA m.length qc) (.slice (some ⟨ba, oa, none⟩) l.length c) (.slice A' m.length c') W)) (by kernel_rfl) ?_ (fun hHeld => ?_)
                      · exact hP.then (Below.refl _ _).drew
                      change wpAnyH _ .any _ _ _ 19 (Array.replicate 19 false) _ _
                      refine wpAnyH_take (i := 0) (oi := ⟨some 88, _, _, _, _, _⟩) (v := ?_) rfl (by kernel_rfl) (by kernel_rfl) (by kernel_rfl) (fun _ _ _ h => h) (Or.inl ⟨by rfl, ?_⟩) (by assumption) ?_
                      rotate_left
                      · (intro w hSw; (try dsimp only at hSw); go_simp; try (with_reducible rfl))
                      (try simp only [Act.put, List.setIfInBounds_toArray, List.set_cons_zero, List.set_cons_succ])
                      refine wpAnyH_take (i := 1) (oi := ⟨some 89, _, _, _, _, _⟩) (v := ?_) rfl (by kernel_rfl) (by kernel_rfl) (by kernel_rfl) (fun _ _ _ h => h) (Or.inl ⟨by rfl, ?_⟩) (by assumption) ?_
                      rotate_left
                      · (intro w hSw; (try dsimp only at hSw); go_simp; try (with_reducible rfl))
                      (try simp only [Act.put, List.setIfInBounds_toArray, List.set_cons_zero, List.set_cons_succ])
                      refine wpAnyH_take (i := 2) (oi := ⟨some 90, _, _, _, _, _⟩) rfl (by kernel_rfl) (by kernel_rfl) (by kernel_rfl) (fun _ _ _ h => h) (Or.inr ⟨by rfl, rfl⟩) (by assumption) ?_
                      (try simp only [Act.put, List.setIfInBounds_toArray, List.set_cons_zero, List.set_cons_succ])
                      refine wpAnyH_take (i := 3) (oi := ⟨some 91, _, _, _, _, _⟩) rfl (by kernel_rfl) (by kernel_rfl) (by kernel_rfl) (fun _ _ _ h => h) (Or.inr ⟨by rfl, rfl⟩) (by assumption) ?_
                      (try simp only [Act.put, List.setIfInBounds_toArray, List.set_cons_zero, List.set_cons_succ])
                      refine wpAnyH_take (i := 4) (oi := ⟨some 92, _, _, _, _, _⟩) rfl (by kernel_rfl) (by kernel_rfl) (by kernel_rfl) (fun _ _ _ h => h) (Or.inr ⟨by rfl, rfl⟩) (by assumption) ?_
                      (try simp only [Act.put, List.setIfInBounds_toArray, List.set_cons_zero, List.set_cons_succ])
                      refine wpAnyH_take (i := 5) (oi := ⟨some 93, _, _, _, _, _⟩) rfl (by kernel_rfl) (by kernel_rfl) (by kernel_rfl) (fun _ _ _ h => h) (Or.inr ⟨by rfl, rfl⟩) (by assumption) ?_
                      (try simp only [Act.put, List.setIfInBounds_toArray, List.set_cons_zero, List.set_cons_succ])
                      refine wpAnyH_take (i := 6) (oi := ⟨some 94, _, _, _, _, _⟩) (v := ?_) rfl (by kernel_rfl) (by kernel_rfl) (by kernel_rfl) (fun _ _ _ h => h) (Or.inl ⟨by rfl, ?_⟩) (by assumption) ?_
                      rotate_left
                      · (intro w hSw; (try dsimp only at hSw); go_simp; try (with_reducible rfl))
                      (try simp only [Act.put, List.setIfInBounds_toArray, List.set_cons_zero, List.set_cons_succ])
                      refine wpAnyH_take (i := 7) (oi := ⟨some 95, _, _, _, _, _⟩) (v := ?_) rfl (by kernel_rfl) (by kernel_rfl) (by kernel_rfl) (fun _ _ _ h => h) (Or.inl ⟨by rfl, ?_⟩) (by assumption) ?_
                      rotate_left
                      · (intro w hSw; (try dsimp only at hSw); go_simp; try (with_reducible rfl))
                      (try simp only [Act.put, List.setIfInBounds_toArray, List.set_cons_zero, List.set_cons_succ])
                      refine wpAnyH_take (i := 8) (oi := ⟨some 96, _, _, _, _, _⟩) rfl (by kernel_rfl) (by kernel_rfl) (by kernel_rfl) (fun _ _ _ h => h) (Or.inr ⟨by rfl, rfl⟩) (by assumption) ?_
                      (try simp only [Act.put, List.setIfInBounds_toArray, List.set_cons_zero, List.set_cons_succ])
                      refine wpAnyH_take (i := 9) (oi := ⟨some 97, _, _, _, _, _⟩) rfl (by kernel_rfl) (by kernel_rfl) (by kernel_rfl) (fun _ _ _ h => h) (Or.inr ⟨by rfl, rfl⟩) (by assumption) ?_
                      (try simp only [Act.put, List.setIfInBounds_toArray, List.set_cons_zero, List.set_cons_succ])
                      refine wpAnyH_take (i := 10) (oi := ⟨some 98, _, _, _, _, _⟩) rfl (by kernel_rfl) (by kernel_rfl) (by kernel_rfl) (fun _ _ _ h => h) (Or.inr ⟨by rfl, rfl⟩) (by assumption) ?_
                      (try simp only [Act.put, List.setIfInBounds_toArray, List.set_cons_zero, List.set_cons_succ])
                      refine wpAnyH_take (i := 11) (oi := ⟨some 99, _, _, _, _, _⟩) rfl (by kernel_rfl) (by kernel_rfl) (by kernel_rfl) (fun _ _ _ h => h) (Or.inr ⟨by rfl, rfl⟩) (by assumption) ?_
                      (try simp only [Act.put, List.setIfInBounds_toArray, List.set_cons_zero, List.set_cons_succ])
                      refine wpAnyH_take (i := 12) (oi := ⟨some 100, _, _, _, _, _⟩) rfl (by kernel_rfl) (by kernel_rfl) (by kernel_rfl) (fun _ _ _ h => h) (Or.inr ⟨by rfl, rfl⟩) (by assumption) ?_
                      (try simp only [Act.put, List.setIfInBounds_toArray, List.set_cons_zero, List.set_cons_succ])
                      refine wpAnyH_take (i := 13) (oi := ⟨some 101, _, _, _, _, _⟩) rfl (by kernel_rfl) (by kernel_rfl) (by kernel_rfl) (fun _ _ _ h => h) (Or.inr ⟨by rfl, rfl⟩) (by assumption) ?_
                      (try simp only [Act.put, List.setIfInBounds_toArray, List.set_cons_zero, List.set_cons_succ])
                      refine wpAnyH_take (i := 14) (oi := ⟨some 102, _, _, _, _, _⟩) rfl (by kernel_rfl) (by kernel_rfl) (by kernel_rfl) (fun _ _ _ h => h) (Or.inr ⟨by rfl, rfl⟩) (by assumption) ?_
                      (try simp only [Act.put, List.setIfInBounds_toArray, List.set_cons_zero, List.set_cons_succ])
                      refine wpAnyH_take (i := 15) (oi := ⟨some 103, _, _, _, _, _⟩) rfl (by kernel_rfl) (by kernel_rfl) (by kernel_rfl) (fun _ _ _ h => h) (Or.inr ⟨by rfl, rfl⟩) (by assumption) ?_
                      (try simp only [Act.put, List.setIfInBounds_toArray, List.set_cons_zero, List.set_cons_succ])
                      refine wpAnyH_take (i := 16) (oi := ⟨some 104, _, _, _, _, _⟩) rfl (by kernel_rfl) (by kernel_rfl) (by kernel_rfl) (fun _ _ _ h => h) (Or.inr ⟨by rfl, rfl⟩) (by assumption) ?_
                      (try simp only [Act.put, List.setIfInBounds_toArray, List.set_cons_zero, List.set_cons_succ])
                      refine wpAnyH_take (i := 17) (oi := ⟨some 105, _, _, _, _, _⟩) (v := ?_) rfl (by kernel_rfl) (by kernel_rfl) (by kernel_rfl) (fun _ _ _ h => h) (Or.inl ⟨by rfl, ?_⟩) (by assumption) ?_
                      rotate_left
                      · (intro w hSw; (try dsimp only at hSw); go_simp; try (with_reducible rfl))
                      (try simp only [Act.put, List.setIfInBounds_toArray, List.set_cons_zero, List.set_cons_succ])
                      refine wpAnyH_take (i := 18) (oi := ⟨some 13, _, _, _, _, _⟩) (v := ?_) rfl (by kernel_rfl) (by kernel_rfl) (by kernel_rfl) (fun _ _ _ h => h) (Or.inl ⟨by rfl, ?_⟩) (by assumption) ?_
                      rotate_left
                      · (intro w hSw; (try dsimp only at hSw); go_simp; try (with_reducible rfl))
                      (try simp only [Act.put, List.setIfInBounds_toArray, List.set_cons_zero, List.set_cons_succ])
                      refine wpAnyH_done (by kernel_rfl) ?_ _
                      go_wp2
                      all_goals
                        refine ⟨⟨j + 1, by omega, by go_num, ?_, ?_, ?_, ?_, ?_, hHeld⟩, by simp [intOf]; omega⟩
                        · have h6 := h1.out; congr 1; omega
                        · have h6 := h2.out; congr 1; omega
                        · first | (rw [h3.out, ← Bool.and_assoc, HGG.out]; done) | (rw [h3.out, ← Bool.and_assoc, HGG.out]; rfl) | (rw [h3.out, ← Bool.and_assoc, HGG.out]; simp) | simp
                        · first | (rw [h4.out]; done) | (rw [h4.out]; rfl) | (rw [h4.out]; simp)
                        · first | (rw [HNE.out]; done) | (rw [HNE.out]; rfl) | (rw [HNE.out]; simp)
                | true =>
                  have hlm : (l.length : Int) = m.length ∧ eqbL (l.take j) (m.take j) = true := by have h6 := HEE.out; simpa [Bool.and_eq_true] using h6
                  have hltm : j < m.length := by omega
                  obtain ⟨_, _, eb, hbl, hbc, hAb⟩ := hP.m
                  injection eb with e1 e2 e3
                  subst e1 e3
                  clear e2
                  unfold maxLen at hbc
                  obtain ⟨bb, ob, ub, rfl, -, hlob, n0, n1, n2, n3, n4⟩ := tm_elem hAb hltm
                  obtain ⟨uA', uc', rfl⟩ := n4.form
                  have HNT : Hid ((((l.length : Int) == m.length) && eqbL (l.take (j + 1)) (m.take (j + 1))) = t.eqb m[j]) := Lib.hid (by
                    rw [h5.out hltm, hlm.2, Bool.true_and]
                    have : ((l.length : Int) == m.length) = true := by simpa using hlm.1
                    rw [this, Bool.true_and])
                  have hjm : (j : Int) < m.length := by omega
                  have hjc : (j : Int) < c' := by omega
                  have hjl : (j : Int) < l.length := by omega
                  clear h5 HEE hlm hAb
                  generalize m[j] = t' at n0 n1 n2 n3 n4 HNT
                  cases g <;> cases q
                  all_goals
                    go_wp2_with (first
                      | (go_at_call 26; refine (termSize_c t _ _ _ ⟨_, rfl, k4⟩ hzt).mono ?_; rintro e u1 ⟨rfl, hu⟩; replace hP := hP.then hu; replace k4 := k4.below hu; replace k0 := held_cell hu k0; replace k1 := held_cell hu k1; replace k2 := held_cell hu k2; replace k3 := held_cell hu k3; replace n4 := n4.below hu; replace n0 := held_cell hu n0; replace n1 := held_cell hu n1; replace n2 := held_cell hu n2; replace n3 := held_cell hu n3; clear hu)
                      | (go_at_call 28; refine (termDepth_c t _ _ _ ⟨_, rfl, k4⟩ hzt).mono ?_; rintro e u1 ⟨rfl, hu⟩; replace hP := hP.then hu; replace k4 := k4.below hu; replace k0 := held_cell hu k0; replace k1 := held_cell hu k1; replace k2 := held_cell hu k2; replace k3 := held_cell hu k3; replace n4 := n4.below hu; replace n0 := held_cell hu n0; replace n1 := held_cell hu n1; replace n2 := held_cell hu n2; replace n3 := held_cell hu n3; clear hu)
                      | (go_at_call 24; refine (Good_c t _ _ _ ⟨_, rfl, k4⟩ hwj).mono ?_; rintro e u1 ⟨rfl, hu⟩; replace hP := hP.then hu; replace k4 := k4.below hu; replace k0 := held_cell hu k0; replace k1 := held_cell hu k1; replace k2 := held_cell hu k2; replace k3 := held_cell hu k3; replace n4 := n4.below hu; replace n0 := held_cell hu n0; replace n1 := held_cell hu n1; replace n2 := held_cell hu n2; replace n3 := held_cell hu n3; clear hu)
                      | (go_at_call 23; refine (Ground_c t _ _ _ ⟨_, rfl, k4⟩ hzt).mono ?_; rintro e u1 ⟨rfl, hu⟩; replace hP := hP.then hu; replace k4 := k4.below hu; replace k0 := held_cell hu k0; replace k1 := held_cell hu k1; replace k2 := held_cell hu k2; replace k3 := held_cell hu k3; replace n4 := n4.below hu; replace n0 := held_cell hu n0; replace n1 := held_cell hu n1; replace n2 := held_cell hu n2; replace n3 := held_cell hu n3; clear hu))
                    all_goals
                      refine wp_region_held_drew (S := (fun W => W.cell? ⟨ba, oa + j * 4, none⟩ = some (.int .u8 t.k) ∧ W.cell? ⟨ba, oa + j * 4 + 1, none⟩ = some (.string t.s) ∧ W.cell? ⟨ba, oa + j * 4 + 2, none⟩ = some (.int .i64 t.n) ∧ W.cell? ⟨ba, oa + j * 4 + 3, none⟩ = some (.slice uA t.l.length uc) ∧ W.cell? ⟨bb, ob + j * 4, none⟩ = some (.int .u8 t'.k) ∧ W.cell? ⟨bb, ob + j * 4 + 1, none⟩ = some (.string t'.s) ∧ W.cell? ⟨bb, ob + j * 4 + 2, none⟩ = some (.int .i64 t'.n) ∧ W.cell? ⟨bb, ob + j * 4 + 3, none⟩ = some (.slice uA' t'.l.length uc') ∧ Kd.tm.S W ok t.l (.slice uA t.l.length uc) ∧ Kd.tm.S W ok t'.l (.slice uA' t'.l.length uc') ∧ PS w ok w4.heap.size s l m (.slice rA l.length rc) (.slice qA m.length qc) (.slice (some ⟨ba, oa, none⟩) l.length c) (.slice (some ⟨bb, ob, none⟩) m.length c') W)) (by kernel_rfl) ?_ (fun hHeld => ?_)
                      · exact ⟨k0, k1, k2, k3, n0, n1, n2, n3, k4.below (Below.refl _ _).drew, n4.below (Below.refl _ _).drew, hP.then (Below.refl _ _).drew⟩
                      change wpAnyH _ .any _ _ _ 19 (Array.replicate 19 false) _ _
                      refine wpAnyH_take (i := 0) (oi := ⟨some 88, _, _, _, _, _⟩) (v := ?_) rfl (by kernel_rfl) (by kernel_rfl) (by kernel_rfl) (fun _ _ _ h => h) (Or.inl ⟨by rfl, ?_⟩) (by assumption) ?_
                      rotate_left
                      · (intro w hSw; (try dsimp only at hSw); go_simp; try (with_reducible rfl))
                      (try simp only [Act.put, List.setIfInBounds_toArray, List.set_cons_zero, List.set_cons_succ])
                      refine wpAnyH_take (i := 1) (oi := ⟨some 89, _, _, _, _, _⟩) (v := ?_) rfl (by kernel_rfl) (by kernel_rfl) (by kernel_rfl) (fun _ _ _ h => h) (Or.inl ⟨by rfl, ?_⟩) (by assumption) ?_
                      rotate_left
                      · (intro w hSw; (try dsimp only at hSw); go_simp; try (with_reducible rfl))
                      (try simp only [Act.put, List.setIfInBounds_toArray, List.set_cons_zero, List.set_cons_succ])
                      refine wpAnyH_take (i := 2) (oi := ⟨some 90, _, _, _, _, _⟩) (v := ?_) rfl (by kernel_rfl) (by kernel_rfl) (by kernel_rfl) (fun _ _ _ h => h) (Or.inl ⟨by rfl, ?_⟩) (by assumption) ?_
                      rotate_left
                      · (intro w hSw; (try dsimp only at hSw); go_simp; try (with_reducible rfl))
                      (try simp only [Act.put, List.setIfInBounds_toArray, List.set_cons_zero, List.set_cons_succ])
                      refine wpAnyH_take (i := 3) (oi := ⟨some 91, _, _, _, _, _⟩) (v := ?_) rfl (by kernel_rfl) (by kernel_rfl) (by kernel_rfl) (fun _ _ _ h => h) (Or.inl ⟨by rfl, ?_⟩) (by assumption) ?_
                      rotate_left
                      · (intro w hSw; (try dsimp only at hSw); go_simp; try (with_reducible rfl))
                      (try simp only [Act.put, List.setIfInBounds_toArray, List.set_cons_zero, List.set_cons_succ])
                      refine wpAnyH_take (i := 4) (oi := ⟨some 92, _, _, _, _, _⟩) (v := ?_) rfl (by kernel_rfl) (by kernel_rfl) (by kernel_rfl) (fun _ _ _ h => h) (Or.inl ⟨by rfl, ?_⟩) (by assumption) ?_
                      rotate_left
                      · (intro w hSw; (try dsimp only at hSw); go_simp; try (with_reducible rfl))
                      (try simp only [Act.put, List.setIfInBounds_toArray, List.set_cons_zero, List.set_cons_succ])
                      refine wpAnyH_take (i := 5) (oi := ⟨some 93, _, _, _, _, _⟩) (v := ?_) rfl (by kernel_rfl) (by kernel_rfl) (by kernel_rfl) (fun _ _ _ h => h) (Or.inl ⟨by rfl, ?_⟩) (by assumption) ?_
                      rotate_left
                      · (intro w hSw; (try dsimp only at hSw); go_simp; try (with_reducible rfl))
                      (try simp only [Act.put, List.setIfInBounds_toArray, List.set_cons_zero, List.set_cons_succ])
                      refine wpAnyH_take (i := 6) (oi := ⟨some 94, _, _, _, _, _⟩) (v := ?_) rfl (by kernel_rfl) (by kernel_rfl) (by kernel_rfl) (fun _ _ _ h => h) (Or.inl ⟨by rfl, ?_⟩) (by assumption) ?_
                      rotate_left
                      · (intro w hSw; (try dsimp only at hSw); go_simp; try (with_reducible rfl))
                      (try simp only [Act.put, List.setIfInBounds_toArray, List.set_cons_zero, List.set_cons_succ])
                      refine wpAnyH_take (i := 7) (oi := ⟨some 95, _, _, _, _, _⟩) (v := ?_) rfl (by kernel_rfl) (by kernel_rfl) (by kernel_rfl) (fun _ _ _ h => h) (Or.inl ⟨by rfl, ?_⟩) (by assumption) ?_
                      rotate_left
                      · (intro w hSw; (try dsimp only at hSw); go_simp; try (with_reducible rfl))
                      (try simp only [Act.put, List.setIfInBounds_toArray, List.set_cons_zero, List.set_cons_succ])
                      refine wpAnyH_take (i := 8) (oi := ⟨some 96, _, _, _, _, _⟩) (v := ?_) rfl (by kernel_rfl) (by kernel_rfl) (by kernel_rfl) (fun _ _ _ h => h) (Or.inl ⟨by rfl, ?_⟩) (by assumption) ?_
                      rotate_left
                      · (intro w hSw; (try dsimp only at hSw); go_simp; try (with_reducible rfl))
                      (try simp only [Act.put, List.setIfInBounds_toArray, List.set_cons_zero, List.set_cons_succ])
                      refine wpAnyH_take (i := 9) (oi := ⟨some 97, _, _, _, _, _⟩) (v := ?_) rfl (by kernel_rfl) (by kernel_rfl) (by kernel_rfl) (fun _ _ _ h => h) (Or.inl ⟨by rfl, ?_⟩) (by assumption) ?_
                      rotate_left
                      · (intro w hSw; (try dsimp only at hSw); go_simp; try (with_reducible rfl))
                      (try simp only [Act.put, List.setIfInBounds_toArray, List.set_cons_zero, List.set_cons_succ])
                      refine wpAnyH_take (i := 10) (oi := ⟨some 98, _, _, _, _, _⟩) (v := ?_) rfl (by kernel_rfl) (by kernel_rfl) (by kernel_rfl) (fun _ _ _ h => h) (Or.inl ⟨by rfl, ?_⟩) (by assumption) ?_
                      rotate_left
                      · (intro w hSw; (try dsimp only at hSw); go_simp; try (with_reducible rfl))
                      (try simp only [Act.put, List.setIfInBounds_toArray, List.set_cons_zero, List.set_cons_succ])
                      refine wpAnyH_take (i := 11) (oi := ⟨some 99, _, _, _, _, _⟩) (v := ?_) rfl (by kernel_rfl) (by kernel_rfl) (by kernel_rfl) (fun _ _ _ h => h) (Or.inl ⟨by rfl, ?_⟩) (by assumption) ?_
                      rotate_left
                      · (intro w hSw; (try dsimp only at hSw); go_simp; try (with_reducible rfl))
                      (try simp only [Act.put, List.setIfInBounds_toArray, List.set_cons_zero, List.set_cons_succ])
                      refine wpAnyH_take (i := 12) (oi := ⟨some 100, _, _, _, _, _⟩) (v := ?_) rfl (by kernel_rfl) (by kernel_rfl) (by kernel_rfl) (fun _ _ _ h => h) (Or.inl ⟨by rfl, ?_⟩) (by assumption) ?_
                      rotate_left
                      · (intro w hSw; (try dsimp only at hSw); go_simp; try (with_reducible rfl))
                      (try simp only [Act.put, List.setIfInBounds_toArray, List.set_cons_zero, List.set_cons_succ])
                      refine wpAnyH_take (i := 13) (oi := ⟨some 101, _, _, _, _, _⟩) (v := ?_) rfl (by kernel_rfl) (by kernel_rfl) (by kernel_rfl) (fun _ _ _ h => h) (Or.inl ⟨by rfl, ?_⟩) (by assumption) ?_
                      rotate_left
                      · (intro w hSw; (try dsimp only at hSw); go_simp; try (with_reducible rfl))
                      (try simp only [Act.put, List.setIfInBounds_toArray, List.set_cons_zero, List.set_cons_succ])
                      refine wpAnyH_take (i := 14) (oi := ⟨some 102, _, _, _, _, _⟩) (v := ?_) rfl (by kernel_rfl) (by kernel_rfl) (by kernel_rfl) (fun _ _ _ h => h) (Or.inl ⟨by rfl, ?_⟩) (by assumption) ?_
                      rotate_left
                      · (intro w hSw; (try dsimp only at hSw); go_simp; try (with_reducible rfl))
                      (try simp only [Act.put, List.setIfInBounds_toArray, List.set_cons_zero, List.set_cons_succ])
                      refine wpAnyH_take (i := 15) (oi := ⟨some 103, _, _, _, _, _⟩) (v := ?_) rfl (by kernel_rfl) (by kernel_rfl) (by kernel_rfl) (fun _ _ _ h => h) (Or.inl ⟨by rfl, ?_⟩) (by assumption) ?_
                      rotate_left
                      · (intro w hSw; (try dsimp only at hSw); go_simp; try (with_reducible rfl))
                      (try simp only [Act.put, List.setIfInBounds_toArray, List.set_cons_zero, List.set_cons_succ])
                      refine wpAnyH_ready (rs := [16]) (by kernel_rfl) (by simp) ?_
                      refine AllReadyH.cons (o := ⟨some 104, _, _, _, _, _⟩) rfl (fun K hK => ?_) AllReadyH.nil
                      go_simp
                      have hq := tSame_c t t' _ _ _ _ _ ⟨_, rfl, hHeld.2.2.2.2.2.2.2.2.1⟩ ⟨_, rfl, hHeld.2.2.2.2.2.2.2.2.2.1⟩
                      refine hq.mono ?_
                      clear hq
                      rintro e w9 ⟨rfl, hb9⟩
                      go_wp2_with fail
                      refine hK.out _ _ (by obtain ⟨q0, q1, q2, q3, q4, q5, q6, q7, q8, q9, qR⟩ := hHeld; exact ⟨held_cell hb9 q0, held_cell hb9 q1, held_cell hb9 q2, held_cell hb9 q3, held_cell hb9 q4, held_cell hb9 q5, held_cell hb9 q6, held_cell hb9 q7, q8.below hb9, q9.below hb9, qR.then hb9⟩) (fun hHeld => ?_)
                      clear hK K
                      (try simp only [Act.put, List.setIfInBounds_toArray, List.set_cons_zero, List.set_cons_succ])
                      refine wpAnyH_take (i := 17) (oi := ⟨some 105, _, _, _, _, _⟩) (v := ?_) rfl (by kernel_rfl) (by kernel_rfl) (by kernel_rfl) (fun _ _ _ h => h) (Or.inl ⟨by rfl, ?_⟩) (by assumption) ?_
                      rotate_left
                      · (intro w hSw; (try dsimp only at hSw); go_simp; try (with_reducible rfl))
                      (try simp only [Act.put, List.setIfInBounds_toArray, List.set_cons_zero, List.set_cons_succ])
                      refine wpAnyH_take (i := 18) (oi := ⟨some 13, _, _, _, _, _⟩) (v := ?_) rfl (by kernel_rfl) (by kernel_rfl) (by kernel_rfl) (fun _ _ _ h => h) (Or.inl ⟨by rfl, ?_⟩) (by assumption) ?_
                      rotate_left
                      · (intro w hSw; (try dsimp only at hSw); go_simp; try (with_reducible rfl))
                      (try simp only [Act.put, List.setIfInBounds_toArray, List.set_cons_zero, List.set_cons_succ])
                      refine wpAnyH_done (by kernel_rfl) ?_ _
                      go_wp2
                      all_goals
                        refine ⟨⟨j + 1, by omega, by go_num, ?_, ?_, ?_, ?_, ?_, hHeld.2.2.2.2.2.2.2.2.2.2⟩, by simp [intOf]; omega⟩
                        · have h6 := h1.out; congr 1; omega
                        · have h6 := h2.out; congr 1; omega
                        · first | (rw [h3.out, ← Bool.and_assoc, HGG.out]; done) | (rw [h3.out, ← Bool.and_assoc, HGG.out]; rfl) | (rw [h3.out, ← Bool.and_assoc, HGG.out]; simp) | simp
                        · first | (rw [h4.out]; done) | (rw [h4.out]; rfl) | (rw [h4.out]; simp)
                        · first | (rw [HNT.out]; done) | (rw [HNT.out]; rfl) | (rw [HNT.out]; simp)
              · have HF : Hid (l.take j = l) := Lib.hid (List.take_of_length_le (by omega))
                rw [HF.out]
                have HE : Hid ((((l.length : Int) == m.length) && eqbL l (m.take j)) = eqbL l m) := Lib.hid (by
                  by_cases hlm : (l.length : Int) = m.length
                  · have : ((l.length : Int) == m.length) = true := by simpa using hlm
                    rw [this, Bool.true_and, List.take_of_length_le (by omega)]
                  · have : ((l.length : Int) == m.length) = false := by simpa using hlm
                    rw [this, Bool.false_and, eqbL_length (by omega)])
                rw [HE.out]
                have hz4 : Tm.siz ⟨4, s, 0, l⟩ ≤ 1000000 := by simp only [Tm.siz]; omega
                have HS1 := Lib.hid (fun W (hW : PS w ok w4.heap.size s l m (.slice rA l.length rc) (.slice qA m.length qc) (.slice A l.length c) (.slice A' m.length c') W) => termSize_c ⟨4, s, 0, l⟩ _ W _ hW.t.tmv hz4)
                have HS2 := Lib.hid (fun W (hW : PS w ok w4.heap.size s l m (.slice rA l.length rc) (.slice qA m.length qc) (.slice A l.length c) (.slice A' m.length c') W) => termDepth_c ⟨4, s, 0, l⟩ _ W _ hW.t.tmv hz4)
                have HS3 := Lib.hid (fun W (hW : PS w ok w4.heap.size s l m (.slice rA l.length rc) (.slice qA m.length qc) (.slice A l.length c) (.slice A' m.length c') W) => Good_c ⟨4, s, 0, l⟩ _ W _ hW.t.tmv HW4.out)
                have HS4 := Lib.hid (fun W (hW : PS w ok w4.heap.size s l m (.slice rA l.length rc) (.slice qA m.length qc) (.slice A l.length c) (.slice A' m.length c') W) => Ground_c ⟨4, s, 0, l⟩ _ W _ hW.t.tmv hz4)
                have HS5 := Lib.hid (fun W (hW : PS w ok w4.heap.size s l m (.slice rA l.length rc) (.slice qA m.length qc) (.slice A l.length c) (.slice A' m.length c') W) => tSame_c ⟨4, s, 0, l⟩ ⟨4, s, 0, m⟩ W _ _ _ _ hW.t.tmv hW.o.tmv)
                have HS6 := Lib.hid (fun (W : World) (B : Nat) (hBl : W.heap[B]? = some (Obj.cells #[.int .u8 4, .string s, .int .i64 0, .slice rA l.length rc] 26 (0, 0))) (hW : PS w ok w4.heap.size s l m (.slice rA l.length rc) (.slice qA m.length qc) (.slice A l.length c) (.slice A' m.length c') W) => Vars_s [⟨4, s, 0, l⟩] _ W _ (lit1_at (t := ⟨4, s, 0, l⟩) hBl hW.t.args) (by simp [sizL]; omega))
                have HS7 := Lib.hid (fun W (hW : PS w ok w4.heap.size s l m (.slice rA l.length rc) (.slice qA m.length qc) (.slice A l.length c) (.slice A' m.length c') W) => Vars_s l _ W _ hW.l (by omega))
                rw [show ((Tm.siz ⟨4, s, 0, l⟩ : Nat) : Int) = 1 + (sizL l : Int) by simp only [Tm.siz]; omega] at HS1
                rw [show ((Tm.dep ⟨4, s, 0, l⟩ : Nat) : Int) = 1 + (depL l : Int) by simp only [Tm.dep]; omega] at HS2
                rw [HX1.out, HGG0.out] at HS3
                rw [show decide (Tm.occ ⟨4, s, 0, l⟩ = []) = groundL l by rw [groundL_iff]; simp [Tm.occ]] at HS4
                rw [show Tm.eqb ⟨4, s, 0, l⟩ ⟨4, s, 0, m⟩ = eqbL l m by simp [Tm.eqb]] at HS5
                rw [show occL [⟨4, s, 0, l⟩] = occL l by simp [occL, Tm.occ]] at HS6
                have HNU := Lib.hid (fun X v v' W (h : (Kd.int .i64).S W (fun _ => True) X v) (h' : (Kd.int .i64).S W (fun _ => True) X v') => Numbers_yes X v v' W _ _ h h')
                have hdd : decide ((1 + depL l : Nat) ≤ 64) = decide (1 + (depL l : Int) ≤ 64) := by rw [decide_eq_decide]; omega
                rw [hdd] at HS3
                generalize dd (occL l) = X at HS6 HS7
                generalize eqbL l m = e at HS5 ⊢
                generalize groundL l = q at HS4 ⊢
                generalize (sizL l : Int) = zz at HS1 ⊢
                generalize (depL l : Int) = zd at HS2 HS3 ⊢
                generalize (Gn && goodL l) = g at HS3 ⊢
                have m1 : Hid (0 = 0) := Lib.hid rfl
                have hee : ∀ b : Bool, (b == b) = true := fun b => by cases b <;> rfl
                obtain ⟨c0, c1, c2, c3, -⟩ := hP.t.held
                obtain ⟨o0, o1, o2, o3, -⟩ := hP.o.held
                clear hdd
                cases g <;> (try by_cases h64 : 1 + zd ≤ 64)
                all_goals
                  go_wp2_with (first
                    | (go_at_call 26; refine (HS1.out _ hP).mono ?_; clear HS1; rintro e u1 ⟨rfl, hu⟩; replace hP := hP.then hu; obtain ⟨c0, c1, c2, c3, -⟩ := hP.t.held; obtain ⟨o0, o1, o2, o3, -⟩ := hP.o.held; clear hu)
                    | (go_at_call 28; refine (HS2.out _ hP).mono ?_; clear HS2; rintro e u1 ⟨rfl, hu⟩; replace hP := hP.then hu; obtain ⟨c0, c1, c2, c3, -⟩ := hP.t.held; obtain ⟨o0, o1, o2, o3, -⟩ := hP.o.held; clear hu)
                    | (go_at_call 24; refine (HS3.out _ hP).mono ?_; clear HS3; rintro e u1 ⟨rfl, hu⟩; replace hP := hP.then hu; obtain ⟨c0, c1, c2, c3, -⟩ := hP.t.held; obtain ⟨o0, o1, o2, o3, -⟩ := hP.o.held; clear hu)
                    | (go_at_call 23; refine (HS4.out _ hP).mono ?_; clear HS4; rintro e u1 ⟨rfl, hu⟩; replace hP := hP.then hu; obtain ⟨c0, c1, c2, c3, -⟩ := hP.t.held; obtain ⟨o0, o1, o2, o3, -⟩ := hP.o.held; clear hu)
                    | (go_at_call 31; refine (HS5.out _ hP).mono ?_; clear HS5; rintro e u1 ⟨rfl, hu⟩; replace hP := hP.then hu; obtain ⟨c0, c1, c2, c3, -⟩ := hP.t.held; obtain ⟨o0, o1, o2, o3, -⟩ := hP.o.held; clear hu)
                    | (go_at_call 20; have hx := m1.out; clear hx m1; refine (HS6.out _ _ (heap_at _ _ _ rfl) (hP.then ((Below.refl _ _).alloc (Nat.le_refl _) _))).mono ?_; clear HS6; rintro e u2 ⟨⟨xA, xc, rfl, hX⟩, hu⟩; replace hP := (hP.then ((Below.refl _ _).alloc (Nat.le_refl _) _)).then hu; clear hu)
                    | (go_at_call 20; refine (HS7.out _ hP).mono ?_; clear HS7; rintro e u3 ⟨⟨yA, yc, rfl, hY⟩, hu⟩; replace hP := hP.then hu; replace hX := hX.below hu; clear hu)
                    | (go_at_call 21; refine (HNU.out _ _ _ _ hX hY).mono ?_; clear HNU; rintro e u4 ⟨rfl, hu⟩; replace hP := hP.then hu; clear hu)
                    | (go_at_call 14; refine (wakes_c _).mono ?_; rintro e u5 ⟨rfl, hu⟩; replace hP := hP.then hu; clear hu))
                  all_goals first
                    | (go_ret; exact ⟨rfl, hP.t.below⟩)
          · have HGG0 : Hid ((decide ((l.length : Int) ≤ 16) && nameOk s) = false) := Lib.hid (by simp [h16])
            have h16' : decide ((l.length : Int) ≤ 16) = false := by simpa using h16
            go_enter Try.func6, Try.ntmps6
            go_wp2_with (first
              | (go_at_call_has 13 (Value.slice A l.length c); refine (HL.out _ hb).mono ?_; clear HL; rintro e w1 ⟨rfl, hb1⟩; replace hb := below_then hb hb.size hb1)
              | (go_at_call 13; refine (HM.out _ hb).mono ?_; clear HM; rintro e w1 ⟨rfl, hb1⟩; replace hb := below_then hb hb.size hb1)
              | (go_at_call_has 15 (Value.slice A l.length c); refine (HF1.out _ hb).mono ?_; clear HF1; rw [hk1.out]; rintro e w3 ⟨⟨r, rfl, ru, rfl, hrS⟩, hb3⟩; obtain ⟨rA, rc, rfl⟩ := hrS.form; replace hrS := Kd.S.mono (ok' := fun _ => True) (fun _ _ => trivial) hrS; replace hb := below_then hb hb.size hb3)
              | (go_at_call 15; refine (HF2.out _ hb).mono ?_; clear HF2; rw [hk2.out]; rintro e w4 ⟨⟨q, rfl, qu, rfl, hqS⟩, hb4⟩; obtain ⟨qA, qc, rfl⟩ := hqS.form; replace hqS := Kd.S.mono (ok' := fun _ => True) (fun _ _ => trivial) hqS; replace hb := below_then hb hb.size hb4; replace hrS := hrS.below hb4; have hst := (((Below.refl _ w4).alloc (Nat.le_refl _) (.cells #[.int .u8 4, .string s, .int .i64 0, .slice rA l.length rc] 26)).alloc (by simp) (.cells #[.int .u8 4, .string s, .int .i64 0, .slice qA m.length qc] 26)); have hP : PS w ok w4.heap.size s l m (.slice rA l.length rc) (.slice qA m.length qc) (.slice A l.length c) (.slice A' m.length c') ((w4.alloc (.cells #[.int .u8 4, .string s, .int .i64 0, .slice rA l.length rc] 26)).alloc (.cells #[.int .u8 4, .string s, .int .i64 0, .slice qA m.length qc] 26)) := ⟨(Bx.two (w := w4) (ok := fun _ => True) (a := ⟨4, s, 0, l⟩) (b := ⟨4, s, 0, m⟩) hrS hqS).1.base hb, (Bx.two (w := w4) (ok := fun _ => True) (a := ⟨4, s, 0, l⟩) (b := ⟨4, s, 0, m⟩) hrS hqS).2.base hb, (HV.out.below hb).below hst, (HV'.out.below hb).below hst⟩; clear hst hrS hqS)
              | (go_at_call 19; refine (A_c s _ (fun _ => False)).mono ?_; rintro e w5 ⟨rfl, hb5⟩; replace hP := hP.then hb5; clear hb5)
              | (go_at_call 24; have hq := fun W => Good_c ⟨3, s, 0, []⟩ _ W (fun _ => False) ⟨_, rfl, Kd.S.nil _ _ _⟩ hsw; rw [name_good, hGn] at hq; refine (hq _).mono ?_; clear hq; rintro e w5 ⟨rfl, hb5⟩; replace hP := hP.then hb5; clear hb5))
            clear hGn h16 h16'
            clear hb HV HV' hk1 hk2 hl0 hm0' hsw
            go_loopw [9, 10, 11, 12, 13, 14] (fun z d g q e i W => ∃ j : Nat, j ≤ l.length ∧ i = .int .i64 j ∧ z = .int .i64 (1 + (sizL (l.take j) : Int)) ∧ d = .int .i64 (1 + (depL (l.take j) : Int)) ∧ g = .bool (false && goodL (l.take j)) ∧ q = .bool (groundL (l.take j)) ∧ e = .bool (((l.length : Int) == m.length) && eqbL (l.take j) (m.take j)) ∧ PS w ok w4.heap.size s l m (.slice rA l.length rc) (.slice qA m.length qc) (.slice A l.length c) (.slice A' m.length c') W) (fun _ _ _ _ _ i _ => l.length - (intOf i).toNat)
            case atStart => exact ⟨0, Nat.zero_le _, rfl, by simp [sizL], by simp [depL], by simp [goodL], by simp [groundL], by simp [eqbL], hP⟩
            case round =>
              clear hP
              obtain ⟨j, hj, rfl, rfl, rfl, rfl, rfl, rfl, hP⟩ := hrel
              by_cases hlt : j < l.length
              · obtain ⟨_, _, ea, hal, hac, hAa⟩ := hP.l
                injection ea with e1 e2 e3
                subst e1 e3
                clear e2
                unfold maxLen at hac
                obtain ⟨ba, oa, ua, rfl, -, hloa, k0, k1, k2, k3, k4⟩ := tm_elem hAa hlt
                obtain ⟨uA, uc, rfl⟩ := k4.form
                have hsj := siz_mem (List.getElem_mem hlt)
                have hdj := dep_mem (List.getElem_mem hlt)
                have hwj := WfL_at HWL.out hlt
                have h1 : Hid (sizL (l.take (j + 1)) = sizL (l.take j) + (l[j]).siz) := Lib.hid (by rw [take_succ_at l hlt, sizL_append]; simp [sizL])
                have h2 : Hid (depL (l.take (j + 1)) = max (depL (l.take j)) (l[j]).dep) := Lib.hid (by rw [take_succ_at l hlt, depL_append]; simp [depL])
                have h3 : Hid (goodL (l.take (j + 1)) = (goodL (l.take j) && (l[j]).good)) := Lib.hid (by rw [take_succ_at l hlt, goodL_snoc])
                have h4 : Hid (groundL (l.take (j + 1)) = (groundL (l.take j) && decide ((l[j]).occ = []))) := Lib.hid (by rw [take_succ_at l hlt, groundL_snoc])
                have h5 : Hid (∀ (h : j < m.length), eqbL (l.take (j + 1)) (m.take (j + 1)) = (eqbL (l.take j) (m.take j) && (l[j]).eqb m[j])) := Lib.hid (fun h => by rw [take_succ_at l hlt, take_succ_at m h, eqbL_snoc (by rw [List.length_take, List.length_take]; omega)])
                have hsl : sizL (l.take (j + 1)) ≤ sizL l := by have := sizL_append (l.take (j + 1)) (l.drop (j + 1)); rw [List.take_append_drop] at this; omega
                have hdl : depL (l.take j) ≤ sizL l := by have h6 := depL_le_sizL (l.take j); have := sizL_append (l.take j) (l.drop j); rw [List.take_append_drop] at this; omega
                have hdt : (l[j]).dep ≤ sizL l := by have := dep_le_siz l[j]; omega
                clear hAa
                generalize ht : l[j] = t at k0 k1 k2 k3 k4 hsj hdj hwj h1 h2 h3 h4 h5 hdt
                have hz0 : Hid (sizL (l.take (j + 1)) = sizL (l.take j) + t.siz) := h1
                have hzz := h1.out
                have hwz : IntKind.i64.wrap (1 + (sizL (l.take j) : Int) + (t.siz : Int)) = 1 + (sizL (l.take j) : Int) + (t.siz : Int) := by rw [IntKind.wrap_i64]; omega
                have hwd : IntKind.i64.wrap (1 + (t.dep : Int)) = 1 + (t.dep : Int) := by rw [IntKind.wrap_i64]; omega
                have hzt : t.siz ≤ 1000000 := by omega
                generalize hGG : (false && goodL (l.take j)) = g at h3 ⊢
                generalize hQQ : groundL (l.take j) = q at h4 ⊢
                have HGG := Lib.hid hGG
                have HTT := Lib.hid ht
                clear hGG hQQ ht hzz hsj hdj hdl hdt hsl
                generalize hEE : (((l.length : Int) == m.length) && eqbL (l.take j) (m.take j)) = e
                have HEE := Lib.hid hEE
                clear hEE
                cases e with
                | false =>
                  have HNE : Hid ((((l.length : Int) == m.length) && eqbL (l.take (j + 1)) (m.take (j + 1))) = false) := Lib.hid (by
                    have h6 := HEE.out
                    by_cases hlm : (l.length : Int) = m.length
                    · rw [h5.out (by omega)]
                      have : ((l.length : Int) == m.length) = true := by simpa using hlm
                      rw [this, Bool.true_and] at h6 ⊢
                      rw [h6, Bool.false_and]
                    · have : ((l.length : Int) == m.length) = false := by simpa using hlm
                      rw [this, Bool.false_and])
                  clear h5 HEE
                  cases g <;> cases q
                  all_goals
                    go_wp2_with (first
                      | (go_at_call 26; refine (termSize_c t _ _ _ ⟨_, rfl, k4⟩ hzt).mono ?_; rintro e u1 ⟨rfl, hu⟩; replace hP := hP.then hu; replace k4 := k4.below hu; replace k0 := held_cell hu k0; replace k1 := held_cell hu k1; replace k2 := held_cell hu k2; replace k3 := held_cell hu k3; clear hu)
                      | (go_at_call 28; refine (termDepth_c t _ _ _ ⟨_, rfl, k4⟩ hzt).mono ?_; rintro e u1 ⟨rfl, hu⟩; replace hP := hP.then hu; replace k4 := k4.below hu; replace k0 := held_cell hu k0; replace k1 := held_cell hu k1; replace k2 := held_cell hu k2; replace k3 := held_cell hu k3; clear hu)
                      | (go_at_call 24; refine (Good_c t _ _ _ ⟨_, rfl, k4⟩ hwj).mono ?_; rintro e u1 ⟨rfl, hu⟩; replace hP := hP.then hu; replace k4 := k4.below hu; replace k0 := held_cell hu k0; replace k1 := held_cell hu k1; replace k2 := held_cell hu k2; replace k3 := held_cell hu k3; clear hu)
                      | (go_at_call 23; refine (Ground_c t _ _ _ ⟨_, rfl, k4⟩ hzt).mono ?_; rintro e u1 ⟨rfl, hu⟩; replace hP := hP.then hu; replace k4 := k4.below hu; replace k0 := held_cell hu k0; replace k1 := held_cell hu k1; replace k2 := held_cell hu k2; replace k3 := held_cell hu k3; clear hu))
                    all_goals
                      refine wp_region_held_drew (S := (fun W => PS w ok w4.heap.size s l m (.slice rA l.length rc) (.slice qA m.length qc) (.slice (some ⟨ba, oa, none⟩) l.length c) (.slice A' m.length c') W)) (by kernel_rfl) ?_ (fun hHeld => ?_)
                      · exact hP.then (Below.refl _ _).drew
                      change wpAnyH _ .any _ _ _ 19 (Array.replicate 19 false) _ _
                      refine wpAnyH_take (i := 0) (oi := ⟨some 88, _, _, _, _, _⟩) (v := ?_) rfl (by kernel_rfl) (by kernel_rfl) (by kernel_rfl) (fun _ _ _ h => h) (Or.inl ⟨by rfl, ?_⟩) (by assumption) ?_
                      rotate_left
                      · (intro w hSw; (try dsimp only at hSw); go_simp; try (with_reducible rfl))
                      (try simp only [Act.put, List.setIfInBounds_toArray, List.set_cons_zero, List.set_cons_succ])
                      refine wpAnyH_take (i := 1) (oi := ⟨some 89, _, _, _, _, _⟩) (v := ?_) rfl (by kernel_rfl) (by kernel_rfl) (by kernel_rfl) (fun _ _ _ h => h) (Or.inl ⟨by rfl, ?_⟩) (by assumption) ?_
                      rotate_left
                      · (intro w hSw; (try dsimp only at hSw); go_simp; try (with_reducible rfl))
                      (try simp only [Act.put, List.setIfInBounds_toArray, List.set_cons_zero, List.set_cons_succ])
                      refine wpAnyH_take (i := 2) (oi := ⟨some 90, _, _, _, _, _⟩) rfl (by kernel_rfl) (by kernel_rfl) (by kernel_rfl) (fun _ _ _ h => h) (Or.inr ⟨by rfl, rfl⟩) (by assumption) ?_
                      (try simp only [Act.put, List.setIfInBounds_toArray, List.set_cons_zero, List.set_cons_succ])
                      refine wpAnyH_take (i := 3) (oi := ⟨some 91, _, _, _, _, _⟩) rfl (by kernel_rfl) (by kernel_rfl) (by kernel_rfl) (fun _ _ _ h => h) (Or.inr ⟨by rfl, rfl⟩) (by assumption) ?_
                      (try simp only [Act.put, List.setIfInBounds_toArray, List.set_cons_zero, List.set_cons_succ])
                      refine wpAnyH_take (i := 4) (oi := ⟨some 92, _, _, _, _, _⟩) rfl (by kernel_rfl) (by kernel_rfl) (by kernel_rfl) (fun _ _ _ h => h) (Or.inr ⟨by rfl, rfl⟩) (by assumption) ?_
                      (try simp only [Act.put, List.setIfInBounds_toArray, List.set_cons_zero, List.set_cons_succ])
                      refine wpAnyH_take (i := 5) (oi := ⟨some 93, _, _, _, _, _⟩) rfl (by kernel_rfl) (by kernel_rfl) (by kernel_rfl) (fun _ _ _ h => h) (Or.inr ⟨by rfl, rfl⟩) (by assumption) ?_
                      (try simp only [Act.put, List.setIfInBounds_toArray, List.set_cons_zero, List.set_cons_succ])
                      refine wpAnyH_take (i := 6) (oi := ⟨some 94, _, _, _, _, _⟩) (v := ?_) rfl (by kernel_rfl) (by kernel_rfl) (by kernel_rfl) (fun _ _ _ h => h) (Or.inl ⟨by rfl, ?_⟩) (by assumption) ?_
                      rotate_left
                      · (intro w hSw; (try dsimp only at hSw); go_simp; try (with_reducible rfl))
                      (try simp only [Act.put, List.setIfInBounds_toArray, List.set_cons_zero, List.set_cons_succ])
                      refine wpAnyH_take (i := 7) (oi := ⟨some 95, _, _, _, _, _⟩) (v := ?_) rfl (by kernel_rfl) (by kernel_rfl) (by kernel_rfl) (fun _ _ _ h => h) (Or.inl ⟨by rfl, ?_⟩) (by assumption) ?_
                      rotate_left
                      · (intro w hSw; (try dsimp only at hSw); go_simp; try (with_reducible rfl))
                      (try simp only [Act.put, List.setIfInBounds_toArray, List.set_cons_zero, List.set_cons_succ])
                      refine wpAnyH_take (i := 8) (oi := ⟨some 96, _, _, _, _, _⟩) rfl (by kernel_rfl) (by kernel_rfl) (by kernel_rfl) (fun _ _ _ h => h) (Or.inr ⟨by rfl, rfl⟩) (by assumption) ?_
                      (try simp only [Act.put, List.setIfInBounds_toArray, List.set_cons_zero, List.set_cons_succ])
                      refine wpAnyH_take (i := 9) (oi := ⟨some 97, _, _, _, _, _⟩) rfl (by kernel_rfl) (by kernel_rfl) (by kernel_rfl) (fun _ _ _ h => h) (Or.inr ⟨by rfl, rfl⟩) (by assumption) ?_
                      (try simp only [Act.put, List.setIfInBounds_toArray, List.set_cons_zero, List.set_cons_succ])
                      refine wpAnyH_take (i := 10) (oi := ⟨some 98, _, _, _, _, _⟩) rfl (by kernel_rfl) (by kernel_rfl) (by kernel_rfl) (fun _ _ _ h => h) (Or.inr ⟨by rfl, rfl⟩) (by assumption) ?_
                      (try simp only [Act.put, List.setIfInBounds_toArray, List.set_cons_zero, List.set_cons_succ])
                      refine wpAnyH_take (i := 11) (oi := ⟨some 99, _, _, _, _, _⟩) rfl (by kernel_rfl) (by kernel_rfl) (by kernel_rfl) (fun _ _ _ h => h) (Or.inr ⟨by rfl, rfl⟩) (by assumption) ?_
                      (try simp only [Act.put, List.setIfInBounds_toArray, List.set_cons_zero, List.set_cons_succ])
                      refine wpAnyH_take (i := 12) (oi := ⟨some 100, _, _, _, _, _⟩) rfl (by kernel_rfl) (by kernel_rfl) (by kernel_rfl) (fun _ _ _ h => h) (Or.inr ⟨by rfl, rfl⟩) (by assumption) ?_
                      (try simp only [Act.put, List.setIfInBounds_toArray, List.set_cons_zero, List.set_cons_succ])
                      refine wpAnyH_take (i := 13) (oi := ⟨some 101, _, _, _, _, _⟩) rfl (by kernel_rfl) (by kernel_rfl) (by kernel_rfl) (fun _ _ _ h => h) (Or.inr ⟨by rfl, rfl⟩) (by assumption) ?_
                      (try simp only [Act.put, List.setIfInBounds_toArray, List.set_cons_zero, List.set_cons_succ])
                      refine wpAnyH_take (i := 14) (oi := ⟨some 102, _, _, _, _, _⟩) rfl (by kernel_rfl) (by kernel_rfl) (by kernel_rfl) (fun _ _ _ h => h) (Or.inr ⟨by rfl, rfl⟩) (by assumption) ?_
                      (try simp only [Act.put, List.setIfInBounds_toArray, List.set_cons_zero, List.set_cons_succ])
                      refine wpAnyH_take (i := 15) (oi := ⟨some 103, _, _, _, _, _⟩) rfl (by kernel_rfl) (by kernel_rfl) (by kernel_rfl) (fun _ _ _ h => h) (Or.inr ⟨by rfl, rfl⟩) (by assumption) ?_
                      (try simp only [Act.put, List.setIfInBounds_toArray, List.set_cons_zero, List.set_cons_succ])
                      refine wpAnyH_take (i := 16) (oi := ⟨some 104, _, _, _, _, _⟩) rfl (by kernel_rfl) (by kernel_rfl) (by kernel_rfl) (fun _ _ _ h => h) (Or.inr ⟨by rfl, rfl⟩) (by assumption) ?_
                      (try simp only [Act.put, List.setIfInBounds_toArray, List.set_cons_zero, List.set_cons_succ])
                      refine wpAnyH_take (i := 17) (oi := ⟨some 105, _, _, _, _, _⟩) (v := ?_) rfl (by kernel_rfl) (by kernel_rfl) (by kernel_rfl) (fun _ _ _ h => h) (Or.inl ⟨by rfl, ?_⟩) (by assumption) ?_
                      rotate_left
                      · (intro w hSw; (try dsimp only at hSw); go_simp; try (with_reducible rfl))
                      (try simp only [Act.put, List.setIfInBounds_toArray, List.set_cons_zero, List.set_cons_succ])
                      refine wpAnyH_take (i := 18) (oi := ⟨some 13, _, _, _, _, _⟩) (v := ?_) rfl (by kernel_rfl) (by kernel_rfl) (by kernel_rfl) (fun _ _ _ h => h) (Or.inl ⟨by rfl, ?_⟩) (by assumption) ?_
                      rotate_left
                      · (intro w hSw; (try dsimp only at hSw); go_simp; try (with_reducible rfl))
                      (try simp only [Act.put, List.setIfInBounds_toArray, List.set_cons_zero, List.set_cons_succ])
                      refine wpAnyH_done (by kernel_rfl) ?_ _
                      go_wp2
                      all_goals
                        refine ⟨⟨j + 1, by omega, by go_num, ?_, ?_, ?_, ?_, ?_, hHeld⟩, by simp [intOf]; omega⟩
                        · have h6 := h1.out; congr 1; omega
                        · have h6 := h2.out; congr 1; omega
                        · first | (rw [h3.out, ← Bool.and_assoc, HGG.out]; done) | (rw [h3.out, ← Bool.and_assoc, HGG.out]; rfl) | (rw [h3.out, ← Bool.and_assoc, HGG.out]; simp) | simp
                        · first | (rw [h4.out]; done) | (rw [h4.out]; rfl) | (rw [h4.out]; simp)
                        · first | (rw [HNE.out]; done) | (rw [HNE.out]; rfl) | (rw [HNE.out]; simp)
                | true =>
                  have hlm : (l.length : Int) = m.length ∧ eqbL (l.take j) (m.take j) = true := by have h6 := HEE.out; simpa [Bool.and_eq_true] using h6
                  have hltm : j < m.length := by omega
                  obtain ⟨_, _, eb, hbl, hbc, hAb⟩ := hP.m
                  injection eb with e1 e2 e3
                  subst e1 e3
                  clear e2
                  unfold maxLen at hbc
                  obtain ⟨bb, ob, ub, rfl, -, hlob, n0, n1, n2, n3, n4⟩ := tm_elem hAb hltm
                  obtain ⟨uA', uc', rfl⟩ := n4.form
                  have HNT : Hid ((((l.length : Int) == m.length) && eqbL (l.take (j + 1)) (m.take (j + 1))) = t.eqb m[j]) := Lib.hid (by
                    rw [h5.out hltm, hlm.2, Bool.true_and]
                    have : ((l.length : Int) == m.length) = true := by simpa using hlm.1
                    rw [this, Bool.true_and])
                  have hjm : (j : Int) < m.length := by omega
                  have hjc : (j : Int) < c' := by omega
                  have hjl : (j : Int) < l.length := by omega
                  clear h5 HEE hlm hAb
                  generalize m[j] = t' at n0 n1 n2 n3 n4 HNT
                  cases g <;> cases q
                  all_goals
                    go_wp2_with (first
                      | (go_at_call 26; refine (termSize_c t _ _ _ ⟨_, rfl, k4⟩ hzt).mono ?_; rintro e u1 ⟨rfl, hu⟩; replace hP := hP.then hu; replace k4 := k4.below hu; replace k0 := held_cell hu k0; replace k1 := held_cell hu k1; replace k2 := held_cell hu k2; replace k3 := held_cell hu k3; replace n4 := n4.below hu; replace n0 := held_cell hu n0; replace n1 := held_cell hu n1; replace n2 := held_cell hu n2; replace n3 := held_cell hu n3; clear hu)
                      | (go_at_call 28; refine (termDepth_c t _ _ _ ⟨_, rfl, k4⟩ hzt).mono ?_; rintro e u1 ⟨rfl, hu⟩; replace hP := hP.then hu; replace k4 := k4.below hu; replace k0 := held_cell hu k0; replace k1 := held_cell hu k1; replace k2 := held_cell hu k2; replace k3 := held_cell hu k3; replace n4 := n4.below hu; replace n0 := held_cell hu n0; replace n1 := held_cell hu n1; replace n2 := held_cell hu n2; replace n3 := held_cell hu n3; clear hu)
                      | (go_at_call 24; refine (Good_c t _ _ _ ⟨_, rfl, k4⟩ hwj).mono ?_; rintro e u1 ⟨rfl, hu⟩; replace hP := hP.then hu; replace k4 := k4.below hu; replace k0 := held_cell hu k0; replace k1 := held_cell hu k1; replace k2 := held_cell hu k2; replace k3 := held_cell hu k3; replace n4 := n4.below hu; replace n0 := held_cell hu n0; replace n1 := held_cell hu n1; replace n2 := held_cell hu n2; replace n3 := held_cell hu n3; clear hu)
                      | (go_at_call 23; refine (Ground_c t _ _ _ ⟨_, rfl, k4⟩ hzt).mono ?_; rintro e u1 ⟨rfl, hu⟩; replace hP := hP.then hu; replace k4 := k4.below hu; replace k0 := held_cell hu k0; replace k1 := held_cell hu k1; replace k2 := held_cell hu k2; replace k3 := held_cell hu k3; replace n4 := n4.below hu; replace n0 := held_cell hu n0; replace n1 := held_cell hu n1; replace n2 := held_cell hu n2; replace n3 := held_cell hu n3; clear hu))
                    all_goals
                      refine wp_region_held_drew (S := (fun W => W.cell? ⟨ba, oa + j * 4, none⟩ = some (.int .u8 t.k) ∧ W.cell? ⟨ba, oa + j * 4 + 1, none⟩ = some (.string t.s) ∧ W.cell? ⟨ba, oa + j * 4 + 2, none⟩ = some (.int .i64 t.n) ∧ W.cell? ⟨ba, oa + j * 4 + 3, none⟩ = some (.slice uA t.l.length uc) ∧ W.cell? ⟨bb, ob + j * 4, none⟩ = some (.int .u8 t'.k) ∧ W.cell? ⟨bb, ob + j * 4 + 1, none⟩ = some (.string t'.s) ∧ W.cell? ⟨bb, ob + j * 4 + 2, none⟩ = some (.int .i64 t'.n) ∧ W.cell? ⟨bb, ob + j * 4 + 3, none⟩ = some (.slice uA' t'.l.length uc') ∧ Kd.tm.S W ok t.l (.slice uA t.l.length uc) ∧ Kd.tm.S W ok t'.l (.slice uA' t'.l.length uc') ∧ PS w ok w4.heap.size s l m (.slice rA l.length rc) (.slice qA m.length qc) (.slice (some ⟨ba, oa, none⟩) l.length c) (.slice (some ⟨bb, ob, none⟩) m.length c') W)) (by kernel_rfl) ?_ (fun hHeld => ?_)
                      · exact ⟨k0, k1, k2, k3, n0, n1, n2, n3, k4.below (Below.refl _ _).drew, n4.below (Below.refl _ _).drew, hP.then (Below.refl _ _).drew⟩
                      change wpAnyH _ .any _ _ _ 19 (Array.replicate 19 false) _ _
                      refine wpAnyH_take (i := 0) (oi := ⟨some 88, _, _, _, _, _⟩) (v := ?_) rfl (by kernel_rfl) (by kernel_rfl) (by kernel_rfl) (fun _ _ _ h => h) (Or.inl ⟨by rfl, ?_⟩) (by assumption) ?_
                      rotate_left
                      · (intro w hSw; (try dsimp only at hSw); go_simp; try (with_reducible rfl))
                      (try simp only [Act.put, List.setIfInBounds_toArray, List.set_cons_zero, List.set_cons_succ])
                      refine wpAnyH_take (i := 1) (oi := ⟨some 89, _, _, _, _, _⟩) (v := ?_) rfl (by kernel_rfl) (by kernel_rfl) (by kernel_rfl) (fun _ _ _ h => h) (Or.inl ⟨by rfl, ?_⟩) (by assumption) ?_
                      rotate_left
                      · (intro w hSw; (try dsimp only at hSw); go_simp; try (with_reducible rfl))
                      (try simp only [Act.put, List.setIfInBounds_toArray, List.set_cons_zero, List.set_cons_succ])
                      refine wpAnyH_take (i := 2) (oi := ⟨some 90, _, _, _, _, _⟩) (v := ?_) rfl (by kernel_rfl) (by kernel_rfl) (by kernel_rfl) (fun _ _ _ h => h) (Or.inl ⟨by rfl, ?_⟩) (by assumption) ?_
                      rotate_left
                      · (intro w hSw; (try dsimp only at hSw); go_simp; try (with_reducible rfl))
                      (try simp only [Act.put, List.setIfInBounds_toArray, List.set_cons_zero, List.set_cons_succ])
                      refine wpAnyH_take (i := 3) (oi := ⟨some 91, _, _, _, _, _⟩) (v := ?_) rfl (by kernel_rfl) (by kernel_rfl) (by kernel_rfl) (fun _ _ _ h => h) (Or.inl ⟨by rfl, ?_⟩) (by assumption) ?_
                      rotate_left
                      · (intro w hSw; (try dsimp only at hSw); go_simp; try (with_reducible rfl))
                      (try simp only [Act.put, List.setIfInBounds_toArray, List.set_cons_zero, List.set_cons_succ])
                      refine wpAnyH_take (i := 4) (oi := ⟨some 92, _, _, _, _, _⟩) (v := ?_) rfl (by kernel_rfl) (by kernel_rfl) (by kernel_rfl) (fun _ _ _ h => h) (Or.inl ⟨by rfl, ?_⟩) (by assumption) ?_
                      rotate_left
                      · (intro w hSw; (try dsimp only at hSw); go_simp; try (with_reducible rfl))
                      (try simp only [Act.put, List.setIfInBounds_toArray, List.set_cons_zero, List.set_cons_succ])
                      refine wpAnyH_take (i := 5) (oi := ⟨some 93, _, _, _, _, _⟩) (v := ?_) rfl (by kernel_rfl) (by kernel_rfl) (by kernel_rfl) (fun _ _ _ h => h) (Or.inl ⟨by rfl, ?_⟩) (by assumption) ?_
                      rotate_left
                      · (intro w hSw; (try dsimp only at hSw); go_simp; try (with_reducible rfl))
                      (try simp only [Act.put, List.setIfInBounds_toArray, List.set_cons_zero, List.set_cons_succ])
                      refine wpAnyH_take (i := 6) (oi := ⟨some 94, _, _, _, _, _⟩) (v := ?_) rfl (by kernel_rfl) (by kernel_rfl) (by kernel_rfl) (fun _ _ _ h => h) (Or.inl ⟨by rfl, ?_⟩) (by assumption) ?_
                      rotate_left
                      · (intro w hSw; (try dsimp only at hSw); go_simp; try (with_reducible rfl))
                      (try simp only [Act.put, List.setIfInBounds_toArray, List.set_cons_zero, List.set_cons_succ])
                      refine wpAnyH_take (i := 7) (oi := ⟨some 95, _, _, _, _, _⟩) (v := ?_) rfl (by kernel_rfl) (by kernel_rfl) (by kernel_rfl) (fun _ _ _ h => h) (Or.inl ⟨by rfl, ?_⟩) (by assumption) ?_
                      rotate_left
                      · (intro w hSw; (try dsimp only at hSw); go_simp; try (with_reducible rfl))
                      (try simp only [Act.put, List.setIfInBounds_toArray, List.set_cons_zero, List.set_cons_succ])
                      refine wpAnyH_take (i := 8) (oi := ⟨some 96, _, _, _, _, _⟩) (v := ?_) rfl (by kernel_rfl) (by kernel_rfl) (by kernel_rfl) (fun _ _ _ h => h) (Or.inl ⟨by rfl, ?_⟩) (by assumption) ?_
                      rotate_left
                      · (intro w hSw; (try dsimp only at hSw); go_simp; try (with_reducible rfl))
                      (try simp only [Act.put, List.setIfInBounds_toArray, List.set_cons_zero, List.set_cons_succ])
                      refine wpAnyH_take (i := 9) (oi := ⟨some 97, _, _, _, _, _⟩) (v := ?_) rfl (by kernel_rfl) (by kernel_rfl) (by kernel_rfl) (fun _ _ _ h => h) (Or.inl ⟨by rfl, ?_⟩) (by assumption) ?_
                      rotate_left
                      · (intro w hSw; (try dsimp only at hSw); go_simp; try (with_reducible rfl))
                      (try simp only [Act.put, List.setIfInBounds_toArray, List.set_cons_zero, List.set_cons_succ])
                      refine wpAnyH_take (i := 10) (oi := ⟨some 98, _, _, _, _, _⟩) (v := ?_) rfl (by kernel_rfl) (by kernel_rfl) (by kernel_rfl) (fun _ _ _ h => h) (Or.inl ⟨by rfl, ?_⟩) (by assumption) ?_
                      rotate_left
                      · (intro w hSw; (try dsimp only at hSw); go_simp; try (with_reducible rfl))
                      (try simp only [Act.put, List.setIfInBounds_toArray, List.set_cons_zero, List.set_cons_succ])
                      refine wpAnyH_take (i := 11) (oi := ⟨some 99, _, _, _, _, _⟩) (v := ?_) rfl (by kernel_rfl) (by kernel_rfl) (by kernel_rfl) (fun _ _ _ h => h) (Or.inl ⟨by rfl, ?_⟩) (by assumption) ?_
                      rotate_left
                      · (intro w hSw; (try dsimp only at hSw); go_simp; try (with_reducible rfl))
                      (try simp only [Act.put, List.setIfInBounds_toArray, List.set_cons_zero, List.set_cons_succ])
                      refine wpAnyH_take (i := 12) (oi := ⟨some 100, _, _, _, _, _⟩) (v := ?_) rfl (by kernel_rfl) (by kernel_rfl) (by kernel_rfl) (fun _ _ _ h => h) (Or.inl ⟨by rfl, ?_⟩) (by assumption) ?_
                      rotate_left
                      · (intro w hSw; (try dsimp only at hSw); go_simp; try (with_reducible rfl))
                      (try simp only [Act.put, List.setIfInBounds_toArray, List.set_cons_zero, List.set_cons_succ])
                      refine wpAnyH_take (i := 13) (oi := ⟨some 101, _, _, _, _, _⟩) (v := ?_) rfl (by kernel_rfl) (by kernel_rfl) (by kernel_rfl) (fun _ _ _ h => h) (Or.inl ⟨by rfl, ?_⟩) (by assumption) ?_
                      rotate_left
                      · (intro w hSw; (try dsimp only at hSw); go_simp; try (with_reducible rfl))
                      (try simp only [Act.put, List.setIfInBounds_toArray, List.set_cons_zero, List.set_cons_succ])
                      refine wpAnyH_take (i := 14) (oi := ⟨some 102, _, _, _, _, _⟩) (v := ?_) rfl (by kernel_rfl) (by kernel_rfl) (by kernel_rfl) (fun _ _ _ h => h) (Or.inl ⟨by rfl, ?_⟩) (by assumption) ?_
                      rotate_left
                      · (intro w hSw; (try dsimp only at hSw); go_simp; try (with_reducible rfl))
                      (try simp only [Act.put, List.setIfInBounds_toArray, List.set_cons_zero, List.set_cons_succ])
                      refine wpAnyH_take (i := 15) (oi := ⟨some 103, _, _, _, _, _⟩) (v := ?_) rfl (by kernel_rfl) (by kernel_rfl) (by kernel_rfl) (fun _ _ _ h => h) (Or.inl ⟨by rfl, ?_⟩) (by assumption) ?_
                      rotate_left
                      · (intro w hSw; (try dsimp only at hSw); go_simp; try (with_reducible rfl))
                      (try simp only [Act.put, List.setIfInBounds_toArray, List.set_cons_zero, List.set_cons_succ])
                      refine wpAnyH_ready (rs := [16]) (by kernel_rfl) (by simp) ?_
                      refine AllReadyH.cons (o := ⟨some 104, _, _, _, _, _⟩) rfl (fun K hK => ?_) AllReadyH.nil
                      go_simp
                      have hq := tSame_c t t' _ _ _ _ _ ⟨_, rfl, hHeld.2.2.2.2.2.2.2.2.1⟩ ⟨_, rfl, hHeld.2.2.2.2.2.2.2.2.2.1⟩
                      refine hq.mono ?_
                      clear hq
                      rintro e w9 ⟨rfl, hb9⟩
                      go_wp2_with fail
                      refine hK.out _ _ (by obtain ⟨q0, q1, q2, q3, q4, q5, q6, q7, q8, q9, qR⟩ := hHeld; exact ⟨held_cell hb9 q0, held_cell hb9 q1, held_cell hb9 q2, held_cell hb9 q3, held_cell hb9 q4, held_cell hb9 q5, held_cell hb9 q6, held_cell hb9 q7, q8.below hb9, q9.below hb9, qR.then hb9⟩) (fun hHeld => ?_)
                      clear hK K
                      (try simp only [Act.put, List.setIfInBounds_toArray, List.set_cons_zero, List.set_cons_succ])
                      refine wpAnyH_take (i := 17) (oi := ⟨some 105, _, _, _, _, _⟩) (v := ?_) rfl (by kernel_rfl) (by kernel_rfl) (by kernel_rfl) (fun _ _ _ h => h) (Or.inl ⟨by rfl, ?_⟩) (by assumption) ?_
                      rotate_left
                      · (intro w hSw; (try dsimp only at hSw); go_simp; try (with_reducible rfl))
                      (try simp only [Act.put, List.setIfInBounds_toArray, List.set_cons_zero, List.set_cons_succ])
                      refine wpAnyH_take (i := 18) (oi := ⟨some 13, _, _, _, _, _⟩) (v := ?_) rfl (by kernel_rfl) (by kernel_rfl) (by kernel_rfl) (fun _ _ _ h => h) (Or.inl ⟨by rfl, ?_⟩) (by assumption) ?_
                      rotate_left
                      · (intro w hSw; (try dsimp only at hSw); go_simp; try (with_reducible rfl))
                      (try simp only [Act.put, List.setIfInBounds_toArray, List.set_cons_zero, List.set_cons_succ])
                      refine wpAnyH_done (by kernel_rfl) ?_ _
                      go_wp2
                      all_goals
                        refine ⟨⟨j + 1, by omega, by go_num, ?_, ?_, ?_, ?_, ?_, hHeld.2.2.2.2.2.2.2.2.2.2⟩, by simp [intOf]; omega⟩
                        · have h6 := h1.out; congr 1; omega
                        · have h6 := h2.out; congr 1; omega
                        · first | (rw [h3.out, ← Bool.and_assoc, HGG.out]; done) | (rw [h3.out, ← Bool.and_assoc, HGG.out]; rfl) | (rw [h3.out, ← Bool.and_assoc, HGG.out]; simp) | simp
                        · first | (rw [h4.out]; done) | (rw [h4.out]; rfl) | (rw [h4.out]; simp)
                        · first | (rw [HNT.out]; done) | (rw [HNT.out]; rfl) | (rw [HNT.out]; simp)
              · have HF : Hid (l.take j = l) := Lib.hid (List.take_of_length_le (by omega))
                rw [HF.out]
                have HE : Hid ((((l.length : Int) == m.length) && eqbL l (m.take j)) = eqbL l m) := Lib.hid (by
                  by_cases hlm : (l.length : Int) = m.length
                  · have : ((l.length : Int) == m.length) = true := by simpa using hlm
                    rw [this, Bool.true_and, List.take_of_length_le (by omega)]
                  · have : ((l.length : Int) == m.length) = false := by simpa using hlm
                    rw [this, Bool.false_and, eqbL_length (by omega)])
                rw [HE.out]
                have hz4 : Tm.siz ⟨4, s, 0, l⟩ ≤ 1000000 := by simp only [Tm.siz]; omega
                have HS1 := Lib.hid (fun W (hW : PS w ok w4.heap.size s l m (.slice rA l.length rc) (.slice qA m.length qc) (.slice A l.length c) (.slice A' m.length c') W) => termSize_c ⟨4, s, 0, l⟩ _ W _ hW.t.tmv hz4)
                have HS2 := Lib.hid (fun W (hW : PS w ok w4.heap.size s l m (.slice rA l.length rc) (.slice qA m.length qc) (.slice A l.length c) (.slice A' m.length c') W) => termDepth_c ⟨4, s, 0, l⟩ _ W _ hW.t.tmv hz4)
                have HS3 := Lib.hid (fun W (hW : PS w ok w4.heap.size s l m (.slice rA l.length rc) (.slice qA m.length qc) (.slice A l.length c) (.slice A' m.length c') W) => Good_c ⟨4, s, 0, l⟩ _ W _ hW.t.tmv HW4.out)
                have HS4 := Lib.hid (fun W (hW : PS w ok w4.heap.size s l m (.slice rA l.length rc) (.slice qA m.length qc) (.slice A l.length c) (.slice A' m.length c') W) => Ground_c ⟨4, s, 0, l⟩ _ W _ hW.t.tmv hz4)
                have HS5 := Lib.hid (fun W (hW : PS w ok w4.heap.size s l m (.slice rA l.length rc) (.slice qA m.length qc) (.slice A l.length c) (.slice A' m.length c') W) => tSame_c ⟨4, s, 0, l⟩ ⟨4, s, 0, m⟩ W _ _ _ _ hW.t.tmv hW.o.tmv)
                have HS6 := Lib.hid (fun (W : World) (B : Nat) (hBl : W.heap[B]? = some (Obj.cells #[.int .u8 4, .string s, .int .i64 0, .slice rA l.length rc] 26 (0, 0))) (hW : PS w ok w4.heap.size s l m (.slice rA l.length rc) (.slice qA m.length qc) (.slice A l.length c) (.slice A' m.length c') W) => Vars_s [⟨4, s, 0, l⟩] _ W _ (lit1_at (t := ⟨4, s, 0, l⟩) hBl hW.t.args) (by simp [sizL]; omega))
                have HS7 := Lib.hid (fun W (hW : PS w ok w4.heap.size s l m (.slice rA l.length rc) (.slice qA m.length qc) (.slice A l.length c) (.slice A' m.length c') W) => Vars_s l _ W _ hW.l (by omega))
                rw [show ((Tm.siz ⟨4, s, 0, l⟩ : Nat) : Int) = 1 + (sizL l : Int) by simp only [Tm.siz]; omega] at HS1
                rw [show ((Tm.dep ⟨4, s, 0, l⟩ : Nat) : Int) = 1 + (depL l : Int) by simp only [Tm.dep]; omega] at HS2
                rw [HX1.out, HGG0.out] at HS3
                rw [show decide (Tm.occ ⟨4, s, 0, l⟩ = []) = groundL l by rw [groundL_iff]; simp [Tm.occ]] at HS4
                rw [show Tm.eqb ⟨4, s, 0, l⟩ ⟨4, s, 0, m⟩ = eqbL l m by simp [Tm.eqb]] at HS5
                rw [show occL [⟨4, s, 0, l⟩] = occL l by simp [occL, Tm.occ]] at HS6
                have HNU := Lib.hid (fun X v v' W (h : (Kd.int .i64).S W (fun _ => True) X v) (h' : (Kd.int .i64).S W (fun _ => True) X v') => Numbers_yes X v v' W _ _ h h')
                have hdd : decide ((1 + depL l : Nat) ≤ 64) = decide (1 + (depL l : Int) ≤ 64) := by rw [decide_eq_decide]; omega
                rw [hdd] at HS3
                generalize dd (occL l) = X at HS6 HS7
                generalize eqbL l m = e at HS5 ⊢
                generalize groundL l = q at HS4 ⊢
                generalize (sizL l : Int) = zz at HS1 ⊢
                generalize (depL l : Int) = zd at HS2 HS3 ⊢
                generalize (false && goodL l) = g at HS3 ⊢
                have m1 : Hid (0 = 0) := Lib.hid rfl
                have hee : ∀ b : Bool, (b == b) = true := fun b => by cases b <;> rfl
                obtain ⟨c0, c1, c2, c3, -⟩ := hP.t.held
                obtain ⟨o0, o1, o2, o3, -⟩ := hP.o.held
                clear hdd
                cases g <;> (try by_cases h64 : 1 + zd ≤ 64)
                all_goals
                  go_wp2_with (first
                    | (go_at_call 26; refine (HS1.out _ hP).mono ?_; clear HS1; rintro e u1 ⟨rfl, hu⟩; replace hP := hP.then hu; obtain ⟨c0, c1, c2, c3, -⟩ := hP.t.held; obtain ⟨o0, o1, o2, o3, -⟩ := hP.o.held; clear hu)
                    | (go_at_call 28; refine (HS2.out _ hP).mono ?_; clear HS2; rintro e u1 ⟨rfl, hu⟩; replace hP := hP.then hu; obtain ⟨c0, c1, c2, c3, -⟩ := hP.t.held; obtain ⟨o0, o1, o2, o3, -⟩ := hP.o.held; clear hu)
                    | (go_at_call 24; refine (HS3.out _ hP).mono ?_; clear HS3; rintro e u1 ⟨rfl, hu⟩; replace hP := hP.then hu; obtain ⟨c0, c1, c2, c3, -⟩ := hP.t.held; obtain ⟨o0, o1, o2, o3, -⟩ := hP.o.held; clear hu)
                    | (go_at_call 23; refine (HS4.out _ hP).mono ?_; clear HS4; rintro e u1 ⟨rfl, hu⟩; replace hP := hP.then hu; obtain ⟨c0, c1, c2, c3, -⟩ := hP.t.held; obtain ⟨o0, o1, o2, o3, -⟩ := hP.o.held; clear hu)
                    | (go_at_call 31; refine (HS5.out _ hP).mono ?_; clear HS5; rintro e u1 ⟨rfl, hu⟩; replace hP := hP.then hu; obtain ⟨c0, c1, c2, c3, -⟩ := hP.t.held; obtain ⟨o0, o1, o2, o3, -⟩ := hP.o.held; clear hu)
                    | (go_at_call 20; have hx := m1.out; clear hx m1; refine (HS6.out _ _ (heap_at _ _ _ rfl) (hP.then ((Below.refl _ _).alloc (Nat.le_refl _) _))).mono ?_; clear HS6; rintro e u2 ⟨⟨xA, xc, rfl, hX⟩, hu⟩; replace hP := (hP.then ((Below.refl _ _).alloc (Nat.le_refl _) _)).then hu; clear hu)
                    | (go_at_call 20; refine (HS7.out _ hP).mono ?_; clear HS7; rintro e u3 ⟨⟨yA, yc, rfl, hY⟩, hu⟩; replace hP := hP.then hu; replace hX := hX.below hu; clear hu)
                    | (go_at_call 21; refine (HNU.out _ _ _ _ hX hY).mono ?_; clear HNU; rintro e u4 ⟨rfl, hu⟩; replace hP := hP.then hu; clear hu)
                    | (go_at_call 14; refine (wakes_c _).mono ?_; rintro e u5 ⟨rfl, hu⟩; replace hP := hP.then hu; clear hu))
                  all_goals first
                    | (go_ret; exact ⟨rfl, hP.t.below⟩)
end Go.Proofs.Ytgoeglahmlpmeaa

/- Walks of layer 1: is a term good; are two alike: by the program's own recursions. Conditions: the arguments read. -/
import Derived.Test.YtgoeglahmlpmeaaWa
set_option linter.unusedVariables false
set_option linter.unusedSimpArgs false
namespace Go.Proofs.Ytgoeglahmlpmeaa
open Go.RowKit

theorem idxT_c (g : Nat) (lb : Array Value) (eg : ∀ args w, (callFunc g args).run Try.prog w = .ok (.enter g args) w) (p : Tm → Bool) (l : List Tm) (v : Value) (w : World) (ok : Nat → Prop) (hv : Kd.tm.S w ok l v)
    (hp : ∀ (j : Nat) (h : j < l.length) (W : World) (u : Value), Below w.heap.size w W → TmV W ok l[j] u → Calls Try.prog g (#[u] ++ lb) W fun e w' => e = .returned (.bool (p l[j])) ∧ Below W.heap.size W w') :
    Calls Try.prog 84 #[v, .func (.func g) #[] lb] w fun e w' => (∃ i : Int, e = .returned (.int .i64 i) ∧ (decide (0 ≤ i) = l.any p) ∧ -1 ≤ i) ∧ Below w.heap.size w w' := by
  obtain ⟨A, c, rfl, hl, hc, hA⟩ := hv
  unfold maxLen at hc
  go_enter Try.func84, Try.ntmps84
  go_wp2
  go_loopw [8] (fun i wr => ∃ j : Nat, j ≤ l.length ∧ i = .int .i64 j ∧ Hid ((l.take j).any p = false) ∧ Below w.heap.size w wr) (fun i _ => l.length - (intOf i).toNat)
  case atStart => exact ⟨0, Nat.zero_le _, rfl, Lib.hid (by simp), Below.refl _ _⟩
  case round =>
    obtain ⟨j, hj, rfl, hn, hb⟩ := hrel
    by_cases hlt : j < l.length
    · obtain ⟨b, o, u, rfl, hok, hlo, h0, h1, h2, h3, h4⟩ := tm_elem hA hlt
      have g0 := cell_below hb h0 hlo
      have g1 := cell_below hb h1 hlo
      have g2 := cell_below hb h2 hlo
      have g3 := cell_below hb h3 hlo
      have k4 := h4.below hb
      have HC := Lib.hid (hp j hlt wr _ hb ⟨u, rfl, k4⟩)
      have hst : Hid ((l.take (j + 1)).any p = p l[j]) := Lib.hid (by rw [take_succ_at l hlt, List.any_append, hn.out]; simp)
      have hyes : Hid (p l[j] = true → l.any p = true) := Lib.hid (fun h => List.any_eq_true.2 ⟨_, List.getElem_mem hlt, h⟩)
      clear hA h0 h1 h2 h3 h4 hp hn
      cases hq : p l[j] with
      | true =>
        go_wp2_with (go_at_fn g; refine HC.out.mono ?_; rw [hq]; rintro e w1 ⟨rfl, hb1⟩)
        go_ret
        exact ⟨⟨j, rfl, by rw [hyes.out hq]; simp, by omega⟩, below_then hb hb.size hb1⟩
      | false =>
        go_wp2_with (go_at_fn g; refine HC.out.mono ?_; rw [hq]; rintro e w1 ⟨rfl, hb1⟩)
        go_roundw
        case rel => exact ⟨j + 1, by omega, by go_num, Lib.hid (hst.out.trans hq), below_then hb hb.size hb1⟩
        case measure => simp [intOf]; omega
    · have hx := hn.out
      rw [List.take_of_length_le (by omega)] at hx
      have HX := Lib.hid hx
      clear hx hn hA hp
      go_wp2
      go_ret
      exact ⟨⟨-1, rfl, by rw [HX.out]; rfl, by omega⟩, hb⟩
theorem hasT_c (g : Nat) (lb : Array Value) (eg : ∀ args w, (callFunc g args).run Try.prog w = .ok (.enter g args) w) (p : Tm → Bool) (l : List Tm) (v : Value) (w : World) (ok : Nat → Prop) (hv : Kd.tm.S w ok l v)
    (hp : ∀ (j : Nat) (h : j < l.length) (W : World) (u : Value), Below w.heap.size w W → TmV W ok l[j] u → Calls Try.prog g (#[u] ++ lb) W fun e w' => e = .returned (.bool (p l[j])) ∧ Below W.heap.size W w') :
    Calls Try.prog 75 #[v, .func (.func g) #[] lb] w fun e w' => e = .returned (.bool (l.any p)) ∧ Below w.heap.size w w' := by
  have H := Lib.hid (idxT_c g lb eg p l v w ok hv hp)
  clear hp
  go_enter Try.func75, Try.ntmps75
  go_wp2_with (go_at_call 84; refine H.out.mono ?_; rintro e w1 ⟨⟨i, rfl, hi, hlo⟩, hb1⟩; have HI := Lib.hid hi; clear hi)
  go_ret
  exact ⟨ret_bool (by rw [← HI.out]), hb1⟩

/-- Good, to a depth. -/
def Tm.gd (t : Tm) (d : Nat) : Bool := decide (t.dep ≤ d) && t.shp
theorem depL_le_iff {d : Nat} : ∀ {l : List Tm}, depL l ≤ d ↔ ∀ t ∈ l, t.dep ≤ d
  | [] => by simp [depL]
  | t :: ts => by simp [depL, Nat.max_le, depL_le_iff (l := ts)]
theorem shpL_iff : ∀ {l : List Tm}, shpL l = true ↔ ∀ t ∈ l, t.shp = true
  | [] => by simp [shpL]
  | t :: ts => by simp [shpL, shpL_iff (l := ts)]
theorem gd_any (l : List Tm) (d : Nat) : (!(l.any fun a => !(a.gd d))) = (decide (depL l ≤ d) && shpL l) := by
  rw [Bool.eq_iff_iff, Bool.and_eq_true, decide_eq_true_eq, depL_le_iff, shpL_iff]
  simp only [Bool.not_eq_true', List.any_eq_false, Bool.not_eq_true, Bool.not_eq_false', Tm.gd, Bool.and_eq_true, decide_eq_true_eq]
  have e : ∀ t : Tm, ((decide (t.dep ≤ d) && t.shp) = false → False) ↔ (t.dep ≤ d ∧ t.shp = true) := fun t => by
    cases h1 : t.shp <;> simp
  constructor
  · intro h; exact ⟨fun t ht => ((e t).1 (h t ht)).1, fun t ht => ((e t).1 (h t ht)).2⟩
  · intro h t ht; exact (e t).2 ⟨h.1 t ht, h.2 t ht⟩
theorem gd_eq (k : Int) (s : ByteArray) (n : Int) (l : List Tm) (d : Nat) : Tm.gd ⟨k, s, n, l⟩ (d + 1) = (nodeOk k s n l.length && (decide ((l.length : Int) = 0) || !(l.any fun a => !(a.gd d)))) := by
  rw [gd_any, Tm.gd, shp_eq]
  simp only [Tm.dep, Nat.add_le_add_iff_right]
  by_cases h0 : l = []
  · subst h0; simp [depL, shpL]
  · have h1 : decide ((l.length : Int) = 0) = false := by
      rw [decide_eq_false_iff_not]; intro h; exact h0 (List.eq_nil_of_length_eq_zero (by omega))
    rw [h1, Bool.false_or]
    cases decide (depL l ≤ d) <;> cases shpL l <;> cases nodeOk k s n l.length <;> rfl
theorem m0_eq (m : Nat) : ((m : Int) == 0) = decide (m = 0) := by rw [Bool.eq_iff_iff, beq_iff_eq, decide_eq_true_eq]; omega
theorem gd_zero (t : Tm) : t.gd 0 = false := by cases t; simp [Tm.gd, Tm.dep]
theorem gd_good (t : Tm) : t.gd 64 = t.good := rfl

theorem good1_c (d : Nat) (t : Tm) (v : Value) (B : Nat) (w : World) (ok : Nat → Prop) (hv : TmV w ok t v) (hB : w.cell? ⟨B, 0, none⟩ = some (.int .i64 ((d : Int) + 1))) (hd : d ≤ 64)
    (H : ∀ (v : Value) (w : World), TmV w ok t v → Calls Try.prog 49 #[v, .int .i64 d] w fun e w' => e = .returned (.bool (t.gd d)) ∧ Below w.heap.size w w') :
    Calls Try.prog 76 #[v, .pointer (some ⟨B, 0, none⟩)] w fun e w' => e = .returned (.bool (!t.gd d)) ∧ Below w.heap.size w w' := by
  obtain ⟨u, rfl, A, c, rfl, hl, hc, hA⟩ := hv
  have HG := Lib.hid (fun W (hW : Below w.heap.size w W) => H _ W ⟨_, rfl, (show Kd.tm.S w ok t.l (.slice A t.l.length c) from ⟨A, c, rfl, hl, hc, hA⟩).below hW⟩)
  have hlt := cell_lt hB
  clear hA H
  go_enter Try.func76, Try.ntmps76
  have hne : ¬ B = w.heap.size := by omega
  go_wp2_with (go_at_call 49; refine (HG.out _ ((Below.refl _ w).alloc (Nat.le_refl _) _)).mono ?_; rintro e w1 ⟨rfl, hb1⟩)
  go_ret
  exact ⟨rfl, ((Below.refl _ w).alloc (Nat.le_refl _) _).trans (hb1.mono (by simp))⟩
set_option maxHeartbeats 1600000 in
theorem good_c (t : Tm) : ∀ (d : Nat) (v : Value) (w : World) (ok : Nat → Prop), d ≤ 64 → TmV w ok t v → t.Wf → Calls Try.prog 49 #[v, .int .i64 d] w fun e w' => e = .returned (.bool (t.gd d)) ∧ Below w.heap.size w w' := by
  refine Tm.ind (p := fun t => ∀ (d : Nat) (v : Value) (w : World) (ok : Nat → Prop), d ≤ 64 → TmV w ok t v → t.Wf → Calls Try.prog 49 #[v, .int .i64 d] w fun e w' => e = .returned (.bool (t.gd d)) ∧ Below w.heap.size w w') ?_ t
  intro t ih d v w ok hd hv hz
  obtain ⟨u, rfl, hS⟩ := hv
  cases d with
  | zero =>
    have HX := Lib.hid (gd_zero t)
    obtain ⟨A, c, rfl, hl, hc, hA⟩ := hS
    clear ih hA hz
    go_enter Try.func49, Try.ntmps49
    go_wp2
    go_ret
    exact ⟨ret_bool HX.out.symm, ((Below.refl _ w).alloc (Nat.le_refl _) _).alloc (by simp) _⟩
  | succ d =>
    obtain ⟨k, s, n, l⟩ := t
    simp only [Tm.Wf] at hS ih hz ⊢
    obtain ⟨-, -, hsz0, hwf⟩ := hz
    have HX := Lib.hid (gd_eq k s n l d)
    have HN := Lib.hid (fun W => name_c s W hsz0)
    have hst : ∀ O O' : Obj, Below w.heap.size w ((w.alloc O).alloc O') := fun O O' => ((Below.refl _ w).alloc (Nat.le_refl _) O).alloc (by simp) O'
    have HT := Lib.hid (fun (W : World) (hW : Below w.heap.size w W) (B : Nat) (hB : W.cell? ⟨B, 0, none⟩ = some (.int .i64 ((d : Int) + 1))) => hasT_c 76 #[.pointer (some ⟨B, 0, none⟩)] (enters_of Try.func76 (by kernel_rfl) rfl) (fun a => !(a.gd d)) l u W ok (hS.below hW)
      (fun j hj W1 u1 hW1 hu1 => good1_c d l[j] u1 B W1 ok hu1 (cell_below hW1 hB (cell_lt hB)) (by omega) (fun v' w' hv' => ih l[j] (List.getElem_mem hj) d v' w' ok (by omega) hv' (WfL_at hwf hj))))
    obtain ⟨A, c, rfl, hl, hc, hA⟩ := hS
    generalize (l.any fun a => !(a.gd d)) = X at HX HT
    generalize Tm.gd ⟨k, s, n, l⟩ (d + 1) = Y at HX ⊢
    clear ih hA hsz0 hwf
    generalize l.length = m at hl HX HT ⊢
    have hdp : (((d : Int) + 1) == 0) = false := by rw [beq_eq_false_iff_ne]; omega
    by_cases k1 : k = 1
    · subst k1
      go_enter Try.func49, Try.ntmps49
      go_wp2
      all_goals go_ret
      all_goals exact ⟨ret_bool (by rw [HX.out]; go_light; simp [nodeOk, m0_eq, *] <;> first | (cases decide (m = 0) <;> simp; done) | (intros; omega) | (rw [Bool.eq_iff_iff]; simp; done) | (cases X <;> simp_all; done) | (intros; simp_all)), hst _ _⟩
    · by_cases k2 : k = 2
      · subst k2
        go_enter Try.func49, Try.ntmps49
        go_wp2
        all_goals go_ret
        all_goals exact ⟨ret_bool (by rw [HX.out]; go_light; simp [nodeOk, m0_eq, *] <;> first | (cases decide (m = 0) <;> simp; done) | (intros; omega) | (rw [Bool.eq_iff_iff]; simp; done) | (cases X <;> simp_all; done) | (intros; simp_all)), hst _ _⟩
      · by_cases k3 : k = 3
        · subst k3
          by_cases n0 : n = 0
          · subst n0
            go_enter Try.func49, Try.ntmps49
            go_wp2_with (go_at_call 74; refine (HN.out _).mono ?_; rintro e w1 ⟨rfl, hb1⟩)
            all_goals go_ret
            all_goals exact ⟨ret_bool (by rw [HX.out]; go_light; simp [nodeOk, m0_eq, *] <;> first | (cases decide (m = 0) <;> simp; done) | (intros; omega) | (rw [Bool.eq_iff_iff]; simp; done) | (cases X <;> simp_all; done) | (intros; simp_all)), by first | exact hst _ _ | exact below_then (hst _ _) (by simp; omega) hb1⟩
          · have n0' : (n == 0) = false := by simpa using n0
            go_enter Try.func49, Try.ntmps49
            go_wp2
            all_goals go_ret
            all_goals exact ⟨ret_bool (by rw [HX.out]; go_light; simp [nodeOk, m0_eq, *] <;> first | (cases decide (m = 0) <;> simp; done) | (intros; omega) | (rw [Bool.eq_iff_iff]; simp; done) | (cases X <;> simp_all; done) | (intros; simp_all)), hst _ _⟩
        · have k1' : (k == 1) = false := by simpa using k1
          have k2' : (k == 2) = false := by simpa using k2
          have k3' : (k == 3) = false := by simpa using k3
          by_cases k4 : k = 4
          · subst k4
            by_cases n0 : n = 0
            · subst n0
              by_cases hm : 1 ≤ m ∧ m ≤ 16
              · obtain ⟨hm1, hm2⟩ := hm
                cases hnm : nameOk s with
                | true =>
                  rw [hnm] at HN
                  have HNO : Hid (nodeOk 4 s 0 (m : Int) = true) := Lib.hid (by simp [nodeOk, hnm]; omega)
                  have HM0 : Hid (decide ((m : Int) = 0) = false) := Lib.hid (by rw [decide_eq_false_iff_not]; omega)
                  go_enter Try.func49, Try.ntmps49
                  go_wp2_with (first | (go_at_call 74; refine (HN.out _).mono ?_; rintro e w1 ⟨rfl, hb1⟩; have hB1 := below_then (hst (.cells #[.int .u8 4, .string s, .int .i64 0, .slice A m c] 26) (.cells #[.int .i64 ((d : Int) + 1)] 3)) (by simp; omega) hb1; have d3 := cell_below hb1 (show World.cell? _ ⟨w.heap.size, 3, none⟩ = some (.slice A m c) by simp) (by simp; omega); have d0 := cell_below hb1 (show World.cell? _ ⟨w.heap.size + 1, 0, none⟩ = some (.int .i64 ((d : Int) + 1)) by simp) (by simp)) | (go_at_call 75; refine (HT.out _ hB1 (w.heap.size + 1) d0).mono ?_; rintro e w2 ⟨rfl, hb2⟩))
                  all_goals go_ret
                  all_goals exact ⟨ret_bool (by rw [HX.out, HNO.out, HM0.out]; simp), below_then hB1 hB1.size hb2⟩
                | false =>
                  rw [hnm] at HN
                  go_enter Try.func49, Try.ntmps49
                  go_wp2_with (go_at_call 74; refine (HN.out _).mono ?_; rintro e w1 ⟨rfl, hb1⟩)
                  all_goals go_ret
                  all_goals exact ⟨ret_bool (by rw [HX.out]; simp [nodeOk, hnm]), below_then (hst _ _) (by simp; omega) hb1⟩
              · have HNO : Hid (nodeOk 4 s 0 (m : Int) = false) := Lib.hid (by
                  rcases Nat.lt_or_ge 0 m with h | h
                  · have h16 : ¬ (m : Int) ≤ 16 := by omega
                    simp [nodeOk, h16]
                  · obtain rfl : m = 0 := by omega
                    simp [nodeOk])
                go_enter Try.func49, Try.ntmps49
                go_wp2_with fail
                all_goals go_light
                all_goals try (exfalso; omega)
                all_goals go_ret
                all_goals exact ⟨ret_bool (by rw [HX.out, HNO.out]; rfl), hst _ _⟩
            · have n0' : (n == 0) = false := by simpa using n0
              go_enter Try.func49, Try.ntmps49
              go_wp2
              all_goals go_ret
              all_goals exact ⟨ret_bool (by rw [HX.out]; go_light; simp [nodeOk, m0_eq, *] <;> first | (cases decide (m = 0) <;> simp; done) | (intros; omega) | (rw [Bool.eq_iff_iff]; simp; done) | (cases X <;> simp_all; done) | (intros; simp_all)), hst _ _⟩
          · have k4' : (k == 4) = false := by simpa using k4
            go_enter Try.func49, Try.ntmps49
            go_wp2
            all_goals go_ret
            all_goals exact ⟨ret_bool (by rw [HX.out]; go_light; simp [nodeOk, m0_eq, *] <;> first | (cases decide (m = 0) <;> simp; done) | (intros; omega) | (rw [Bool.eq_iff_iff]; simp; done) | (cases X <;> simp_all; done) | (intros; simp_all)), hst _ _⟩
theorem Good_c (t : Tm) (v : Value) (w : World) (ok : Nat → Prop) (hv : TmV w ok t v) (hz : t.Wf) :
    Calls Try.prog 24 #[v] w fun e w' => e = .returned (.bool t.good) ∧ Below w.heap.size w w' := by
  have HG := Lib.hid (fun W (hW : Below w.heap.size w W) => good_c t 64 v W ok (Nat.le_refl _) (hv.below hW) hz)
  obtain ⟨u, rfl, A, c, rfl, hl, hc, hA⟩ := hv
  have hst : ∀ O : Obj, Below w.heap.size w (w.alloc O) := fun O => (Below.refl _ w).alloc (Nat.le_refl _) O
  clear hA hz
  go_enter Try.func24, Try.ntmps24
  go_wp2_with (go_at_call 49; refine (HG.out _ (hst _)).mono ?_; rintro e w1 ⟨rfl, hb1⟩)
  go_ret
  exact ⟨ret_bool (gd_good t), below_then (hst _) (by simp) hb1⟩

end Go.Proofs.Ytgoeglahmlpmeaa

/- Walks of layer 1's reference, second part: sizes, depths, names, shapes; how many nodes. Conditions: the arguments read; terms of at most a million nodes. -/
import Derived.Test.YtdflckjnpgbjlaaW1
import Derived.Deep.Light
set_option linter.unusedVariables false
set_option maxRecDepth 20000
set_option linter.unusedSimpArgs false
namespace Go.Proofs.Ytdflckjnpgbjlaa
open Go.RowKit

theorem V_c (n : Int) (w : World) (ok : Nat → Prop) :
    Calls Try.prog 25 #[.int .i64 n] w fun e w' => e = .returned (.agg #[.int .u8 1, .string ⟨#[]⟩, .int .i64 n, .slice none 0 0]) ∧ Below w.heap.size w w' := by
  go_enter Try.func25, Try.ntmps25
  go_wp2
  exact bodyPost_ret (v := .agg #[.int .u8 1, .string ⟨#[]⟩, .int .i64 n, .slice none 0 0]) (by simp [results, Try.results25, go_sem]) rfl ⟨rfl, (Below.refl _ _).alloc (Nat.le_refl _) _⟩
theorem I_c (n : Int) (w : World) (ok : Nat → Prop) :
    Calls Try.prog 56 #[.int .i64 n] w fun e w' => e = .returned (.agg #[.int .u8 2, .string ⟨#[]⟩, .int .i64 n, .slice none 0 0]) ∧ Below w.heap.size w w' := by
  go_enter Try.func56, Try.ntmps56
  go_wp2
  exact bodyPost_ret (v := .agg #[.int .u8 2, .string ⟨#[]⟩, .int .i64 n, .slice none 0 0]) (by simp [results, Try.results56, go_sem]) rfl ⟨rfl, (Below.refl _ _).alloc (Nat.le_refl _) _⟩
theorem A_c (s : ByteArray) (w : World) (ok : Nat → Prop) :
    Calls Try.prog 52 #[.string s] w fun e w' => e = .returned (.agg #[.int .u8 3, .string s, .int .i64 0, .slice none 0 0]) ∧ Below w.heap.size w w' := by
  go_enter Try.func52, Try.ntmps52
  go_wp2
  exact bodyPost_ret (v := .agg #[.int .u8 3, .string s, .int .i64 0, .slice none 0 0]) (by simp [results, Try.results52, go_sem]) rfl ⟨rfl, (Below.refl _ _).alloc (Nat.le_refl _) _⟩

theorem Depth_c (t : Tm) : ∀ (v : Value) (w : World) (ok : Nat → Prop), TmV w ok t v → t.siz ≤ 1000000 → Calls Try.prog 54 #[v] w fun e w' => e = .returned (.int .i64 t.dep) ∧ Below w.heap.size w w' := by
  refine Tm.ind (p := fun t => ∀ (v : Value) (w : World) (ok : Nat → Prop), TmV w ok t v → t.siz ≤ 1000000 → Calls Try.prog 54 #[v] w fun e w' => e = .returned (.int .i64 t.dep) ∧ Below w.heap.size w w') ?_ t
  intro t ih v w ok hv hz
  obtain ⟨u, rfl, A, c, rfl, hl, hc, hA⟩ := hv
  obtain ⟨k, s, n, l⟩ := t
  simp only [Tm.siz, Tm.dep] at hl hA ih hz ⊢
  unfold maxLen at hc
  have hdz := depL_le l
  go_enter Try.func54, Try.ntmps54
  go_wp2
  go_loopw [3, 4] (fun m i wr => ∃ j d : Nat, j ≤ l.length ∧ i = .int .i64 j ∧ m = .int .i64 d ∧ d ≤ 1000000 ∧ Hid (d = depL (l.take j)) ∧ Below (w.heap.size + 1) (w.alloc (.cells #[.int .u8 k, .string s, .int .i64 n, .slice A l.length c] 24)) wr) (fun _ i _ => l.length - (intOf i).toNat)
  case atStart => exact ⟨0, 0, Nat.zero_le _, rfl, rfl, by omega, Lib.hid (by simp [depL]), Below.refl _ _⟩
  case round =>
    obtain ⟨j, d, hj, rfl, rfl, hd, hdd, hb⟩ := hrel
    have hc3 : wr.cell? ⟨w.heap.size, 3, none⟩ = some (.slice A l.length c) := cell_below hb (by simp) (Nat.lt_succ_self _)
    have hb' : Below w.heap.size w wr := ((Below.refl _ w).alloc (Nat.le_refl _) _).trans (hb.mono (Nat.le_succ _))
    have hsz := hb.size
    simp only [World.size_alloc] at hsz
    by_cases hlt : j < l.length
    · obtain ⟨b, o, u, rfl, hok, hlo, h0, h1, h2, h3, h4⟩ := tm_elem hA hlt
      have g0 := cell_below hb' h0 hlo
      have g1 := cell_below hb' h1 hlo
      have g2 := cell_below hb' h2 hlo
      have g3 := cell_below hb' h3 hlo
      have k4 := h4.below hb'
      have hzj := siz_mem (List.getElem_mem hlt)
      have hdj := dep_le l[j]
      have HS := Lib.hid (ih l[j] (List.getElem_mem hlt) _ wr ok ⟨u, rfl, k4⟩ (by omega))
      clear hA h0 h1 h2 h3 h4 ih
      have hn' : Hid (max d l[j].dep = depL (l.take (j + 1))) := Lib.hid (by rw [take_succ_at l hlt, depL_append, hdd.out]; simp [depL])
      clear hdd
      go_wp2_with (go_at_call 54; refine HS.out.mono ?_; rintro e w1 ⟨rfl, hb1⟩)
      go_roundw
      case rel => exact ⟨j + 1, max d l[j].dep, by omega, by go_num, by first | rfl | (congr 1; split <;> omega), by omega, hn', hb.trans (hb1.mono hsz)⟩
      case measure => simp [intOf]; omega
    · clear hA ih
      have hx := hdd.out
      rw [List.take_of_length_le (by omega)] at hx
      have HX := Lib.hid hx
      clear hx hdd
      go_wp2
      go_ret
      exact ⟨ret_int (by rw [HX.out]; omega), hb'⟩

theorem Index_c (l : List Int) (n : Int) (v : Value) (w : World) (ok : Nat → Prop) (hv : (Kd.int .i64).S w ok l v) :
    Calls Try.prog 102 #[v, .int .i64 n] w fun e w' => (∃ i : Int, e = .returned (.int .i64 i) ∧ (decide (0 ≤ i) = decide (n ∈ l)) ∧ -1 ≤ i) ∧ Below w.heap.size w w' := by
  obtain ⟨A, c, rfl, hl, hc, hA⟩ := hv
  unfold maxLen at hc
  go_enter Try.func102, Try.ntmps102
  go_wp2
  go_loopw [8] (fun i wr => ∃ j : Nat, j ≤ l.length ∧ i = .int .i64 j ∧ n ∉ l.take j ∧ Below w.heap.size w wr) (fun i _ => l.length - (intOf i).toNat)
  case atStart => exact ⟨0, Nat.zero_le _, rfl, by simp, Below.refl _ _⟩
  case round =>
    obtain ⟨j, hj, rfl, hn, hb⟩ := hrel
    by_cases hlt : j < l.length
    · obtain ⟨b, o, rfl, hok, hlo, h0⟩ := int_elem hA hlt
      have g0 := cell_below hb h0 hlo
      clear hA h0
      by_cases he : (n == l[j]) = true
      · have : n ∈ l := by rw [beq_iff_eq] at he; rw [he]; exact List.getElem_mem hlt
        go_wp2
        go_ret
        exact ⟨⟨j, rfl, by simp [this], by omega⟩, hb⟩
      · have he' : (n == l[j]) = false := by simpa using he
        have hn' : n ∉ l.take (j + 1) := by
          rw [take_succ_at l hlt, List.mem_append, List.mem_singleton]
          rintro (h | h)
          · exact hn h
          · exact he (by rw [← h]; simp)
        clear he
        go_wp2
        go_roundw
        case rel => exact ⟨j + 1, by omega, by go_num, hn', hb⟩
        case measure => simp [intOf]; omega
    · clear hA
      rw [List.take_of_length_le (by omega)] at hn
      go_wp2
      go_ret
      exact ⟨⟨-1, rfl, by simp [hn], by omega⟩, hb⟩
theorem Contains_c (l : List Int) (n : Int) (v : Value) (w : World) (ok : Nat → Prop) (hv : (Kd.int .i64).S w ok l v) :
    Calls Try.prog 62 #[v, .int .i64 n] w fun e w' => e = .returned (.bool (decide (n ∈ l))) ∧ Below w.heap.size w w' := by
  have H := Index_c l n v w ok hv
  go_enter Try.func62, Try.ntmps62
  go_wp2_with (go_at_call 102; refine H.mono ?_; rintro e w1 ⟨⟨i, rfl, hi, hlo⟩, hb1⟩; have HI := Lib.hid hi; clear hi)
  go_ret
  exact ⟨ret_bool (by rw [← HI.out]), hb1⟩

def chOk (c : Nat) : Bool := decide ((32 ≤ c ∧ c ≤ 126) ∨ c = 9 ∨ c = 10)
theorem chOk_no {c : Nat} (h : ((c : Int) < 32 ∨ 126 < (c : Int)) ∧ ¬ (c : Int) = 9 ∧ ¬ (c : Int) = 10) : chOk c = false := by
  simp only [chOk, decide_eq_false_iff_not]; omega
theorem chOk_yes {c : Nat} (h : ((32 ≤ (c : Int)) ∧ (c : Int) ≤ 126) ∨ (c : Int) = 9 ∨ (c : Int) = 10) : chOk c = true := by
  simp only [chOk, decide_eq_true_eq]; omega
theorem nameOk_eq (s : ByteArray) : nameOk s = (decide (s.size ≤ 32) && s.data.toList.all fun c => chOk c.toNat) := rfl
theorem bytes_take {s : ByteArray} {j : Nat} (hj : j < s.size) : s.data.toList.take (j + 1) = s.data.toList.take j ++ [s[j]] := by
  rw [List.take_succ_eq_append_getElem (by simpa using hj)]; rfl
theorem Name_c (s : ByteArray) (w : World) (hs : s.size ≤ 140737488351232) :
    Calls Try.prog 50 #[.string s] w fun e w' => e = .returned (.bool (nameOk s)) ∧ Below w.heap.size w w' := by
  go_enter Try.func50, Try.ntmps50
  go_wp2
  go_loopw [3] (fun i wr => ∃ j : Nat, j ≤ s.size ∧ i = .int .i64 j ∧ Hid ((s.data.toList.take j).all (fun c => chOk c.toNat) = true) ∧ Below w.heap.size w wr) (fun i _ => s.size - (intOf i).toNat)
  case atStart => exact ⟨0, Nat.zero_le _, rfl, Lib.hid (by simp), Below.refl _ _⟩
  case round =>
    obtain ⟨j, hj, rfl, hn, hb⟩ := hrel
    by_cases hlt : j < s.size
    · have hch : Hid ((s.data.toList.take (j + 1)).all (fun c => chOk c.toNat) = chOk s[j].toNat) := Lib.hid (by rw [bytes_take hlt, List.all_append, hn.out]; simp)
      have hno : Hid (chOk s[j].toNat = false → nameOk s = false) := Lib.hid (by
        intro h
        rw [nameOk_eq]
        have : (s.data.toList.all fun c => chOk c.toNat) = false := by
          rw [List.all_eq_false]
          exact ⟨s[j], by simp [ByteArray.getElem_eq_getElem_data], by simp [h]⟩
        simp [this])
      have hc8 : s[j].toNat ≤ 255 := by have := s[j].toNat_lt; omega
      clear hn
      go_wp2
      all_goals first
        | (go_ret; exact ⟨ret_bool (hno.out (chOk_no (by go_light; (try simp only [bne_iff_ne, ne_eq, bne_eq_false_iff_eq] at *); omega))).symm, hb⟩)
        | (go_roundw
           case rel => exact ⟨j + 1, by omega, by go_num, Lib.hid (hch.out.trans (chOk_yes (by go_light; (try simp only [bne_iff_ne, ne_eq, bne_eq_false_iff_eq] at *); omega))), hb⟩
           case measure => simp [intOf]; omega)
    · have hx := hn.out
      rw [List.take_of_length_le (by simp; omega)] at hx
      have HX : Hid (nameOk s = decide ((s.size : Int) ≤ 32)) := Lib.hid (by rw [nameOk_eq, hx, Bool.and_true, decide_eq_decide]; omega)
      clear hx hn
      go_wp2
      go_ret
      exact ⟨ret_bool (by rw [HX.out]), hb⟩

/-- What is asked of a node, but for its arguments. -/
def nodeOk (k : Int) (s : ByteArray) (n : Int) (len : Int) : Bool :=
  if k = 1 then decide (0 ≤ n) && s.toList.isEmpty && decide (len = 0)
  else if k = 2 then s.toList.isEmpty && decide (len = 0)
  else if k = 3 then decide (n = 0) && decide (len = 0) && nameOk s
  else decide (k = 4) && decide (n = 0) && decide (0 < len) && decide (len ≤ 16) && nameOk s
theorem empty_iff (s : ByteArray) : s.toList.isEmpty = decide (s.size = 0) := by
  rw [ByteArray.toList_eq, Bool.eq_iff_iff, List.isEmpty_iff, decide_eq_true_eq]
  constructor
  · intro h; have := congrArg List.length h; simpa using this
  · intro h; apply List.eq_nil_of_length_eq_zero; simpa using h
theorem shp_eq (k : Int) (s : ByteArray) (n : Int) (l : List Tm) : Tm.shp ⟨k, s, n, l⟩ = (shpL l && nodeOk k s n l.length) := by
  have hl : decide (l = []) = decide ((l.length : Int) = 0) := by
    rw [decide_eq_decide]; constructor
    · rintro rfl; rfl
    · intro h; exact List.eq_nil_of_length_eq_zero (by omega)
  simp only [Tm.shp, nodeOk, empty_iff, hl]
  by_cases h0 : l = []
  · subst h0
    simp [shpL]
  · have : ¬ ((l.length : Int) = 0) := by intro h; exact h0 (List.eq_nil_of_length_eq_zero (by omega))
    simp only [this, decide_false, Bool.and_false, Bool.false_and]
    split
    · simp
    · split
      · simp
      · split
        · simp
        · have e : decide (0 < l.length ∧ l.length ≤ 16) = (decide (0 < (l.length : Int)) && decide ((l.length : Int) ≤ 16)) := by
            rw [Bool.eq_iff_iff]; simp; omega
          rw [e, Bool.and_comm (shpL l)]
          simp only [Bool.and_assoc]
theorem shpL_at_false : ∀ {l : List Tm} {j : Nat} (hj : j < l.length), l[j].shp = false → shpL l = false
  | t :: ts, 0, _, h => by simp only [List.getElem_cons_zero] at h; simp [shpL, h]
  | t :: ts, j + 1, hj, h => by
    simp only [List.getElem_cons_succ] at h
    simp [shpL, shpL_at_false (by simpa using hj) h]

theorem shape_c (t : Tm) : ∀ (v : Value) (w : World) (ok : Nat → Prop), TmV w ok t v → t.Wf → Calls Try.prog 55 #[v] w fun e w' => e = .returned (.bool t.shp) ∧ Below w.heap.size w w' := by
  refine Tm.ind (p := fun t => ∀ (v : Value) (w : World) (ok : Nat → Prop), TmV w ok t v → t.Wf → Calls Try.prog 55 #[v] w fun e w' => e = .returned (.bool t.shp) ∧ Below w.heap.size w w') ?_ t
  intro t ih v w ok hv hz
  obtain ⟨u, rfl, A, c, rfl, hl, hc, hA⟩ := hv
  obtain ⟨k, s, n, l⟩ := t
  simp only [Tm.Wf] at hl hA ih hz ⊢
  obtain ⟨-, -, hsz0, hwf⟩ := hz
  unfold maxLen at hc
  have HX := Lib.hid (shp_eq k s n l)
  have HN := Lib.hid (fun W => Name_c s W hsz0)
  clear hsz0
  go_enter Try.func55, Try.ntmps55
  go_wp2_with fail
  go_loopw [3] (fun i wr => ∃ j : Nat, j ≤ l.length ∧ i = .int .i64 j ∧ Hid (shpL (l.take j) = true) ∧ Below (w.heap.size + 1) (w.alloc (.cells #[.int .u8 k, .string s, .int .i64 n, .slice A l.length c] 24)) wr) (fun i _ => l.length - (intOf i).toNat)
  case atStart => exact ⟨0, Nat.zero_le _, rfl, Lib.hid (by simp [shpL]), Below.refl _ _⟩
  case round =>
    obtain ⟨j, hj, rfl, hdd, hb⟩ := hrel
    have hc3 : wr.cell? ⟨w.heap.size, 3, none⟩ = some (.slice A l.length c) := cell_below hb (by simp) (Nat.lt_succ_self _)
    have hb' : Below w.heap.size w wr := ((Below.refl _ w).alloc (Nat.le_refl _) _).trans (hb.mono (Nat.le_succ _))
    have hsz := hb.size
    simp only [World.size_alloc] at hsz
    by_cases hlt : j < l.length
    · obtain ⟨b, o, u, rfl, hok, hlo, h0, h1, h2, h3, h4⟩ := tm_elem hA hlt
      have g0 := cell_below hb' h0 hlo
      have g1 := cell_below hb' h1 hlo
      have g2 := cell_below hb' h2 hlo
      have g3 := cell_below hb' h3 hlo
      have k4 := h4.below hb'
      have HS := Lib.hid (ih l[j] (List.getElem_mem hlt) _ wr ok ⟨u, rfl, k4⟩ (WfL_at hwf hlt))
      clear hA h0 h1 h2 h3 h4 ih
      by_cases hs : l[j].shp = true
      · have hn' : Hid (shpL (l.take (j + 1)) = true) := Lib.hid (by rw [take_succ_at l hlt, shpL_append, hdd.out]; simp [shpL, hs])
        clear hdd
        go_wp2_with (go_at_call 55; refine HS.out.mono ?_; rintro e w1 ⟨rfl, hb1⟩)
        go_roundw
        case rel => exact ⟨j + 1, by omega, by go_num, hn', hb.trans (hb1.mono hsz)⟩
        case measure => simp [intOf]; omega
      · have hs' : l[j].shp = false := by simpa using hs
        have HF := Lib.hid (shpL_at_false hlt hs')
        clear hdd hs
        go_wp2_with (go_at_call 55; refine HS.out.mono ?_; rintro e w1 ⟨rfl, hb1⟩)
        go_ret
        exact ⟨ret_bool (by rw [HX.out, HF.out]; rfl), hb'.trans (hb1.mono (by omega))⟩
    · clear hA ih
      have hx := hdd.out
      rw [List.take_of_length_le (by omega)] at hx
      have HY : Hid (Tm.shp ⟨k, s, n, l⟩ = nodeOk k s n l.length) := Lib.hid (by rw [HX.out, hx]; rfl)
      have hc0 : wr.cell? ⟨w.heap.size, 0, none⟩ = some (.int .u8 k) := cell_below hb (by simp) (Nat.lt_succ_self _)
      have hc1 : wr.cell? ⟨w.heap.size, 1, none⟩ = some (.string s) := cell_below hb (by simp) (Nat.lt_succ_self _)
      have hc2 : wr.cell? ⟨w.heap.size, 2, none⟩ = some (.int .i64 n) := cell_below hb (by simp) (Nat.lt_succ_self _)
      clear hx hdd HX
      clear hwf hb
      by_cases k1 : k = 1
      · subst k1
        go_wp2
        all_goals go_ret
        all_goals exact ⟨ret_bool (by rw [HY.out]; generalize hL : (l.length : Int) = L at *; go_light; simp [nodeOk, *] <;> first | (intros; omega) | (rw [Bool.eq_iff_iff]; simp; done) | (subst hL; simp_all; done) | (subst hL; intros; simp_all)), hb'⟩
      · by_cases k2 : k = 2
        · subst k2
          go_wp2
          all_goals go_ret
          all_goals exact ⟨ret_bool (by rw [HY.out]; generalize hL : (l.length : Int) = L at *; go_light; simp [nodeOk, *] <;> first | (intros; omega) | (rw [Bool.eq_iff_iff]; simp; done) | (subst hL; simp_all; done) | (subst hL; intros; simp_all)), hb'⟩
        · by_cases k3 : k = 3
          · subst k3
            by_cases n0 : n = 0
            · subst n0
              go_wp2_with (go_at_call 50; refine (HN.out _).mono ?_; rintro e w1 ⟨rfl, hb1⟩)
              all_goals go_ret
              all_goals exact ⟨ret_bool (by rw [HY.out]; generalize hL : (l.length : Int) = L at *; go_light; simp [nodeOk, *] <;> first | (intros; omega) | (rw [Bool.eq_iff_iff]; simp; done) | (subst hL; simp_all; done) | (subst hL; intros; simp_all)), by first | exact hb' | exact below_then hb' (by omega) hb1⟩
            · have n0' : (n == 0) = false := by simpa using n0
              go_wp2
              all_goals go_ret
              all_goals exact ⟨ret_bool (by rw [HY.out]; generalize hL : (l.length : Int) = L at *; go_light; simp [nodeOk, *] <;> first | (intros; omega) | (rw [Bool.eq_iff_iff]; simp; done) | (subst hL; simp_all; done) | (subst hL; intros; simp_all)), hb'⟩
          · have k1' : (k == 1) = false := by simpa using k1
            have k2' : (k == 2) = false := by simpa using k2
            have k3' : (k == 3) = false := by simpa using k3
            by_cases k4 : k = 4
            · subst k4
              by_cases n0 : n = 0
              · subst n0
                go_wp2_with (go_at_call 50; refine (HN.out _).mono ?_; rintro e w1 ⟨rfl, hb1⟩)
                all_goals go_ret
                all_goals exact ⟨ret_bool (by rw [HY.out]; generalize hL : (l.length : Int) = L at *; go_light; simp [nodeOk, *] <;> first | (intros; omega) | (rw [Bool.eq_iff_iff]; simp; done) | (subst hL; simp_all; done) | (subst hL; intros; simp_all)), by first | exact hb' | exact below_then hb' (by omega) hb1⟩
              · have n0' : (n == 0) = false := by simpa using n0
                go_wp2
                all_goals go_ret
                all_goals exact ⟨ret_bool (by rw [HY.out]; generalize hL : (l.length : Int) = L at *; go_light; simp [nodeOk, *] <;> first | (intros; omega) | (rw [Bool.eq_iff_iff]; simp; done) | (subst hL; simp_all; done) | (subst hL; intros; simp_all)), hb'⟩
            · have k4' : (k == 4) = false := by simpa using k4
              go_wp2
              all_goals go_ret
              all_goals exact ⟨ret_bool (by rw [HY.out]; generalize hL : (l.length : Int) = L at *; go_light; simp [nodeOk, *] <;> first | (intros; omega) | (rw [Bool.eq_iff_iff]; simp; done) | (subst hL; simp_all; done) | (subst hL; intros; simp_all)), hb'⟩
end Go.Proofs.Ytdflckjnpgbjlaa

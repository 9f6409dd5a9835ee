/- Walks of layer 1's reference and of the law's own helpers: what each call hands back, every block that was there being kept. Walks of layer 1's reference, second part: sizes, depths, names, shapes; how many nodes. Walks of layer 1, third part: goodness by the reference, how many nodes, the reference's variables, structures. Conditions: the arguments read; terms of at most a million nodes, where a statement says so. -/
import Derived.Test.YtdflckjnpgbjlaaF1
import Derived.Test.YtdflckjnpgbjlaaProg
import Derived.StillTailTactics
import Derived.Deep.Light
set_option linter.unusedVariables false
set_option maxRecDepth 20000
set_option linter.unusedSimpArgs false
namespace Go.Proofs.Ytdflckjnpgbjlaa
open Go.RowKit

theorem ret_bool {a b : Bool} (h : a = b) : Ending.returned (.bool a) = .returned (.bool b) := by rw [h]
theorem ret_int {k : IntKind} {a b : Int} (h : a = b) : Ending.returned (.int k a) = .returned (.int k b) := by rw [h]
theorem below_drewc {B : Nat} {w W w1 : World} (h : Below B w W) (hB : B ≤ W.heap.size) (k : Below W.drew.heap.size W.drew w1) : Below B w w1 := below_then h.drew hB k
theorem eqbL_snoc {l m : List Tm} (h : l.length = m.length) {t u : Tm} : eqbL (l ++ [t]) (m ++ [u]) = (eqbL l m && t.eqb u) := by
  induction l generalizing m with
  | nil => cases m with
    | nil => simp [eqbL]
    | cons _ _ => simp at h
  | cons a l ih => cases m with
    | nil => simp at h
    | cons b m => simp [eqbL, ih (by simpa using h), Bool.and_assoc]
theorem eqbL_take_false : ∀ {l m : List Tm} {j : Nat} (hj : j < l.length) (hj' : j < m.length), l[j].eqb m[j] = false → eqbL l m = false
  | t :: ts, u :: us, 0, _, _, h => by simp only [List.getElem_cons_zero] at h; simp [eqbL, h]
  | t :: ts, u :: us, j + 1, hj, hj', h => by
    simp only [List.getElem_cons_succ] at h
    simp [eqbL, eqbL_take_false (by simpa using hj) (by simpa using hj') h]
theorem eqbL_length : ∀ {l m : List Tm}, l.length ≠ m.length → eqbL l m = false
  | [], [], h => absurd rfl h
  | [], _ :: _, _ => by simp [eqbL]
  | _ :: _, [], _ => by simp [eqbL]
  | t :: ts, u :: us, h => by simp [eqbL, eqbL_length (l := ts) (m := us) (by simpa using h)]

theorem toList_inj {s s' : ByteArray} (h : s.toList = s'.toList) : s = s' := by
  rw [ByteArray.toList_eq, ByteArray.toList_eq] at h
  exact WideShapes.bytes_inj h
theorem toList_ne {s s' : ByteArray} (h : s ≠ s') : (s.toList == s'.toList) = false := by
  rw [beq_eq_false_iff_ne]; exact fun x => h (toList_inj x)
theorem All_of (l : List Tm) (hS : ∀ t ∈ l, ∀ (u : Tm) (w : World) (ok ok' : Nat → Prop) (v v' : Value), TmV w ok t v → TmV w ok' u v' → Calls Try.prog 26 #[v, v'] w fun e w' => e = .returned (.bool (t.eqb u)) ∧ Below w.heap.size w w')
    (m : List Tm) (v v' : Value) (w : World) (ok ok' : Nat → Prop) (hv : Kd.tm.S w ok l v) (hv' : Kd.tm.S w ok' m v') :
    Calls Try.prog 34 #[v, v'] w fun e w' => e = .returned (.bool (eqbL l m)) ∧ Below w.heap.size w w' := by
  obtain ⟨A, c, rfl, hl, hc, hA⟩ := hv
  obtain ⟨A', c', rfl, hl', hc', hA'⟩ := hv'
  unfold maxLen at hc hc'
  by_cases hlen : l.length = m.length
  · have hne : ((l.length : Int) != m.length) = false := by simp [hlen]
    have H := Lib.hid hlen
    clear hlen
    go_enter Try.func34, Try.ntmps34
    go_wp2
    go_loopw [5] (fun i wr => ∃ j : Nat, j ≤ l.length ∧ i = .int .i64 j ∧ Hid (eqbL (l.take j) (m.take j) = true) ∧ Below w.heap.size w wr) (fun i _ => l.length - (intOf i).toNat)
    case atStart => exact ⟨0, Nat.zero_le _, rfl, Lib.hid (by simp [eqbL]), Below.refl _ _⟩
    case round =>
      obtain ⟨j, hj, rfl, hn, hb⟩ := hrel
      by_cases hlt : j < l.length
      · have hlt' : j < m.length := by rw [← H.out]; exact hlt
        obtain ⟨b, o, u, rfl, hok, hlo, h0, h1, h2, h3, h4⟩ := tm_elem hA hlt
        obtain ⟨b', o', u', rfl, hok', hlo', h0', h1', h2', h3', h4'⟩ := tm_elem hA' hlt'
        have g0 := cell_below hb h0 hlo
        have g1 := cell_below hb h1 hlo
        have g2 := cell_below hb h2 hlo
        have g3 := cell_below hb h3 hlo
        have g0' := cell_below hb h0' hlo'
        have g1' := cell_below hb h1' hlo'
        have g2' := cell_below hb h2' hlo'
        have g3' := cell_below hb h3' hlo'
        have k4 := h4.below hb
        have k4' := h4'.below hb
        clear hA hA' h0 h1 h2 h3 h0' h1' h2' h3' h4 h4'
        have HS := Lib.hid (fun (W : World) (hW : Below wr.heap.size wr W) => hS l[j] (List.getElem_mem hlt) m[j] W ok ok' _ _ ⟨u, rfl, k4.below hW⟩ ⟨u', rfl, k4'.below hW⟩)
        clear hS
        by_cases heq : l[j].eqb m[j] = true
        · have hn' : Hid (eqbL (l.take (j + 1)) (m.take (j + 1)) = true) := Lib.hid (by rw [take_succ_at l hlt, take_succ_at m hlt', eqbL_snoc (by simp; omega), hn.out, heq]; rfl)
          clear hn
          go_wp2
          go_still_tail 8, (by kernel_rfl)
          go_wp2_with (go_at_call 26; refine (HS.out _ ((Below.refl _ wr).drew)).mono ?_; rintro e w1 ⟨rfl, hb1⟩)
          go_roundw
          case rel => exact ⟨j + 1, by omega, by go_num, hn', below_drewc hb hb.size hb1⟩
          case measure => simp [intOf]; omega
        · have hx := eqbL_take_false hlt hlt' (by simpa using heq)
          have heq' : l[j].eqb m[j] = false := by simpa using heq
          have HX := Lib.hid hx
          clear hx hn heq
          go_wp2
          go_still_tail 8, (by kernel_rfl)
          go_wp2_with (go_at_call 26; refine (HS.out _ ((Below.refl _ wr).drew)).mono ?_; rintro e w1 ⟨rfl, hb1⟩)
          go_ret
          exact ⟨ret_bool HX.out.symm, below_drewc hb hb.size hb1⟩
      · clear hA hA' hS
        have hx := hn.out
        rw [List.take_of_length_le (by omega), List.take_of_length_le (by have := H.out; omega)] at hx
        have HX := Lib.hid hx
        clear hx hn
        go_wp2
        go_ret
        exact ⟨ret_bool HX.out.symm, hb⟩
  · have hne : ((l.length : Int) != m.length) = true := by simp; omega
    have HX := Lib.hid (eqbL_length hlen)
    clear hA hA' hS
    go_enter Try.func34, Try.ntmps34
    go_wp2
    go_ret
    exact ⟨ret_bool HX.out.symm, Below.refl _ _⟩

theorem Same_c (t : Tm) : ∀ (u : Tm) (w : World) (ok ok' : Nat → Prop) (v v' : Value), TmV w ok t v → TmV w ok' u v' → Calls Try.prog 26 #[v, v'] w fun e w' => e = .returned (.bool (t.eqb u)) ∧ Below w.heap.size w w' := by
  refine Tm.ind (p := fun t => ∀ (u : Tm) (w : World) (ok ok' : Nat → Prop) (v v' : Value), TmV w ok t v → TmV w ok' u v' → Calls Try.prog 26 #[v, v'] w fun e w' => e = .returned (.bool (t.eqb u)) ∧ Below w.heap.size w w') ?_ t
  intro t ih u w ok ok' v v' hv hv'
  obtain ⟨a, rfl, hs⟩ := hv
  obtain ⟨a', rfl, hs'⟩ := hv'
  have HA := Lib.hid (fun (W : World) (hW : Below w.heap.size w W) => All_of t.l ih u.l a a' W ok ok' (hs.below hW) (hs'.below hW))
  obtain ⟨A, c, rfl, hl, hc, hA⟩ := hs
  obtain ⟨A', c', rfl, hl', hc', hA'⟩ := hs'
  clear ih hA hA' hc hc' hl hl'
  obtain ⟨k, s, n, l⟩ := t
  obtain ⟨k', s', n', l'⟩ := u
  simp only at HA ⊢
  have hst : ∀ O O' : Obj, Below w.heap.size w ((w.alloc O).alloc O') := fun O O' => ((Below.refl _ w).alloc (Nat.le_refl _) O).alloc (by simp) O'
  by_cases e1 : k = k'
  · subst e1
    by_cases e2 : s = s'
    · subst e2
      by_cases e3 : n = n'
      · subst e3
        have HX : Hid (Tm.eqb ⟨k, s, n, l⟩ ⟨k, s, n, l'⟩ = eqbL l l') := Lib.hid (by simp [Tm.eqb])
        go_enter Try.func26, Try.ntmps26
        go_wp2_with (go_at_call 34; refine (HA.out _ (hst _ _)).mono ?_; rintro e w1 ⟨rfl, hb1⟩)
        go_ret
        exact ⟨ret_bool HX.out.symm, below_then (hst _ _) (by simp; omega) hb1⟩
      · have HX : Hid (Tm.eqb ⟨k, s, n, l⟩ ⟨k, s, n', l'⟩ = false) := Lib.hid (by simp [Tm.eqb, e3])
        have e3' : (n == n') = false := by simpa using e3
        clear HA
        go_enter Try.func26, Try.ntmps26
        go_wp2
        go_ret
        exact ⟨ret_bool HX.out.symm, hst _ _⟩
    · have HX : Hid (Tm.eqb ⟨k, s, n, l⟩ ⟨k, s', n', l'⟩ = false) := Lib.hid (by simp [Tm.eqb, e2])
      have e2' : (s.toList == s'.toList) = false := toList_ne e2
      clear HA
      go_enter Try.func26, Try.ntmps26
      go_wp2
      all_goals go_ret
      all_goals exact ⟨ret_bool HX.out.symm, hst _ _⟩
  · have HX : Hid (Tm.eqb ⟨k, s, n, l⟩ ⟨k', s', n', l'⟩ = false) := Lib.hid (by simp [Tm.eqb, e1])
    have e1' : (k == k') = false := by simpa using e1
    clear HA
    go_enter Try.func26, Try.ntmps26
    go_wp2
    all_goals go_ret
    all_goals exact ⟨ret_bool HX.out.symm, hst _ _⟩
theorem All_c (l m : List Tm) (v v' : Value) (w : World) (ok ok' : Nat → Prop) (hv : Kd.tm.S w ok l v) (hv' : Kd.tm.S w ok' m v') :
    Calls Try.prog 34 #[v, v'] w fun e w' => e = .returned (.bool (eqbL l m)) ∧ Below w.heap.size w w' := All_of l (fun t _ => Same_c t) m v v' w ok ok' hv hv'

open Go.RowKit

theorem V_c (n : Int) (w : World) (ok : Nat → Prop) :
    Calls Try.prog 25 #[.int .i64 n] w fun e w' => e = .returned (.agg #[.int .u8 1, .string ⟨#[]⟩, .int .i64 n, .slice none 0 0]) ∧ Below w.heap.size w w' := by
  go_enter Try.func25, Try.ntmps25
  go_wp2
  exact bodyPost_ret (v := .agg #[.int .u8 1, .string ⟨#[]⟩, .int .i64 n, .slice none 0 0]) (by simp [results, Try.results25, go_sem]) rfl ⟨rfl, (Below.refl _ _).alloc (Nat.le_refl _) _⟩
theorem I_c (n : Int) (w : World) (ok : Nat → Prop) :
    Calls Try.prog 56 #[.int .i64 n] w fun e w' => e = .returned (.agg #[.int .u8 2, .string ⟨#[]⟩, .int .i64 n, .slice none 0 0]) ∧ Below w.heap.size w w' := by
  go_enter Try.func56, Try.ntmps56
  go_wp2
  exact bodyPost_ret (v := .agg #[.int .u8 2, .string ⟨#[]⟩, .int .i64 n, .slice none 0 0]) (by simp [results, Try.results56, go_sem]) rfl ⟨rfl, (Below.refl _ _).alloc (Nat.le_refl _) _⟩
theorem A_c (s : ByteArray) (w : World) (ok : Nat → Prop) :
    Calls Try.prog 52 #[.string s] w fun e w' => e = .returned (.agg #[.int .u8 3, .string s, .int .i64 0, .slice none 0 0]) ∧ Below w.heap.size w w' := by
  go_enter Try.func52, Try.ntmps52
  go_wp2
  exact bodyPost_ret (v := .agg #[.int .u8 3, .string s, .int .i64 0, .slice none 0 0]) (by simp [results, Try.results52, go_sem]) rfl ⟨rfl, (Below.refl _ _).alloc (Nat.le_refl _) _⟩

theorem Depth_c (t : Tm) : ∀ (v : Value) (w : World) (ok : Nat → Prop), TmV w ok t v → t.siz ≤ 1000000 → Calls Try.prog 54 #[v] w fun e w' => e = .returned (.int .i64 t.dep) ∧ Below w.heap.size w w' := by
  refine Tm.ind (p := fun t => ∀ (v : Value) (w : World) (ok : Nat → Prop), TmV w ok t v → t.siz ≤ 1000000 → Calls Try.prog 54 #[v] w fun e w' => e = .returned (.int .i64 t.dep) ∧ Below w.heap.size w w') ?_ t
  intro t ih v w ok hv hz
  obtain ⟨u, rfl, A, c, rfl, hl, hc, hA⟩ := hv
  obtain ⟨k, s, n, l⟩ := t
  simp only [Tm.siz, Tm.dep] at hl hA ih hz ⊢
  unfold maxLen at hc
  have hdz := depL_le l
  go_enter Try.func54, Try.ntmps54
  go_wp2
  go_loopw [3, 4] (fun m i wr => ∃ j d : Nat, j ≤ l.length ∧ i = .int .i64 j ∧ m = .int .i64 d ∧ d ≤ 1000000 ∧ Hid (d = depL (l.take j)) ∧ Below (w.heap.size + 1) (w.alloc (.cells #[.int .u8 k, .string s, .int .i64 n, .slice A l.length c] 24)) wr) (fun _ i _ => l.length - (intOf i).toNat)
  case atStart => exact ⟨0, 0, Nat.zero_le _, rfl, rfl, by omega, Lib.hid (by simp [depL]), Below.refl _ _⟩
  case round =>
    obtain ⟨j, d, hj, rfl, rfl, hd, hdd, hb⟩ := hrel
    have hc3 : wr.cell? ⟨w.heap.size, 3, none⟩ = some (.slice A l.length c) := cell_below hb (by simp) (Nat.lt_succ_self _)
    have hb' : Below w.heap.size w wr := ((Below.refl _ w).alloc (Nat.le_refl _) _).trans (hb.mono (Nat.le_succ _))
    have hsz := hb.size
    simp only [World.size_alloc] at hsz
    by_cases hlt : j < l.length
    · obtain ⟨b, o, u, rfl, hok, hlo, h0, h1, h2, h3, h4⟩ := tm_elem hA hlt
      have g0 := cell_below hb' h0 hlo
      have g1 := cell_below hb' h1 hlo
      have g2 := cell_below hb' h2 hlo
      have g3 := cell_below hb' h3 hlo
      have k4 := h4.below hb'
      have hzj := siz_mem (List.getElem_mem hlt)
      have hdj := dep_le l[j]
      have HS := Lib.hid (ih l[j] (List.getElem_mem hlt) _ wr ok ⟨u, rfl, k4⟩ (by omega))
      clear hA h0 h1 h2 h3 h4 ih
      have hn' : Hid (max d l[j].dep = depL (l.take (j + 1))) := Lib.hid (by rw [take_succ_at l hlt, depL_append, hdd.out]; simp [depL])
      clear hdd
      go_wp2_with (go_at_call 54; refine HS.out.mono ?_; rintro e w1 ⟨rfl, hb1⟩)
      go_roundw
      case rel => exact ⟨j + 1, max d l[j].dep, by omega, by go_num, by first | rfl | (congr 1; split <;> omega), by omega, hn', hb.trans (hb1.mono hsz)⟩
      case measure => simp [intOf]; omega
    · clear hA ih
      have hx := hdd.out
      rw [List.take_of_length_le (by omega)] at hx
      have HX := Lib.hid hx
      clear hx hdd
      go_wp2
      go_ret
      exact ⟨ret_int (by rw [HX.out]; omega), hb'⟩

theorem Index_c (l : List Int) (n : Int) (v : Value) (w : World) (ok : Nat → Prop) (hv : (Kd.int .i64).S w ok l v) :
    Calls Try.prog 102 #[v, .int .i64 n] w fun e w' => (∃ i : Int, e = .returned (.int .i64 i) ∧ (decide (0 ≤ i) = decide (n ∈ l)) ∧ -1 ≤ i) ∧ Below w.heap.size w w' := by
  obtain ⟨A, c, rfl, hl, hc, hA⟩ := hv
  unfold maxLen at hc
  go_enter Try.func102, Try.ntmps102
  go_wp2
  go_loopw [8] (fun i wr => ∃ j : Nat, j ≤ l.length ∧ i = .int .i64 j ∧ n ∉ l.take j ∧ Below w.heap.size w wr) (fun i _ => l.length - (intOf i).toNat)
  case atStart => exact ⟨0, Nat.zero_le _, rfl, by simp, Below.refl _ _⟩
  case round =>
    obtain ⟨j, hj, rfl, hn, hb⟩ := hrel
    by_cases hlt : j < l.length
    · obtain ⟨b, o, rfl, hok, hlo, h0⟩ := int_elem hA hlt
      have g0 := cell_below hb h0 hlo
      clear hA h0
      by_cases he : (n == l[j]) = true
      · have : n ∈ l := by rw [beq_iff_eq] at he; rw [he]; exact List.getElem_mem hlt
        go_wp2
        go_ret
        exact ⟨⟨j, rfl, by simp [this], by omega⟩, hb⟩
      · have he' : (n == l[j]) = false := by simpa using he
        have hn' : n ∉ l.take (j + 1) := by
          rw [take_succ_at l hlt, List.mem_append, List.mem_singleton]
          rintro (h | h)
          · exact hn h
          · exact he (by rw [← h]; simp)
        clear he
        go_wp2
        go_roundw
        case rel => exact ⟨j + 1, by omega, by go_num, hn', hb⟩
        case measure => simp [intOf]; omega
    · clear hA
      rw [List.take_of_length_le (by omega)] at hn
      go_wp2
      go_ret
      exact ⟨⟨-1, rfl, by simp [hn], by omega⟩, hb⟩
theorem Contains_c (l : List Int) (n : Int) (v : Value) (w : World) (ok : Nat → Prop) (hv : (Kd.int .i64).S w ok l v) :
    Calls Try.prog 62 #[v, .int .i64 n] w fun e w' => e = .returned (.bool (decide (n ∈ l))) ∧ Below w.heap.size w w' := by
  have H := Index_c l n v w ok hv
  go_enter Try.func62, Try.ntmps62
  go_wp2_with (go_at_call 102; refine H.mono ?_; rintro e w1 ⟨⟨i, rfl, hi, hlo⟩, hb1⟩; have HI := Lib.hid hi; clear hi)
  go_ret
  exact ⟨ret_bool (by rw [← HI.out]), hb1⟩

def chOk (c : Nat) : Bool := decide ((32 ≤ c ∧ c ≤ 126) ∨ c = 9 ∨ c = 10)
theorem chOk_no {c : Nat} (h : ((c : Int) < 32 ∨ 126 < (c : Int)) ∧ ¬ (c : Int) = 9 ∧ ¬ (c : Int) = 10) : chOk c = false := by
  simp only [chOk, decide_eq_false_iff_not]; omega
theorem chOk_yes {c : Nat} (h : ((32 ≤ (c : Int)) ∧ (c : Int) ≤ 126) ∨ (c : Int) = 9 ∨ (c : Int) = 10) : chOk c = true := by
  simp only [chOk, decide_eq_true_eq]; omega
theorem nameOk_eq (s : ByteArray) : nameOk s = (decide (s.size ≤ 32) && s.data.toList.all fun c => chOk c.toNat) := rfl
theorem bytes_take {s : ByteArray} {j : Nat} (hj : j < s.size) : s.data.toList.take (j + 1) = s.data.toList.take j ++ [s[j]] := by
  rw [List.take_succ_eq_append_getElem (by simpa using hj)]; rfl
theorem Name_c (s : ByteArray) (w : World) (hs : s.size ≤ 140737488351232) :
    Calls Try.prog 50 #[.string s] w fun e w' => e = .returned (.bool (nameOk s)) ∧ Below w.heap.size w w' := by
  go_enter Try.func50, Try.ntmps50
  go_wp2
  go_loopw [3] (fun i wr => ∃ j : Nat, j ≤ s.size ∧ i = .int .i64 j ∧ Hid ((s.data.toList.take j).all (fun c => chOk c.toNat) = true) ∧ Below w.heap.size w wr) (fun i _ => s.size - (intOf i).toNat)
  case atStart => exact ⟨0, Nat.zero_le _, rfl, Lib.hid (by simp), Below.refl _ _⟩
  case round =>
    obtain ⟨j, hj, rfl, hn, hb⟩ := hrel
    by_cases hlt : j < s.size
    · have hch : Hid ((s.data.toList.take (j + 1)).all (fun c => chOk c.toNat) = chOk s[j].toNat) := Lib.hid (by rw [bytes_take hlt, List.all_append, hn.out]; simp)
      have hno : Hid (chOk s[j].toNat = false → nameOk s = false) := Lib.hid (by
        intro h
        rw [nameOk_eq]
        have : (s.data.toList.all fun c => chOk c.toNat) = false := by
          rw [List.all_eq_false]
          exact ⟨s[j], by simp [ByteArray.getElem_eq_getElem_data], by simp [h]⟩
        simp [this])
      have hc8 : s[j].toNat ≤ 255 := by have := s[j].toNat_lt; omega
      clear hn
      go_wp2
      all_goals first
        | (go_ret; exact ⟨ret_bool (hno.out (chOk_no (by go_light; (try simp only [bne_iff_ne, ne_eq, bne_eq_false_iff_eq] at *); omega))).symm, hb⟩)
        | (go_roundw
           case rel => exact ⟨j + 1, by omega, by go_num, Lib.hid (hch.out.trans (chOk_yes (by go_light; (try simp only [bne_iff_ne, ne_eq, bne_eq_false_iff_eq] at *); omega))), hb⟩
           case measure => simp [intOf]; omega)
    · have hx := hn.out
      rw [List.take_of_length_le (by simp; omega)] at hx
      have HX : Hid (nameOk s = decide ((s.size : Int) ≤ 32)) := Lib.hid (by rw [nameOk_eq, hx, Bool.and_true, decide_eq_decide]; omega)
      clear hx hn
      go_wp2
      go_ret
      exact ⟨ret_bool (by rw [HX.out]), hb⟩

/-- What is asked of a node, but for its arguments. -/
def nodeOk (k : Int) (s : ByteArray) (n : Int) (len : Int) : Bool :=
  if k = 1 then decide (0 ≤ n) && s.toList.isEmpty && decide (len = 0)
  else if k = 2 then s.toList.isEmpty && decide (len = 0)
  else if k = 3 then decide (n = 0) && decide (len = 0) && nameOk s
  else decide (k = 4) && decide (n = 0) && decide (0 < len) && decide (len ≤ 16) && nameOk s
theorem empty_iff (s : ByteArray) : s.toList.isEmpty = decide (s.size = 0) := by
  rw [ByteArray.toList_eq, Bool.eq_iff_iff, List.isEmpty_iff, decide_eq_true_eq]
  constructor
  · intro h; have := congrArg List.length h; simpa using this
  · intro h; apply List.eq_nil_of_length_eq_zero; simpa using h
theorem shp_eq (k : Int) (s : ByteArray) (n : Int) (l : List Tm) : Tm.shp ⟨k, s, n, l⟩ = (shpL l && nodeOk k s n l.length) := by
  have hl : decide (l = []) = decide ((l.length : Int) = 0) := by
    rw [decide_eq_decide]; constructor
    · rintro rfl; rfl
    · intro h; exact List.eq_nil_of_length_eq_zero (by omega)
  simp only [Tm.shp, nodeOk, empty_iff, hl]
  by_cases h0 : l = []
  · subst h0
    simp [shpL]
  · have : ¬ ((l.length : Int) = 0) := by intro h; exact h0 (List.eq_nil_of_length_eq_zero (by omega))
    simp only [this, decide_false, Bool.and_false, Bool.false_and]
    split
    · simp
    · split
      · simp
      · split
        · simp
        · have e : decide (0 < l.length ∧ l.length ≤ 16) = (decide (0 < (l.length : Int)) && decide ((l.length : Int) ≤ 16)) := by
            rw [Bool.eq_iff_iff]; simp; omega
          rw [e, Bool.and_comm (shpL l)]
          simp only [Bool.and_assoc]
theorem shpL_at_false : ∀ {l : List Tm} {j : Nat} (hj : j < l.length), l[j].shp = false → shpL l = false
  | t :: ts, 0, _, h => by simp only [List.getElem_cons_zero] at h; simp [shpL, h]
  | t :: ts, j + 1, hj, h => by
    simp only [List.getElem_cons_succ] at h
    simp [shpL, shpL_at_false (by simpa using hj) h]

theorem shape_c (t : Tm) : ∀ (v : Value) (w : World) (ok : Nat → Prop), TmV w ok t v → t.Wf → Calls Try.prog 55 #[v] w fun e w' => e = .returned (.bool t.shp) ∧ Below w.heap.size w w' := by
  refine Tm.ind (p := fun t => ∀ (v : Value) (w : World) (ok : Nat → Prop), TmV w ok t v → t.Wf → Calls Try.prog 55 #[v] w fun e w' => e = .returned (.bool t.shp) ∧ Below w.heap.size w w') ?_ t
  intro t ih v w ok hv hz
  obtain ⟨u, rfl, A, c, rfl, hl, hc, hA⟩ := hv
  obtain ⟨k, s, n, l⟩ := t
  simp only [Tm.Wf] at hl hA ih hz ⊢
  obtain ⟨-, -, hsz0, hwf⟩ := hz
  unfold maxLen at hc
  have HX := Lib.hid (shp_eq k s n l)
  have HN := Lib.hid (fun W => Name_c s W hsz0)
  clear hsz0
  go_enter Try.func55, Try.ntmps55
  go_wp2_with fail
  go_loopw [3] (fun i wr => ∃ j : Nat, j ≤ l.length ∧ i = .int .i64 j ∧ Hid (shpL (l.take j) = true) ∧ Below (w.heap.size + 1) (w.alloc (.cells #[.int .u8 k, .string s, .int .i64 n, .slice A l.length c] 24)) wr) (fun i _ => l.length - (intOf i).toNat)
  case atStart => exact ⟨0, Nat.zero_le _, rfl, Lib.hid (by simp [shpL]), Below.refl _ _⟩
  case round =>
    obtain ⟨j, hj, rfl, hdd, hb⟩ := hrel
    have hc3 : wr.cell? ⟨w.heap.size, 3, none⟩ = some (.slice A l.length c) := cell_below hb (by simp) (Nat.lt_succ_self _)
    have hb' : Below w.heap.size w wr := ((Below.refl _ w).alloc (Nat.le_refl _) _).trans (hb.mono (Nat.le_succ _))
    have hsz := hb.size
    simp only [World.size_alloc] at hsz
    by_cases hlt : j < l.length
    · obtain ⟨b, o, u, rfl, hok, hlo, h0, h1, h2, h3, h4⟩ := tm_elem hA hlt
      have g0 := cell_below hb' h0 hlo
      have g1 := cell_below hb' h1 hlo
      have g2 := cell_below hb' h2 hlo
      have g3 := cell_below hb' h3 hlo
      have k4 := h4.below hb'
      have HS := Lib.hid (ih l[j] (List.getElem_mem hlt) _ wr ok ⟨u, rfl, k4⟩ (WfL_at hwf hlt))
      clear hA h0 h1 h2 h3 h4 ih
      by_cases hs : l[j].shp = true
      · have hn' : Hid (shpL (l.take (j + 1)) = true) := Lib.hid (by rw [take_succ_at l hlt, shpL_append, hdd.out]; simp [shpL, hs])
        clear hdd
        go_wp2_with (go_at_call 55; refine HS.out.mono ?_; rintro e w1 ⟨rfl, hb1⟩)
        go_roundw
        case rel => exact ⟨j + 1, by omega, by go_num, hn', hb.trans (hb1.mono hsz)⟩
        case measure => simp [intOf]; omega
      · have hs' : l[j].shp = false := by simpa using hs
        have HF := Lib.hid (shpL_at_false hlt hs')
        clear hdd hs
        go_wp2_with (go_at_call 55; refine HS.out.mono ?_; rintro e w1 ⟨rfl, hb1⟩)
        go_ret
        exact ⟨ret_bool (by rw [HX.out, HF.out]; rfl), hb'.trans (hb1.mono (by omega))⟩
    · clear hA ih
      have hx := hdd.out
      rw [List.take_of_length_le (by omega)] at hx
      have HY : Hid (Tm.shp ⟨k, s, n, l⟩ = nodeOk k s n l.length) := Lib.hid (by rw [HX.out, hx]; rfl)
      have hc0 : wr.cell? ⟨w.heap.size, 0, none⟩ = some (.int .u8 k) := cell_below hb (by simp) (Nat.lt_succ_self _)
      have hc1 : wr.cell? ⟨w.heap.size, 1, none⟩ = some (.string s) := cell_below hb (by simp) (Nat.lt_succ_self _)
      have hc2 : wr.cell? ⟨w.heap.size, 2, none⟩ = some (.int .i64 n) := cell_below hb (by simp) (Nat.lt_succ_self _)
      clear hx hdd HX
      clear hwf hb
      by_cases k1 : k = 1
      · subst k1
        go_wp2
        all_goals go_ret
        all_goals exact ⟨ret_bool (by rw [HY.out]; generalize hL : (l.length : Int) = L at *; go_light; simp [nodeOk, *] <;> first | (intros; omega) | (rw [Bool.eq_iff_iff]; simp; done) | (subst hL; simp_all; done) | (subst hL; intros; simp_all)), hb'⟩
      · by_cases k2 : k = 2
        · subst k2
          go_wp2
          all_goals go_ret
          all_goals exact ⟨ret_bool (by rw [HY.out]; generalize hL : (l.length : Int) = L at *; go_light; simp [nodeOk, *] <;> first | (intros; omega) | (rw [Bool.eq_iff_iff]; simp; done) | (subst hL; simp_all; done) | (subst hL; intros; simp_all)), hb'⟩
        · by_cases k3 : k = 3
          · subst k3
            by_cases n0 : n = 0
            · subst n0
              go_wp2_with (go_at_call 50; refine (HN.out _).mono ?_; rintro e w1 ⟨rfl, hb1⟩)
              all_goals go_ret
              all_goals exact ⟨ret_bool (by rw [HY.out]; generalize hL : (l.length : Int) = L at *; go_light; simp [nodeOk, *] <;> first | (intros; omega) | (rw [Bool.eq_iff_iff]; simp; done) | (subst hL; simp_all; done) | (subst hL; intros; simp_all)), by first | exact hb' | exact below_then hb' (by omega) hb1⟩
            · have n0' : (n == 0) = false := by simpa using n0
              go_wp2
              all_goals go_ret
              all_goals exact ⟨ret_bool (by rw [HY.out]; generalize hL : (l.length : Int) = L at *; go_light; simp [nodeOk, *] <;> first | (intros; omega) | (rw [Bool.eq_iff_iff]; simp; done) | (subst hL; simp_all; done) | (subst hL; intros; simp_all)), hb'⟩
          · have k1' : (k == 1) = false := by simpa using k1
            have k2' : (k == 2) = false := by simpa using k2
            have k3' : (k == 3) = false := by simpa using k3
            by_cases k4 : k = 4
            · subst k4
              by_cases n0 : n = 0
              · subst n0
                go_wp2_with (go_at_call 50; refine (HN.out _).mono ?_; rintro e w1 ⟨rfl, hb1⟩)
                all_goals go_ret
                all_goals exact ⟨ret_bool (by rw [HY.out]; generalize hL : (l.length : Int) = L at *; go_light; simp [nodeOk, *] <;> first | (intros; omega) | (rw [Bool.eq_iff_iff]; simp; done) | (subst hL; simp_all; done) | (subst hL; intros; simp_all)), by first | exact hb' | exact below_then hb' (by omega) hb1⟩
              · have n0' : (n == 0) = false := by simpa using n0
                go_wp2
                all_goals go_ret
                all_goals exact ⟨ret_bool (by rw [HY.out]; generalize hL : (l.length : Int) = L at *; go_light; simp [nodeOk, *] <;> first | (intros; omega) | (rw [Bool.eq_iff_iff]; simp; done) | (subst hL; simp_all; done) | (subst hL; intros; simp_all)), hb'⟩
            · have k4' : (k == 4) = false := by simpa using k4
              go_wp2
              all_goals go_ret
              all_goals exact ⟨ret_bool (by rw [HY.out]; generalize hL : (l.length : Int) = L at *; go_light; simp [nodeOk, *] <;> first | (intros; omega) | (rw [Bool.eq_iff_iff]; simp; done) | (subst hL; simp_all; done) | (subst hL; intros; simp_all)), hb'⟩

open Go.RowKit

theorem refGood_c (t : Tm) (v : Value) (w : World) (ok : Nat → Prop) (hv : TmV w ok t v) (hz : t.siz ≤ 1000000) (hwf : t.Wf) :
    Calls Try.prog 16 #[v] w fun e w' => e = .returned (.bool t.good) ∧ Below w.heap.size w w' := by
  have HD := Lib.hid (fun (W : World) (hW : Below w.heap.size w W) => Depth_c t v W ok (hv.below hW) hz)
  have HS := Lib.hid (fun (W : World) (hW : Below w.heap.size w W) => shape_c t v W ok (hv.below hW) hwf)
  obtain ⟨u, rfl, A, c, rfl, hl, hc, hA⟩ := hv
  have hst : ∀ O : Obj, Below w.heap.size w (w.alloc O) := fun O => (Below.refl _ w).alloc (Nat.le_refl _) O
  clear hl hc hA hwf hz
  by_cases hd : t.dep ≤ 64
  · have HX : Hid (t.good = t.shp) := Lib.hid (by simp [Tm.good, hd])
    have hd' : (t.dep : Int) ≤ 64 := by omega
    go_enter Try.func16, Try.ntmps16
    go_wp2_with (first | (go_at_call 54; refine (HD.out _ (hst _)).mono ?_; rintro e w1 ⟨rfl, hb1⟩; have hb2 := below_then (hst _) (by simp) hb1; have c0 : w1.cell? ⟨w.heap.size, 0, none⟩ = some (.int .u8 t.k) := cell_below hb1 (by simp) (by simp); have c1 : w1.cell? ⟨w.heap.size, 1, none⟩ = some (.string t.s) := cell_below hb1 (by simp) (by simp); have c2 : w1.cell? ⟨w.heap.size, 2, none⟩ = some (.int .i64 t.n) := cell_below hb1 (by simp) (by simp); have c3 : w1.cell? ⟨w.heap.size, 3, none⟩ = some (.slice A t.l.length c) := cell_below hb1 (by simp) (by simp)) | (go_at_call 55; refine (HS.out _ (by assumption)).mono ?_; rintro e w2 ⟨rfl, hb3⟩))
    go_ret
    exact ⟨ret_bool (by rw [HX.out]), below_then hb2 hb2.size hb3⟩
  · have HX : Hid (t.good = false) := Lib.hid (by simp [Tm.good, hd])
    have hd' : ¬ (t.dep : Int) ≤ 64 := by omega
    go_enter Try.func16, Try.ntmps16
    go_wp2_with (go_at_call 54; refine (HD.out _ (hst _)).mono ?_; rintro e w1 ⟨rfl, hb1⟩; have hb2 := below_then (hst _) (by simp) hb1)
    go_ret
    exact ⟨ret_bool (by rw [HX.out]), hb2⟩

theorem many_k (k : Nat) : ∀ (l : List Tm) (n : Nat) (v : Value) (w : World) (ok : Nat → Prop), sizL l < k → Kd.tm.S w ok l v → WfL l → n ≤ 2000000000000000 →
    Calls Try.prog 53 #[v, .int .i64 n] w fun e w' => e = .returned (.int .i64 (manyL l n : Nat)) ∧ Below w.heap.size w w' := by
  induction k with
  | zero => intro l n v w ok hk; omega
  | succ k ih =>
    intro l n v w ok hk hv hwf hn
    obtain ⟨A, c, rfl, hl, hc, hA⟩ := hv
    unfold maxLen at hc
    have hlz := length_le_sizL l
    go_enter Try.func53, Try.ntmps53
    go_wp2_with fail
    go_loopw [1, 5] (fun m i wr => ∃ j d : Nat, j ≤ l.length ∧ i = .int .i64 j ∧ m = .int .i64 d ∧ d ≤ 2000000000000000 ∧ Hid (manyL (l.drop j) d = manyL l n) ∧ Below w.heap.size w wr) (fun _ i _ => l.length - (intOf i).toNat)
    case atStart => exact ⟨0, n, Nat.zero_le _, rfl, rfl, hn, Lib.hid (by simp), Below.refl _ _⟩
    case round =>
      obtain ⟨j, d, hj, rfl, rfl, hd, hdd, hb⟩ := hrel
      by_cases hlt : j < l.length
      · by_cases hd2 : d < 2000
        · have hd2' : (d : Int) < 2000 := by omega
          obtain ⟨b, o, u, rfl, hok, hlo, h0, h1, h2, h3, h4⟩ := tm_elem hA hlt
          have g0 := cell_below hb h0 hlo
          have g1 := cell_below hb h1 hlo
          have g2 := cell_below hb h2 hlo
          have g3 := cell_below hb h3 hlo
          have k4 := h4.below hb
          have hzj := siz_mem (List.getElem_mem hlt)
          have hwj := (WfL_at hwf hlt).parts
          have hsj := hwj.2.2.1
          have hkl : sizL l[j].l < k := by
            have : l[j].siz = sizL l[j].l + 1 := by cases l[j]; rfl
            omega
          have hwl := hwj.2.2.2
          have hmj : l[j].many d = manyL l[j].l (d + 1 + l[j].s.size / 200 * 2000) := by cases l[j]; simp [Tm.many]
          have HS : Hid (∀ (W : World) (hW : Below wr.heap.size wr W), Calls Try.prog 53 #[u, .int .i64 ((d : Int) + 1 + (l[j].s.size : Int) / 200 * 2000)] W fun e w' => e = .returned (.int .i64 (l[j].many d : Nat)) ∧ Below W.heap.size W w') := Lib.hid (fun W hW => by
            have := ih l[j].l (d + 1 + l[j].s.size / 200 * 2000) u W ok hkl (k4.below hW) hwl (by omega)
            rw [hmj]
            rwa [show ((d + 1 + l[j].s.size / 200 * 2000 : Nat) : Int) = (d : Int) + 1 + (l[j].s.size : Int) / 200 * 2000 by omega] at this)
          clear hmj
          have hml := Tm.many_le l[j] d (WfL_at hwf hlt) hd2
          have hn' : Hid (manyL (l.drop (j + 1)) (l[j].many d) = manyL l n) := Lib.hid (by
            rw [← hdd.out, List.drop_eq_getElem_cons hlt]
            simp only [manyL]
            rw [if_pos hd2])
          clear hA h0 h1 h2 h3 h4 ih hwj hwl hdd hwf k4 hkl hzj
          go_wp2_with fail
          go_still_tail 16, (by kernel_rfl)
          go_wp2_with (go_at_call 53; refine (HS.out _ (Below.refl _ wr).drew).mono ?_; rintro e w1 ⟨rfl, hb1⟩)
          go_roundw
          case rel => exact ⟨j + 1, l[j].many d, by omega, by go_num, rfl, hml, hn', below_drewc hb hb.size hb1⟩
          case measure => simp [intOf]; omega
        · have hd2' : ¬ (d : Int) < 2000 := by omega
          have HX : Hid (manyL l n = d) := Lib.hid (by rw [← hdd.out, manyL_big (by omega)])
          clear hA ih hdd
          go_wp2_with fail
          go_ret
          exact ⟨ret_int (by rw [HX.out]), hb⟩
      · have HX : Hid (manyL l n = d) := Lib.hid (by rw [← hdd.out, List.drop_of_length_le (by omega)]; rfl)
        clear hA ih hdd
        go_wp2_with fail
        go_ret
        exact ⟨ret_int (by rw [HX.out]), hb⟩
theorem Great_c (l : List Tm) (v : Value) (w : World) (ok : Nat → Prop) (hv : Kd.tm.S w ok l v) (hwf : WfL l) :
    Calls Try.prog 15 #[v] w fun e w' => e = .returned (.bool (great l)) ∧ Below w.heap.size w w' := by
  have HM := Lib.hid (many_k (sizL l + 1) l 0 v w ok (Nat.lt_succ_self _) hv hwf (by omega))
  have hle := manyL_le l 0 hwf (by omega)
  have HX : Hid (great l = decide (1000 < (manyL l 0 : Int))) := Lib.hid (by rw [great, decide_eq_decide]; omega)
  generalize manyL l 0 = m at *
  go_enter Try.func15, Try.ntmps15
  go_wp2_with (go_at_call 53; refine HM.out.mono ?_; rintro e w1 ⟨rfl, hb1⟩)
  go_ret
  exact ⟨ret_bool (by rw [HX.out]), hb1⟩
end Go.Proofs.Ytdflckjnpgbjlaa

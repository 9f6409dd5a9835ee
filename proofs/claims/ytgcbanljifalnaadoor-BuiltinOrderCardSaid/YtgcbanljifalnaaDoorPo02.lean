import Derived.Test.YtgcbanljifalnaaDoorPo01
import Derived.Test.YtgcbanljifalnaaDoorProg
import Derived.StillTailTactics
import Derived.Deep.Light
import Derived.RangeFuncNested
import Derived.RangeFuncBound
import Derived.RangeFuncCalls
import Derived.RangeFuncLeaves
import Derived.Shelf.Abstract
import Derived.Shelf.RegionOpen
import Derived.OwnWalkIn
import Derived.TacticsInMore
import Derived.LoopNIn
import Derived.LoopIn
import Derived.Maps.OwnIn
import Derived.Sort.AtCall
import Derived.Deep.RegionHeld3
import Derived.Deep.DrawnRows
set_option linter.unusedVariables false
set_option maxRecDepth 20000
set_option linter.unusedSimpArgs false
/- Walks of layer 1's reference and of the law's own helpers: what each call hands back, every block that was there being kept. Walks of layer 1's reference, second part: sizes, depths, names, shapes; how many nodes. Walks of layer 1, third part: goodness by the reference, how many nodes, the reference's variables, structures. Conditions: the arguments read; terms of at most a million nodes, where a statement says so. -/
namespace Go.Proofs.YtgcbanljifalnaaDoor
open Go.RowKit

theorem ret_bool {a b : Bool} (h : a = b) : Ending.returned (.bool a) = .returned (.bool b) := by rw [h]
theorem ret_int {k : IntKind} {a b : Int} (h : a = b) : Ending.returned (.int k a) = .returned (.int k b) := by rw [h]
theorem below_drewc {B : Nat} {w W w1 : World} (h : Below B w W) (hB : B ≤ W.heap.size) (k : Below W.drew.heap.size W.drew w1) : Below B w w1 := below_then h.drew hB k
theorem toList_inj {s s' : ByteArray} (h : s.toList = s'.toList) : s = s' := by
  rw [ByteArray.toList_eq, ByteArray.toList_eq] at h
  exact WideShapes.bytes_inj h
theorem toList_ne {s s' : ByteArray} (h : s ≠ s') : (s.toList == s'.toList) = false := by
  rw [beq_eq_false_iff_ne]; exact fun x => h (toList_inj x)
open Go.RowKit

theorem V_c (n : Int) (w : World) (ok : Nat → Prop) :
    Calls Tryd.prog 20 #[.int .i64 n] w fun e w' => e = .returned (.agg #[.int .u8 1, .string ⟨#[]⟩, .int .i64 n, .slice none 0 0]) ∧ Below w.heap.size w w' := by
  go_enter Tryd.func20, Tryd.ntmps20
  go_wp2
  exact bodyPost_ret (v := .agg #[.int .u8 1, .string ⟨#[]⟩, .int .i64 n, .slice none 0 0]) (by simp [results, Tryd.results20, go_sem]) rfl ⟨rfl, (Below.refl _ _).alloc (Nat.le_refl _) _⟩
theorem I_c (n : Int) (w : World) (ok : Nat → Prop) :
    Calls Tryd.prog 21 #[.int .i64 n] w fun e w' => e = .returned (.agg #[.int .u8 2, .string ⟨#[]⟩, .int .i64 n, .slice none 0 0]) ∧ Below w.heap.size w w' := by
  go_enter Tryd.func21, Tryd.ntmps21
  go_wp2
  exact bodyPost_ret (v := .agg #[.int .u8 2, .string ⟨#[]⟩, .int .i64 n, .slice none 0 0]) (by simp [results, Tryd.results21, go_sem]) rfl ⟨rfl, (Below.refl _ _).alloc (Nat.le_refl _) _⟩
theorem A_c (s : ByteArray) (w : World) (ok : Nat → Prop) :
    Calls Tryd.prog 22 #[.string s] w fun e w' => e = .returned (.agg #[.int .u8 3, .string s, .int .i64 0, .slice none 0 0]) ∧ Below w.heap.size w w' := by
  go_enter Tryd.func22, Tryd.ntmps22
  go_wp2
  exact bodyPost_ret (v := .agg #[.int .u8 3, .string s, .int .i64 0, .slice none 0 0]) (by simp [results, Tryd.results22, go_sem]) rfl ⟨rfl, (Below.refl _ _).alloc (Nat.le_refl _) _⟩

theorem Depth_c (t : Tm) : ∀ (v : Value) (w : World) (ok : Nat → Prop), TmV w ok t v → t.siz ≤ 1000000 → Calls Tryd.prog 15 #[v] w fun e w' => e = .returned (.int .i64 t.dep) ∧ Below w.heap.size w w' := by
  refine Tm.ind (p := fun t => ∀ (v : Value) (w : World) (ok : Nat → Prop), TmV w ok t v → t.siz ≤ 1000000 → Calls Tryd.prog 15 #[v] w fun e w' => e = .returned (.int .i64 t.dep) ∧ Below w.heap.size w w') ?_ t
  intro t ih v w ok hv hz
  obtain ⟨u, rfl, A, c, rfl, hl, hc, hA⟩ := hv
  obtain ⟨k, s, n, l⟩ := t
  simp only [Tm.siz, Tm.dep] at hl hA ih hz ⊢
  unfold maxLen at hc
  have hdz := depL_le l
  go_enter Tryd.func15, Tryd.ntmps15
  go_wp2
  go_loopw [3, 4] (fun m i wr => ∃ j d : Nat, j ≤ l.length ∧ i = .int .i64 j ∧ m = .int .i64 d ∧ d ≤ 1000000 ∧ Hid (d = depL (l.take j)) ∧ Below (w.heap.size + 1) (w.alloc (.cells #[.int .u8 k, .string s, .int .i64 n, .slice A l.length c] 24)) wr) (fun _ i _ => l.length - (intOf i).toNat)
  case atStart => exact ⟨0, 0, Nat.zero_le _, rfl, rfl, by omega, Lib.hid (by simp [depL]), Below.refl _ _⟩
  case round =>
    obtain ⟨j, d, hj, rfl, rfl, hd, hdd, hb⟩ := hrel
    have hc3 : wr.cell? ⟨w.heap.size, 3, none⟩ = some (.slice A l.length c) := cell_below hb (by simp) (Nat.lt_succ_self _)
    have hb' : Below w.heap.size w wr := ((Below.refl _ w).alloc (Nat.le_refl _) _).trans (hb.mono (Nat.le_succ _))
    have hsz := hb.size
    simp only [World.size_alloc] at hsz
    by_cases hlt : j < l.length
    · obtain ⟨b, o, u, rfl, hok, hlo, h0, h1, h2, h3, h4⟩ := tm_elem hA hlt
      have g0 := cell_below hb' h0 hlo
      have g1 := cell_below hb' h1 hlo
      have g2 := cell_below hb' h2 hlo
      have g3 := cell_below hb' h3 hlo
      have k4 := h4.below hb'
      have hzj := siz_mem (List.getElem_mem hlt)
      have hdj := dep_le l[j]
      have HS := Lib.hid (ih l[j] (List.getElem_mem hlt) _ wr ok ⟨u, rfl, k4⟩ (by omega))
      clear hA h0 h1 h2 h3 h4 ih
      have hn' : Hid (max d l[j].dep = depL (l.take (j + 1))) := Lib.hid (by rw [take_succ_at l hlt, depL_append, hdd.out]; simp [depL])
      clear hdd
      go_wp2_with (go_at_call 15; refine HS.out.mono ?_; rintro e w1 ⟨rfl, hb1⟩)
      go_roundw
      case rel => exact ⟨j + 1, max d l[j].dep, by omega, by go_num, by first | rfl | (congr 1; split <;> omega), by omega, hn', hb.trans (hb1.mono hsz)⟩
      case measure => simp [intOf]; omega
    · clear hA ih
      have hx := hdd.out
      rw [List.take_of_length_le (by omega)] at hx
      have HX := Lib.hid hx
      clear hx hdd
      go_wp2
      go_ret
      exact ⟨ret_int (by rw [HX.out]; omega), hb'⟩

def chOk (c : Nat) : Bool := decide ((32 ≤ c ∧ c ≤ 126) ∨ c = 9 ∨ c = 10)
theorem chOk_no {c : Nat} (h : ((c : Int) < 32 ∨ 126 < (c : Int)) ∧ ¬ (c : Int) = 9 ∧ ¬ (c : Int) = 10) : chOk c = false := by
  simp only [chOk, decide_eq_false_iff_not]; omega
theorem chOk_yes {c : Nat} (h : ((32 ≤ (c : Int)) ∧ (c : Int) ≤ 126) ∨ (c : Int) = 9 ∨ (c : Int) = 10) : chOk c = true := by
  simp only [chOk, decide_eq_true_eq]; omega
theorem nameOk_eq (s : ByteArray) : nameOk s = (decide (s.size ≤ 32) && s.data.toList.all fun c => chOk c.toNat) := rfl
theorem bytes_take {s : ByteArray} {j : Nat} (hj : j < s.size) : s.data.toList.take (j + 1) = s.data.toList.take j ++ [s[j]] := by
  rw [List.take_succ_eq_append_getElem (by simpa using hj)]; rfl
theorem Name_c (s : ByteArray) (w : World) (hs : s.size ≤ 140737488351232) :
    Calls Tryd.prog 36 #[.string s] w fun e w' => e = .returned (.bool (nameOk s)) ∧ Below w.heap.size w w' := by
  go_enter Tryd.func36, Tryd.ntmps36
  go_wp2
  go_loopw [3] (fun i wr => ∃ j : Nat, j ≤ s.size ∧ i = .int .i64 j ∧ Hid ((s.data.toList.take j).all (fun c => chOk c.toNat) = true) ∧ Below w.heap.size w wr) (fun i _ => s.size - (intOf i).toNat)
  case atStart => exact ⟨0, Nat.zero_le _, rfl, Lib.hid (by simp), Below.refl _ _⟩
  case round =>
    obtain ⟨j, hj, rfl, hn, hb⟩ := hrel
    by_cases hlt : j < s.size
    · have hch : Hid ((s.data.toList.take (j + 1)).all (fun c => chOk c.toNat) = chOk s[j].toNat) := Lib.hid (by rw [bytes_take hlt, List.all_append, hn.out]; simp)
      have hno : Hid (chOk s[j].toNat = false → nameOk s = false) := Lib.hid (by
        intro h
        rw [nameOk_eq]
        have : (s.data.toList.all fun c => chOk c.toNat) = false := by
          rw [List.all_eq_false]
          exact ⟨s[j], by simp [ByteArray.getElem_eq_getElem_data], by simp [h]⟩
        simp [this])
      have hc8 : s[j].toNat ≤ 255 := by have := s[j].toNat_lt; omega
      clear hn
      go_wp2
      all_goals first
        | (go_ret; exact ⟨ret_bool (hno.out (chOk_no (by go_light; (try simp only [bne_iff_ne, ne_eq, bne_eq_false_iff_eq] at *); omega))).symm, hb⟩)
        | (go_roundw
           case rel => exact ⟨j + 1, by omega, by go_num, Lib.hid (hch.out.trans (chOk_yes (by go_light; (try simp only [bne_iff_ne, ne_eq, bne_eq_false_iff_eq] at *); omega))), hb⟩
           case measure => simp [intOf]; omega)
    · have hx := hn.out
      rw [List.take_of_length_le (by simp; omega)] at hx
      have HX : Hid (nameOk s = decide ((s.size : Int) ≤ 32)) := Lib.hid (by rw [nameOk_eq, hx, Bool.and_true, decide_eq_decide]; omega)
      clear hx hn
      go_wp2
      go_ret
      exact ⟨ret_bool (by rw [HX.out]), hb⟩

/-- What is asked of a node, but for its arguments. -/
def nodeOk (k : Int) (s : ByteArray) (n : Int) (len : Int) : Bool :=
  if k = 1 then decide (0 ≤ n) && s.toList.isEmpty && decide (len = 0)
  else if k = 2 then s.toList.isEmpty && decide (len = 0)
  else if k = 3 then decide (n = 0) && decide (len = 0) && nameOk s
  else decide (k = 4) && decide (n = 0) && decide (0 < len) && decide (len ≤ 16) && nameOk s
theorem empty_iff (s : ByteArray) : s.toList.isEmpty = decide (s.size = 0) := by
  rw [ByteArray.toList_eq, Bool.eq_iff_iff, List.isEmpty_iff, decide_eq_true_eq]
  constructor
  · intro h; have := congrArg List.length h; simpa using this
  · intro h; apply List.eq_nil_of_length_eq_zero; simpa using h
theorem shp_eq (k : Int) (s : ByteArray) (n : Int) (l : List Tm) : Tm.shp ⟨k, s, n, l⟩ = (shpL l && nodeOk k s n l.length) := by
  have hl : decide (l = []) = decide ((l.length : Int) = 0) := by
    rw [decide_eq_decide]; constructor
    · rintro rfl; rfl
    · intro h; exact List.eq_nil_of_length_eq_zero (by omega)
  simp only [Tm.shp, nodeOk, empty_iff, hl]
  by_cases h0 : l = []
  · subst h0
    simp [shpL]
  · have : ¬ ((l.length : Int) = 0) := by intro h; exact h0 (List.eq_nil_of_length_eq_zero (by omega))
    simp only [this, decide_false, Bool.and_false, Bool.false_and]
    split
    · simp
    · split
      · simp
      · split
        · simp
        · have e : decide (0 < l.length ∧ l.length ≤ 16) = (decide (0 < (l.length : Int)) && decide ((l.length : Int) ≤ 16)) := by
            rw [Bool.eq_iff_iff]; simp; omega
          rw [e, Bool.and_comm (shpL l)]
          simp only [Bool.and_assoc]
theorem shpL_at_false : ∀ {l : List Tm} {j : Nat} (hj : j < l.length), l[j].shp = false → shpL l = false
  | t :: ts, 0, _, h => by simp only [List.getElem_cons_zero] at h; simp [shpL, h]
  | t :: ts, j + 1, hj, h => by
    simp only [List.getElem_cons_succ] at h
    simp [shpL, shpL_at_false (by simpa using hj) h]

theorem shape_c (t : Tm) : ∀ (v : Value) (w : World) (ok : Nat → Prop), TmV w ok t v → t.Wf → Calls Tryd.prog 16 #[v] w fun e w' => e = .returned (.bool t.shp) ∧ Below w.heap.size w w' := by
  refine Tm.ind (p := fun t => ∀ (v : Value) (w : World) (ok : Nat → Prop), TmV w ok t v → t.Wf → Calls Tryd.prog 16 #[v] w fun e w' => e = .returned (.bool t.shp) ∧ Below w.heap.size w w') ?_ t
  intro t ih v w ok hv hz
  obtain ⟨u, rfl, A, c, rfl, hl, hc, hA⟩ := hv
  obtain ⟨k, s, n, l⟩ := t
  simp only [Tm.Wf] at hl hA ih hz ⊢
  obtain ⟨-, -, hsz0, hwf⟩ := hz
  unfold maxLen at hc
  have HX := Lib.hid (shp_eq k s n l)
  have HN := Lib.hid (fun W => Name_c s W hsz0)
  clear hsz0
  go_enter Tryd.func16, Tryd.ntmps16
  go_wp2_with fail
  go_loopw [3] (fun i wr => ∃ j : Nat, j ≤ l.length ∧ i = .int .i64 j ∧ Hid (shpL (l.take j) = true) ∧ Below (w.heap.size + 1) (w.alloc (.cells #[.int .u8 k, .string s, .int .i64 n, .slice A l.length c] 24)) wr) (fun i _ => l.length - (intOf i).toNat)
  case atStart => exact ⟨0, Nat.zero_le _, rfl, Lib.hid (by simp [shpL]), Below.refl _ _⟩
  case round =>
    obtain ⟨j, hj, rfl, hdd, hb⟩ := hrel
    have hc3 : wr.cell? ⟨w.heap.size, 3, none⟩ = some (.slice A l.length c) := cell_below hb (by simp) (Nat.lt_succ_self _)
    have hb' : Below w.heap.size w wr := ((Below.refl _ w).alloc (Nat.le_refl _) _).trans (hb.mono (Nat.le_succ _))
    have hsz := hb.size
    simp only [World.size_alloc] at hsz
    by_cases hlt : j < l.length
    · obtain ⟨b, o, u, rfl, hok, hlo, h0, h1, h2, h3, h4⟩ := tm_elem hA hlt
      have g0 := cell_below hb' h0 hlo
      have g1 := cell_below hb' h1 hlo
      have g2 := cell_below hb' h2 hlo
      have g3 := cell_below hb' h3 hlo
      have k4 := h4.below hb'
      have HS := Lib.hid (ih l[j] (List.getElem_mem hlt) _ wr ok ⟨u, rfl, k4⟩ (WfL_at hwf hlt))
      clear hA h0 h1 h2 h3 h4 ih
      by_cases hs : l[j].shp = true
      · have hn' : Hid (shpL (l.take (j + 1)) = true) := Lib.hid (by rw [take_succ_at l hlt, shpL_append, hdd.out]; simp [shpL, hs])
        clear hdd
        go_wp2_with (go_at_call 16; refine HS.out.mono ?_; rintro e w1 ⟨rfl, hb1⟩)
        go_roundw
        case rel => exact ⟨j + 1, by omega, by go_num, hn', hb.trans (hb1.mono hsz)⟩
        case measure => simp [intOf]; omega
      · have hs' : l[j].shp = false := by simpa using hs
        have HF := Lib.hid (shpL_at_false hlt hs')
        clear hdd hs
        go_wp2_with (go_at_call 16; refine HS.out.mono ?_; rintro e w1 ⟨rfl, hb1⟩)
        go_ret
        exact ⟨ret_bool (by rw [HX.out, HF.out]; rfl), hb'.trans (hb1.mono (by omega))⟩
    · clear hA ih
      have hx := hdd.out
      rw [List.take_of_length_le (by omega)] at hx
      have HY : Hid (Tm.shp ⟨k, s, n, l⟩ = nodeOk k s n l.length) := Lib.hid (by rw [HX.out, hx]; rfl)
      have hc0 : wr.cell? ⟨w.heap.size, 0, none⟩ = some (.int .u8 k) := cell_below hb (by simp) (Nat.lt_succ_self _)
      have hc1 : wr.cell? ⟨w.heap.size, 1, none⟩ = some (.string s) := cell_below hb (by simp) (Nat.lt_succ_self _)
      have hc2 : wr.cell? ⟨w.heap.size, 2, none⟩ = some (.int .i64 n) := cell_below hb (by simp) (Nat.lt_succ_self _)
      clear hx hdd HX
      clear hwf hb
      by_cases k1 : k = 1
      · subst k1
        go_wp2
        all_goals go_ret
        all_goals exact ⟨ret_bool (by rw [HY.out]; generalize hL : (l.length : Int) = L at *; go_light; simp [nodeOk, *] <;> first | (intros; omega) | (rw [Bool.eq_iff_iff]; simp; done) | (subst hL; simp_all; done) | (subst hL; intros; simp_all)), hb'⟩
      · by_cases k2 : k = 2
        · subst k2
          go_wp2
          all_goals go_ret
          all_goals exact ⟨ret_bool (by rw [HY.out]; generalize hL : (l.length : Int) = L at *; go_light; simp [nodeOk, *] <;> first | (intros; omega) | (rw [Bool.eq_iff_iff]; simp; done) | (subst hL; simp_all; done) | (subst hL; intros; simp_all)), hb'⟩
        · by_cases k3 : k = 3
          · subst k3
            by_cases n0 : n = 0
            · subst n0
              go_wp2_with (go_at_call 36; refine (HN.out _).mono ?_; rintro e w1 ⟨rfl, hb1⟩)
              all_goals go_ret
              all_goals exact ⟨ret_bool (by rw [HY.out]; generalize hL : (l.length : Int) = L at *; go_light; simp [nodeOk, *] <;> first | (intros; omega) | (rw [Bool.eq_iff_iff]; simp; done) | (subst hL; simp_all; done) | (subst hL; intros; simp_all)), by first | exact hb' | exact below_then hb' (by omega) hb1⟩
            · have n0' : (n == 0) = false := by simpa using n0
              go_wp2
              all_goals go_ret
              all_goals exact ⟨ret_bool (by rw [HY.out]; generalize hL : (l.length : Int) = L at *; go_light; simp [nodeOk, *] <;> first | (intros; omega) | (rw [Bool.eq_iff_iff]; simp; done) | (subst hL; simp_all; done) | (subst hL; intros; simp_all)), hb'⟩
          · have k1' : (k == 1) = false := by simpa using k1
            have k2' : (k == 2) = false := by simpa using k2
            have k3' : (k == 3) = false := by simpa using k3
            by_cases k4 : k = 4
            · subst k4
              by_cases n0 : n = 0
              · subst n0
                go_wp2_with (go_at_call 36; refine (HN.out _).mono ?_; rintro e w1 ⟨rfl, hb1⟩)
                all_goals go_ret
                all_goals exact ⟨ret_bool (by rw [HY.out]; generalize hL : (l.length : Int) = L at *; go_light; simp [nodeOk, *] <;> first | (intros; omega) | (rw [Bool.eq_iff_iff]; simp; done) | (subst hL; simp_all; done) | (subst hL; intros; simp_all)), by first | exact hb' | exact below_then hb' (by omega) hb1⟩
              · have n0' : (n == 0) = false := by simpa using n0
                go_wp2
                all_goals go_ret
                all_goals exact ⟨ret_bool (by rw [HY.out]; generalize hL : (l.length : Int) = L at *; go_light; simp [nodeOk, *] <;> first | (intros; omega) | (rw [Bool.eq_iff_iff]; simp; done) | (subst hL; simp_all; done) | (subst hL; intros; simp_all)), hb'⟩
            · have k4' : (k == 4) = false := by simpa using k4
              go_wp2
              all_goals go_ret
              all_goals exact ⟨ret_bool (by rw [HY.out]; generalize hL : (l.length : Int) = L at *; go_light; simp [nodeOk, *] <;> first | (intros; omega) | (rw [Bool.eq_iff_iff]; simp; done) | (subst hL; simp_all; done) | (subst hL; intros; simp_all)), hb'⟩

open Go.RowKit

theorem refGood_c (t : Tm) (v : Value) (w : World) (ok : Nat → Prop) (hv : TmV w ok t v) (hz : t.siz ≤ 1000000) (hwf : t.Wf) :
    Calls Tryd.prog 6 #[v] w fun e w' => e = .returned (.bool t.good) ∧ Below w.heap.size w w' := by
  have HD := Lib.hid (fun (W : World) (hW : Below w.heap.size w W) => Depth_c t v W ok (hv.below hW) hz)
  have HS := Lib.hid (fun (W : World) (hW : Below w.heap.size w W) => shape_c t v W ok (hv.below hW) hwf)
  obtain ⟨u, rfl, A, c, rfl, hl, hc, hA⟩ := hv
  have hst : ∀ O : Obj, Below w.heap.size w (w.alloc O) := fun O => (Below.refl _ w).alloc (Nat.le_refl _) O
  clear hl hc hA hwf hz
  by_cases hd : t.dep ≤ 64
  · have HX : Hid (t.good = t.shp) := Lib.hid (by simp [Tm.good, hd])
    have hd' : (t.dep : Int) ≤ 64 := by omega
    go_enter Tryd.func6, Tryd.ntmps6
    go_wp2_with (first | (go_at_call 15; refine (HD.out _ (hst _)).mono ?_; rintro e w1 ⟨rfl, hb1⟩; have hb2 := below_then (hst _) (by simp) hb1; have c0 : w1.cell? ⟨w.heap.size, 0, none⟩ = some (.int .u8 t.k) := cell_below hb1 (by simp) (by simp); have c1 : w1.cell? ⟨w.heap.size, 1, none⟩ = some (.string t.s) := cell_below hb1 (by simp) (by simp); have c2 : w1.cell? ⟨w.heap.size, 2, none⟩ = some (.int .i64 t.n) := cell_below hb1 (by simp) (by simp); have c3 : w1.cell? ⟨w.heap.size, 3, none⟩ = some (.slice A t.l.length c) := cell_below hb1 (by simp) (by simp)) | (go_at_call 16; refine (HS.out _ (by assumption)).mono ?_; rintro e w2 ⟨rfl, hb3⟩))
    go_ret
    exact ⟨ret_bool (by rw [HX.out]), below_then hb2 hb2.size hb3⟩
  · have HX : Hid (t.good = false) := Lib.hid (by simp [Tm.good, hd])
    have hd' : ¬ (t.dep : Int) ≤ 64 := by omega
    go_enter Tryd.func6, Tryd.ntmps6
    go_wp2_with (go_at_call 15; refine (HD.out _ (hst _)).mono ?_; rintro e w1 ⟨rfl, hb1⟩; have hb2 := below_then (hst _) (by simp) hb1)
    go_ret
    exact ⟨ret_bool (by rw [HX.out]), hb2⟩

theorem many_k (k : Nat) : ∀ (l : List Tm) (n : Nat) (v : Value) (w : World) (ok : Nat → Prop), sizL l < k → Kd.tm.S w ok l v → WfL l → n ≤ 2000000000000000 →
    Calls Tryd.prog 14 #[v, .int .i64 n] w fun e w' => e = .returned (.int .i64 (manyL l n : Nat)) ∧ Below w.heap.size w w' := by
  induction k with
  | zero => intro l n v w ok hk; omega
  | succ k ih =>
    intro l n v w ok hk hv hwf hn
    obtain ⟨A, c, rfl, hl, hc, hA⟩ := hv
    unfold maxLen at hc
    have hlz := length_le_sizL l
    go_enter Tryd.func14, Tryd.ntmps14
    go_wp2_with fail
    go_loopw [1, 5] (fun m i wr => ∃ j d : Nat, j ≤ l.length ∧ i = .int .i64 j ∧ m = .int .i64 d ∧ d ≤ 2000000000000000 ∧ Hid (manyL (l.drop j) d = manyL l n) ∧ Below w.heap.size w wr) (fun _ i _ => l.length - (intOf i).toNat)
    case atStart => exact ⟨0, n, Nat.zero_le _, rfl, rfl, hn, Lib.hid (by simp), Below.refl _ _⟩
    case round =>
      obtain ⟨j, d, hj, rfl, rfl, hd, hdd, hb⟩ := hrel
      by_cases hlt : j < l.length
      · by_cases hd2 : d < 2000
        · have hd2' : (d : Int) < 2000 := by omega
          obtain ⟨b, o, u, rfl, hok, hlo, h0, h1, h2, h3, h4⟩ := tm_elem hA hlt
          have g0 := cell_below hb h0 hlo
          have g1 := cell_below hb h1 hlo
          have g2 := cell_below hb h2 hlo
          have g3 := cell_below hb h3 hlo
          have k4 := h4.below hb
          have hzj := siz_mem (List.getElem_mem hlt)
          have hwj := (WfL_at hwf hlt).parts
          have hsj := hwj.2.2.1
          have hkl : sizL l[j].l < k := by
            have : l[j].siz = sizL l[j].l + 1 := by cases l[j]; rfl
            omega
          have hwl := hwj.2.2.2
          have hmj : l[j].many d = manyL l[j].l (d + 1 + l[j].s.size / 200 * 2000) := by cases l[j]; simp [Tm.many]
          have HS : Hid (∀ (W : World) (hW : Below wr.heap.size wr W), Calls Tryd.prog 14 #[u, .int .i64 ((d : Int) + 1 + (l[j].s.size : Int) / 200 * 2000)] W fun e w' => e = .returned (.int .i64 (l[j].many d : Nat)) ∧ Below W.heap.size W w') := Lib.hid (fun W hW => by
            have := ih l[j].l (d + 1 + l[j].s.size / 200 * 2000) u W ok hkl (k4.below hW) hwl (by omega)
            rw [hmj]
            rwa [show ((d + 1 + l[j].s.size / 200 * 2000 : Nat) : Int) = (d : Int) + 1 + (l[j].s.size : Int) / 200 * 2000 by omega] at this)
          clear hmj
          have hml := Tm.many_le l[j] d (WfL_at hwf hlt) hd2
          have hn' : Hid (manyL (l.drop (j + 1)) (l[j].many d) = manyL l n) := Lib.hid (by
            rw [← hdd.out, List.drop_eq_getElem_cons hlt]
            simp only [manyL]
            rw [if_pos hd2])
          clear hA h0 h1 h2 h3 h4 ih hwj hwl hdd hwf k4 hkl hzj
          go_wp2_with fail
          go_still_tail 16, (by kernel_rfl)
          go_wp2_with (go_at_call 14; refine (HS.out _ (Below.refl _ wr).drew).mono ?_; rintro e w1 ⟨rfl, hb1⟩)
          go_roundw
          case rel => exact ⟨j + 1, l[j].many d, by omega, by go_num, rfl, hml, hn', below_drewc hb hb.size hb1⟩
          case measure => simp [intOf]; omega
        · have hd2' : ¬ (d : Int) < 2000 := by omega
          have HX : Hid (manyL l n = d) := Lib.hid (by rw [← hdd.out, manyL_big (by omega)])
          clear hA ih hdd
          go_wp2_with fail
          go_ret
          exact ⟨ret_int (by rw [HX.out]), hb⟩
      · have HX : Hid (manyL l n = d) := Lib.hid (by rw [← hdd.out, List.drop_of_length_le (by omega)]; rfl)
        clear hA ih hdd
        go_wp2_with fail
        go_ret
        exact ⟨ret_int (by rw [HX.out]), hb⟩
theorem Great_c (l : List Tm) (v : Value) (w : World) (ok : Nat → Prop) (hv : Kd.tm.S w ok l v) (hwf : WfL l) :
    Calls Tryd.prog 5 #[v] w fun e w' => e = .returned (.bool (great l)) ∧ Below w.heap.size w w' := by
  have HM := Lib.hid (many_k (sizL l + 1) l 0 v w ok (Nat.lt_succ_self _) hv hwf (by omega))
  have hle := manyL_le l 0 hwf (by omega)
  have HX : Hid (great l = decide (1000 < (manyL l 0 : Int))) := Lib.hid (by rw [great, decide_eq_decide]; omega)
  generalize manyL l 0 = m at *
  go_enter Tryd.func5, Tryd.ntmps5
  go_wp2_with (go_at_call 14; refine HM.out.mono ?_; rintro e w1 ⟨rfl, hb1⟩)
  go_ret
  exact ⟨ret_bool (by rw [HX.out]), hb1⟩
end Go.Proofs.YtgcbanljifalnaaDoor
/- Walks of layer 1, fifth part: structures are made. Conditions: the arguments read; at most a million arguments. -/
namespace Go.Proofs.YtgcbanljifalnaaDoor
open Go.RowKit

theorem Tryd.infoT : (Tryd.prog.info? 24).map (fun i => (i.zero, i.size, i.bytes)) = some (some (.agg #[.int .u8 0, .string ⟨#[]⟩, .int .i64 0, .slice none 0 0]), 4, 56) := by kernel_rfl

theorem Clone_c (l : List Tm) (v : Value) (w : World) (oks oki : Nat → Prop) (hv : Kd.tm.S2 w oks oki l v) (hz : l.length ≤ 1000000) :
    Calls Tryd.prog 40 #[v] w fun e w' => (∃ r, e = .returned r ∧ Kd.tm.Own 24 w' w.heap.size oki l r) ∧ Below w.heap.size w w' := by
  have hv0 := hv
  obtain ⟨A, c, rfl, hl, hc, hA⟩ := hv
  have hnil := @Lib.run_eql_slice_nil Tryd.prog
  cases A with
  | none =>
    obtain ⟨rfl, hc0⟩ : l = [] ∧ c = 0 := by
      rcases hA with ⟨h1, h2⟩ | ⟨b, o, ha, _⟩
      · exact ⟨h1, h2 rfl⟩
      · cases ha
    subst hc0
    clear hA
    go_enter Tryd.func40, Tryd.ntmps40
    go_wp2_with fail
    go_ret
    exact ⟨⟨_, rfl, Kd.Own.nil _ _ _ _ _⟩, Below.refl _ _⟩
  | some ad =>
    have HV := Lib.hid hv0
    have HT := Lib.hid Tryd.infoT
    clear hA hv0
    go_enter Tryd.func40, Tryd.ntmps40
    go_wp2_with (at_builtin; refine Kd.appendS Kd.tm w.heap.size oki (fun b => oks b ∧ b < w.heap.size) (fun b => oki b ∧ b < w.heap.size) rfl (.tmp 5) (.tmp 6) 22 24 (.agg #[.int .u8 0, .string ⟨#[]⟩, .int .i64 0, .slice none 0 0]) 56 rfl Tryd.underlying22 HT.out rfl (by decide) (.slice (some ⟨w.heap.size, 0, none⟩) 0 0) (.slice (some ad) l.length c) [] l rfl rfl ?HO ?HY ?hoky ?hbase ?hl ?_)
    case HO => exact Kd.Own.lit (d := Kd.tm) (xs := []) [] (Nat.le_refl _) rfl (by simp [maxLen]) (fun i x hx => by simp at hx)
    case HY => exact Kd.S2.below ((Below.refl _ w).alloc (Nat.le_refl _) _) (Kd.S2.bound HV.out)
    case hoky => exact fun x cs hk => Kd.tm.mono (fun b hb => ⟨hb.1.1, by simp only [Value.ownBlock]; intro he; injection he; have := hb.1.2; omega⟩) hk
    case hbase => simp
    case hl => simp only [List.length_nil]; omega
    intro v1 w1 hO1 hg1 hat1
    go_wp2_with fail
    go_ret
    exact ⟨⟨_, rfl, hO1⟩, ((Below.refl _ w).alloc (Nat.le_refl _) _).grown hg1 (by simp) (fun k hk => by simp only [Value.ownBlock] at hk; injection hk; omega)⟩

/-- What F makes. -/
def mkF (s : ByteArray) (l : List Tm) : Tm := if l = [] then ⟨3, s, 0, []⟩ else ⟨4, s, 0, l⟩
theorem F_c (s : ByteArray) (l : List Tm) (v : Value) (w : World) (oks oki : Nat → Prop) (hv : Kd.tm.S2 w oks oki l v) (hz : l.length ≤ 1000000) :
    Calls Tryd.prog 19 #[.string s, v] w fun e w' => (∃ r, e = .returned r ∧ TmV w' (fun b => oki b ∨ w.heap.size ≤ b) (mkF s l) r) ∧ Below w.heap.size w w' := by
  have HC := Lib.hid (fun (W : World) (hW : Below w.heap.size w W) => Clone_c l v W _ _ ((Kd.S2.bound hv).below hW) hz)
  obtain ⟨A, c, rfl, hl, hc, hA⟩ := hv
  by_cases h0 : l = []
  · subst h0
    have HX : Hid (mkF s [] = ⟨3, s, 0, []⟩) := Lib.hid rfl
    have HA := Lib.hid (fun W => A_c s W oki)
    clear hA HC
    go_enter Tryd.func19, Tryd.ntmps19
    go_wp2_with (go_at_call 22; refine (HA.out _).mono ?_; rintro e w1 ⟨rfl, hb1⟩; obtain ⟨c0, c1, c2, c3, f0, f1, f2, f3⟩ := box4 (block_below hb1 (by simp) (heap_new w _)))
    refine bodyPost_ret (v := .agg #[.int .u8 3, .string s, .int .i64 0, .slice none 0 0]) (by simp [results, Tryd.results19, go_sem, c0, c1, c2, c3]) rfl ⟨⟨_, rfl, ?_⟩, ?_⟩
    · rw [HX.out]
      exact ⟨_, rfl, Kd.S.nil _ _ _⟩
    · exact (below_then ((Below.refl _ w).alloc (Nat.le_refl _) _) (by simp) hb1).grown (grown_set4 _ _ _ _ _ _) (by have := hb1.size; simp at this; omega) (fun k hk => by injection hk; omega)
  · have h0' : ((l.length : Int) == 0) = false := by
      rw [beq_eq_false_iff_ne]; intro h; exact h0 (List.eq_nil_of_length_eq_zero (by omega))
    have HX : Hid (mkF s l = ⟨4, s, 0, l⟩) := Lib.hid (by unfold mkF; rw [if_neg h0])
    clear hA h0
    go_enter Tryd.func19, Tryd.ntmps19
    go_wp2_with (go_at_call 40; refine (HC.out _ ((Below.refl _ w).alloc (Nat.le_refl _) _)).mono ?_; rintro e w1 ⟨⟨r, rfl, hr⟩, hb1⟩; obtain ⟨A1, q1, rfl⟩ := Kd.Own.form hr; obtain ⟨c0, c1, c2, c3, f0, f1, f2, f3⟩ := box4 (block_below hb1 (by simp) (heap_new w _)))
    refine bodyPost_ret (v := .agg #[.int .u8 4, .string s, .int .i64 0, .slice A1 l.length q1]) (by simp [results, Tryd.results19, go_sem, c0, c1, c2, c3]) rfl ⟨⟨_, rfl, ?_⟩, ?_⟩
    · rw [HX.out]
      refine ⟨_, rfl, ?_⟩
      have hS := Kd.Own.S hr
      simp only [World.size_alloc] at hS
      refine Kd.S.mono ?_ (Kd.S.grown (grown_set4 _ _ _ _ _ _) ?_ hS)
      · rintro b (⟨h1, h2⟩ | h1)
        · exact .inl h1
        · exact .inr (by omega)
      · rintro b (⟨h1, h2⟩ | h1) he
        · injection he; omega
        · injection he; omega
    · exact (below_then ((Below.refl _ w).alloc (Nat.le_refl _) _) (by simp) hb1).grown (grown_set4 _ _ _ _ _ _) (by have := hb1.size; simp at this; omega) (fun k hk => by injection hk; omega)
end Go.Proofs.YtgcbanljifalnaaDoor
/- The iterator over a term's nodes: 'walk', 'nodes'. Sizes and depths by the iterator. Conditions: the arguments read; terms of at most a million nodes, where a statement says so. -/
namespace Go.Proofs.YtgcbanljifalnaaDoor
open Go.RowKit Go.Shelf
attribute [local go_sem] Oper.semAt_some

theorem wide_room (k : Nat) : (Fence.wide.depth.isSome = true → 1 ≤ k) := fun h => by simp [Fence.wide] at h
theorem YieldAt.any {m : Nat} (m' : Nat) {P : Program} {l : Nat} {args : Array Value} {W : World} {R : Ending → World → Prop} (h : YieldAt Fence.wide m P l args W R) : YieldAt Fence.wide m' P l args W R := by
  obtain ⟨fn, tmps, assign, body, hy, hR⟩ := h
  exact ⟨fn, tmps, assign, body, hy, ⟨hR.1, fun c cs _ => hR.2 c cs (room_wide _)⟩⟩

/-- A node as it is handed to yield: its depth, the term, its arguments' slice. -/
structure Nd where
  d : Nat
  t : Tm
  A : Option Addr
  c : Nat
def Nd.vals (x : Nd) : Array Value := #[.int .i64 x.d, .agg #[.int .u8 x.t.k, .string x.t.s, .int .i64 x.t.n, .slice x.A x.t.l.length x.c]]
def Nd.p (x : Nd) : Nat × Tm := (x.d, x.t)
mutual
/-- A term's nodes, with their depths, from the outside in. -/
def Tm.nodes : Tm → Nat → List (Nat × Tm)
  | ⟨k, s, n, l⟩, d => (d, ⟨k, s, n, l⟩) :: nodesL l (d + 1)
def nodesL : List Tm → Nat → List (Nat × Tm)
  | [], _ => []
  | t :: ts, d => t.nodes d ++ nodesL ts d
end
/-- What a round keeps for the iterator: what lay when the loop began, and every block of terms. -/
def KpT (n₀ : Nat) (W W' : World) : Prop := Below n₀ W W' ∧ ∀ (k : Nat) (c : Array Value), W.heap[k]? = some (.cells c 24 (0, 0)) → W'.heap[k]? = some (.cells c 24 (0, 0))
theorem KpT.trans {n₀ : Nat} {A B C : World} (h : KpT n₀ A B) (k : KpT n₀ B C) : KpT n₀ A C := ⟨h.1.trans k.1, fun i c hc => k.2 i c (h.2 i c hc)⟩
theorem KpT.of_below {n₀ : Nat} {A B : World} (h : Below A.heap.size A B) (hn : n₀ ≤ A.heap.size) : KpT n₀ A B := ⟨h.mono hn, fun i c hc => block_below h (Array.getElem?_eq_some_iff.1 hc).1 hc⟩
theorem KpT.put {n₀ : Nat} {w : World} (hn : n₀ ≤ w.heap.size) (W : World) (l : Nat) (o o' : Obj) (hl : w.heap.size ≤ l) (h : W.heap[l]? = some o) (hc : o.isCells = false) (hw : o.isWalk = false) : KpT n₀ W (W.putObj l o') :=
  ⟨belowK_b hn W l o o' hl h hc hw, fun k c hk => (World.putObj_heap_other (fun e => by subst e; rw [h] at hk; cases hk; cases hc)).trans hk⟩
theorem KpT.cell {n₀ : Nat} {W W' : World} (h : KpT n₀ W W') {B : Nat} {c : Array Value} (hB : W.heap[B]? = some (.cells c 24 (0, 0))) {o : Nat} {v : Value} (hc : W.cell? ⟨B, o, none⟩ = some v) : W'.cell? ⟨B, o, none⟩ = some v :=
  (cell_of_block ((h.2 B c hB).trans hB.symm) o).trans hc
theorem tmv_below {n₀ : Nat} {W W' : World} {t : Tm} {v : Value} (h : Below n₀ W W') (hv : TmV W (fun b => b < n₀) t v) : TmV W' (fun b => b < n₀) t v := TmV.move (fun b hb => h.block b hb) hv
theorem tms_below {n₀ : Nat} {W W' : World} {l : List Tm} {v : Value} (h : Below n₀ W W') (hv : Kd.tm.S W (fun b => b < n₀) l v) : Kd.tm.S W' (fun b => b < n₀) l v := Kd.S.move (fun b hb => h.block b hb) hv

open Go.RowKit Go.Shelf
attribute [local go_sem] Oper.semAt_some

/-- A store into a box that holds no term. -/
theorem kpT_set {n₀ : Nat} {W : World} {B : Nat} {ty : TypeId} {v : Value} (hn : n₀ ≤ W.heap.size) (hb : Boxed W B ty v) (hty : ty ≠ 24) (hB : n₀ ≤ B) (u : Value) : KpT n₀ W (W.setCell ⟨B, 0, none⟩ u) :=
  ⟨(Below.refl n₀ W).setCell (p := ⟨B, 0, none⟩) hB u, fun k c hk => (Below.heap_setCell W _ u k (fun e => by
    have e' : k = B := e
    subst e'
    rw [show W.heap[k]? = _ from hb] at hk
    injection hk with hk
    injection hk with _ hk
    exact hty hk)).trans hk⟩
end Go.Proofs.YtgcbanljifalnaaDoor
/- The variables of a list, by the iterator. Conditions: the arguments read; terms of at most a million nodes. -/
namespace Go.Proofs.YtgcbanljifalnaaDoor
open Go.RowKit Go.Shelf
attribute [local go_sem] Oper.semAt_some

theorem Kd.Own.cells {α : Type} {d : Kd α} {e : TypeId} {w : World} {base : Nat} {ok : Nat → Prop} {xs : List α} {v : Value} (h : d.Own e w base ok xs v) : ∀ k, v.ownBlock = some k → ∃ c : Array Value, w.heap[k]? = some (.cells c e (0, 0)) := by
  obtain ⟨cells, h1, h2⟩ := h
  obtain ⟨hl, h3⟩ := h1
  rcases h3 with ⟨rfl, hn⟩ | ⟨g, cap, cur, rfl, hg, hh, hc1, hc2, hc3, ht⟩
  · intro k hk; simp [Value.ownBlock] at hk
  · intro k hk
    simp only [Value.ownBlock] at hk
    injection hk with hk
    subst hk
    exact ⟨_, hh⟩
theorem KeepsFrom.of_below {B : Nat} {w w1 : World} (h : Below w.heap.size w w1) : KeepsFrom B w w1 := ⟨h.size, fun k o _ hk _ => block_below h (Array.getElem?_eq_some_iff.1 hk).1 hk⟩
section
variable {P : Program} {F : Fence} {nF : Nat} {ops : Array Oper} {rest : List Oper} {o : Oper} {a : Act} {Q : Exit → Act → World → Prop}
end

end Go.Proofs.YtgcbanljifalnaaDoor
/- The variables of a list, by the iterator: the walk. Conditions: the arguments read; terms of at most a million nodes. -/
namespace Go.Proofs.YtgcbanljifalnaaDoor
open Go.RowKit Go.Shelf
attribute [local go_sem] Oper.semAt_some

end Go.Proofs.YtgcbanljifalnaaDoor
/- Walks of layer 1: ground terms; the terms that are known. Conditions: the arguments read; terms of at most a million nodes. -/
namespace Go.Proofs.YtgcbanljifalnaaDoor
open Go.RowKit

theorem lit2 {w W : World} {ok : Nat → Prop} {t t' : Tm} {u u' : Value} (h : Kd.tm.S W ok t.l u) (h' : Kd.tm.S W ok t'.l u') (hW : Below w.heap.size w W) :
    Kd.tm.S (W.alloc (.cells #[.int .u8 t.k, .string t.s, .int .i64 t.n, u, .int .u8 t'.k, .string t'.s, .int .i64 t'.n, u'] 24)) (fun b => ok b ∨ w.heap.size ≤ b) [t, t'] (.slice (some ⟨W.heap.size, 0, none⟩) 2 2) := by
  have hk : ∀ j x, [t, t'][j]? = some x → Kd.tm.K W ok x (([.int .u8 t.k, .string t.s, .int .i64 t.n, u, .int .u8 t'.k, .string t'.s, .int .i64 t'.n, u'].drop (j * 4)).take 4) := fun j x hx => by
    match j, hx with
    | 0, hx => simp at hx; subst hx; exact TmK_iff.2 ⟨u, by simp, h⟩
    | 1, hx => simp at hx; subst hx; exact TmK_iff.2 ⟨u', by simp, h'⟩
    | j + 2, hx => simp at hx
  exact Kd.Own.S (Kd.Own.lit (d := Kd.tm) (e := 24) (base := w.heap.size) (ok := ok) (xs := [t, t']) [.int .u8 t.k, .string t.s, .int .i64 t.n, u, .int .u8 t'.k, .string t'.s, .int .i64 t'.n, u'] hW.size (by simp [Kd.tm]) (by simp [maxLen]) hk)
/-- The terms that are known. -/
def kV (n : Int) : Tm := ⟨1, ⟨#[]⟩, n, []⟩
def kG : Tm := ⟨4, ⟨#[103]⟩, 0, [kV 0, kV 1]⟩
def kF : Tm := ⟨4, ⟨#[102]⟩, 0, [kV 1, kG]⟩
/-- What is known of a world with the term in a box. -/
def Kn (w : World) (B : Nat) (u : Value) (W : World) : Prop :=
  Below w.heap.size w W ∧ Kd.tm.S W (fun b => w.heap.size ≤ b) [kV 1, kG] u ∧ W.heap[B]? = some (.cells #[.int .u8 4, .string ⟨#[102]⟩, .int .i64 0, u] 24 (0, 0))
theorem Kn.then {w W W' : World} {B : Nat} {u : Value} (h : Kn w B u W) (hb : Below W.heap.size W W') : Kn w B u W' :=
  ⟨below_then h.1 h.1.size hb, h.2.1.below hb, block_below hb (Array.getElem?_eq_some_iff.1 h.2.2).1 h.2.2⟩
theorem Kn.alloc {w W : World} {B : Nat} {u : Value} (h : Kn w B u W) (O : Obj) : Kn w B u (W.alloc O) := h.then ((Below.refl _ W).alloc (Nat.le_refl _) O)
theorem Kn.tmv {w W : World} {B : Nat} {u : Value} (h : Kn w B u W) : TmV W (fun b => w.heap.size ≤ b) kF (.agg #[.int .u8 4, .string ⟨#[102]⟩, .int .i64 0, u]) := ⟨u, rfl, h.2.1⟩
end Go.Proofs.YtgcbanljifalnaaDoor
/- The laws' frame: two terms in boxes. No condition. -/
namespace Go.Proofs.YtgcbanljifalnaaDoor
open Go.RowKit

/-- What is known of a world in which a term lies in a box. -/
structure Bx (w : World) (ok : Nat → Prop) (B : Nat) (t : Tm) (u : Value) (W : World) : Prop where
  below : Below w.heap.size w W
  box : W.heap[B]? = some (.cells #[.int .u8 t.k, .string t.s, .int .i64 t.n, u] 24 (0, 0))
  args : Kd.tm.S W ok t.l u
theorem Bx.then {w W W' : World} {ok : Nat → Prop} {B : Nat} {t : Tm} {u : Value} (h : Bx w ok B t u W) (hb : Below W.heap.size W W') : Bx w ok B t u W' :=
  ⟨below_then h.below h.below.size hb, block_below hb (Array.getElem?_eq_some_iff.1 h.box).1 h.box, h.args.below hb⟩
theorem Bx.alloc {w W : World} {ok : Nat → Prop} {B : Nat} {t : Tm} {u : Value} (h : Bx w ok B t u W) (O : Obj) : Bx w ok B t u (W.alloc O) := h.then ((Below.refl _ W).alloc (Nat.le_refl _) O)
theorem Bx.drew {w W : World} {ok : Nat → Prop} {B : Nat} {t : Tm} {u : Value} (h : Bx w ok B t u W) : Bx w ok B t u W.drew := h.then (Below.refl _ W).drew
theorem Bx.tmv {w W : World} {ok : Nat → Prop} {B : Nat} {t : Tm} {u : Value} (h : Bx w ok B t u W) : TmV W ok t (.agg #[.int .u8 t.k, .string t.s, .int .i64 t.n, u]) := ⟨u, rfl, h.args⟩
/-- The box's cells, and all that is known. -/
def BxH (w : World) (ok : Nat → Prop) (B : Nat) (t : Tm) (u : Value) (W : World) : Prop :=
  W.cell? ⟨B, 0, none⟩ = some (.int .u8 t.k) ∧ W.cell? ⟨B, 1, none⟩ = some (.string t.s) ∧ W.cell? ⟨B, 2, none⟩ = some (.int .i64 t.n) ∧ W.cell? ⟨B, 3, none⟩ = some u ∧ Bx w ok B t u W
theorem Bx.held {w W : World} {ok : Nat → Prop} {B : Nat} {t : Tm} {u : Value} (h : Bx w ok B t u W) : BxH w ok B t u W :=
  let ⟨c0, c1, c2, c3, _, _, _, _⟩ := box4 h.box
  ⟨c0, c1, c2, c3, h⟩
theorem BxH.bx {w W : World} {ok : Nat → Prop} {B : Nat} {t : Tm} {u : Value} (h : BxH w ok B t u W) : Bx w ok B t u W := h.2.2.2.2
theorem BxH.then {w W W' : World} {ok : Nat → Prop} {B : Nat} {t : Tm} {u : Value} (h : BxH w ok B t u W) (hb : Below W.heap.size W W') : BxH w ok B t u W' := (h.bx.then hb).held
/-- Two terms are boxed, the one behind the other. -/
theorem Bx.two {w : World} {ok : Nat → Prop} {a b : Tm} {u u' : Value} (h : Kd.tm.S w ok a.l u) (h' : Kd.tm.S w ok b.l u') :
    Bx w ok w.heap.size a u ((w.alloc (.cells #[.int .u8 a.k, .string a.s, .int .i64 a.n, u] 24)).alloc (.cells #[.int .u8 b.k, .string b.s, .int .i64 b.n, u'] 24)) ∧
    Bx w ok (w.heap.size + 1) b u' ((w.alloc (.cells #[.int .u8 a.k, .string a.s, .int .i64 a.n, u] 24)).alloc (.cells #[.int .u8 b.k, .string b.s, .int .i64 b.n, u'] 24)) := by
  have hst : ∀ O O' : Obj, Below w.heap.size w ((w.alloc O).alloc O') := fun O O' => ((Below.refl _ w).alloc (Nat.le_refl _) O).alloc (by simp) O'
  refine ⟨⟨hst _ _, ?_, h.below (hst _ _)⟩, ⟨hst _ _, ?_, h'.below (hst _ _)⟩⟩
  · exact (Below.heap_alloc _ _ _ (by simp)).trans (heap_new w _)
  · have := heap_new (w.alloc (.cells #[.int .u8 a.k, .string a.s, .int .i64 a.n, u] 24)) (.cells #[.int .u8 b.k, .string b.s, .int .i64 b.n, u'] 24)
    rwa [World.size_alloc] at this
theorem heap_alloc_if (w : World) (o : Obj) (k : Nat) : (w.alloc o).heap[k]? = if k = w.heap.size then some o else w.heap[k]? := by
  simp only [World.alloc, Array.getElem?_push]
theorem heap_at (w : World) (o : Obj) (k : Nat) (h : k = w.heap.size) : (w.alloc o).heap[k]? = some o := by rw [heap_alloc_if, if_pos h]
theorem heap_drew_if (w : World) (k : Nat) : w.drew.heap[k]? = w.heap[k]? := rfl
theorem lit1_at {W : World} {ok : Nat → Prop} {t : Tm} {u : Value} {b : Nat} (hb : W.heap[b]? = some (.cells #[.int .u8 t.k, .string t.s, .int .i64 t.n, u] 24 (0, 0)))
    (h : Kd.tm.S W ok t.l u) : Kd.tm.S W (fun _ => True) [t] (.slice (some ⟨b, 0, none⟩) 1 1) :=
  ⟨_, 1, rfl, Nat.le_refl _, by simp [maxLen], .inr ⟨b, 0, rfl, trivial, fun j x hx => by
    match j, hx with
    | 0, hx =>
      simp at hx; subst hx
      refine ⟨_, TmK_iff.2 ⟨u, rfl, h.mono (fun _ _ => trivial)⟩, fun i v hv => ?_⟩
      match i, hv with
      | 0, hv => simp at hv; subst hv; simp [World.cell?, hb]
      | 1, hv => simp at hv; subst hv; simp [World.cell?, hb]
      | 2, hv => simp at hv; subst hv; simp [World.cell?, hb]
      | 3, hv => simp at hv; subst hv; simp [World.cell?, hb]
      | i + 4, hv => simp at hv
    | j + 1, hx => simp at hx⟩⟩
theorem lit2_at {W : World} {ok ok' : Nat → Prop} {t t' : Tm} {u u' : Value} {b : Nat} (hb : W.heap[b]? = some (.cells #[.int .u8 t.k, .string t.s, .int .i64 t.n, u, .int .u8 t'.k, .string t'.s, .int .i64 t'.n, u'] 24 (0, 0)))
    (h : Kd.tm.S W ok t.l u) (h' : Kd.tm.S W ok' t'.l u') : Kd.tm.S W (fun _ => True) [t, t'] (.slice (some ⟨b, 0, none⟩) 2 2) := by
  refine ⟨_, 2, rfl, Nat.le_refl _, by simp [maxLen], .inr ⟨b, 0, rfl, trivial, fun j x hx => ?_⟩⟩
  match j, hx with
  | 0, hx =>
    simp at hx; subst hx
    refine ⟨_, TmK_iff.2 ⟨u, rfl, h.mono (fun _ _ => trivial)⟩, fun i v hv => ?_⟩
    match i, hv with
    | 0, hv => simp at hv; subst hv; simp [World.cell?, hb]
    | 1, hv => simp at hv; subst hv; simp [World.cell?, hb]
    | 2, hv => simp at hv; subst hv; simp [World.cell?, hb]
    | 3, hv => simp at hv; subst hv; simp [World.cell?, hb]
    | i + 4, hv => simp at hv
  | 1, hx =>
    simp at hx; subst hx
    refine ⟨_, TmK_iff.2 ⟨u', rfl, h'.mono (fun _ _ => trivial)⟩, fun i v hv => ?_⟩
    match i, hv with
    | 0, hv => simp at hv; subst hv; simp [World.cell?, hb, Kd.tm]
    | 1, hv => simp at hv; subst hv; simp [World.cell?, hb, Kd.tm]
    | 2, hv => simp at hv; subst hv; simp [World.cell?, hb, Kd.tm]
    | 3, hv => simp at hv; subst hv; simp [World.cell?, hb, Kd.tm]
    | i + 4, hv => simp at hv
  | j + 2, hx => simp at hx
theorem Kd.S.cap {α : Type} {d : Kd α} {w : World} {ok : Nat → Prop} {xs : List α} {A : Option Addr} {n c : Nat} (h : d.S w ok xs (.slice A n c)) : xs.length ≤ c := by
  obtain ⟨A', c', e, h1, h2, h3⟩ := h
  injection e with e1 e2 e3
  omega
theorem Kd.S.take {α : Type} {d : Kd α} {w : World} {ok : Nat → Prop} {xs : List α} {A : Option Addr} {n c m : Nat} (h : d.S w ok xs (.slice A n c)) (hm : m ≤ xs.length) : d.S w ok (xs.take m) (.slice A m c) := by
  obtain ⟨A', c', e, h1, h2, h3⟩ := h
  injection e with e1 e2 e3
  subst e1 e3
  refine ⟨A, c, by rw [List.length_take, Nat.min_eq_left hm], by rw [List.length_take]; omega, h2, ?_⟩
  rcases h3 with ⟨rfl, h4⟩ | ⟨b, o, ha, hb, hat⟩
  · exact .inl ⟨by simp, h4⟩
  · exact .inr ⟨b, o, ha, hb, fun j x hx => hat j x (by rw [List.getElem?_take] at hx; split at hx; exact hx; cases hx)⟩
end Go.Proofs.YtgcbanljifalnaaDoor
/- What is known along a walk: some slices of terms that read. No condition. -/
namespace Go.Proofs.YtgcbanljifalnaaDoor
open Go.RowKit

/-- Some slices of terms that read. -/
structure Ks (w : World) (L : List (List Tm × Value)) (W : World) : Prop where
  below : Below w.heap.size w W
  all : ∀ p ∈ L, Kd.tm.S W (fun _ => True) p.1 p.2
section
variable {w W W' : World} {L : List (List Tm × Value)}
theorem Ks.then (h : Ks w L W) (hb : Below W.heap.size W W') : Ks w L W' := ⟨below_then h.below h.below.size hb, fun p hp => (h.all p hp).below hb⟩
theorem Ks.alloc (h : Ks w L W) (O : Obj) : Ks w L (W.alloc O) := h.then ((Below.refl _ W).alloc (Nat.le_refl _) O)
theorem Ks.push {ok : Nat → Prop} {l : List Tm} {v : Value} (h : Ks w L W) (hs : Kd.tm.S W ok l v) : Ks w ((l, v) :: L) W := ⟨h.below, fun p hp => by
  rcases List.mem_cons.1 hp with rfl | hp
  · exact hs.mono (fun _ _ => trivial)
  · exact h.all p hp⟩
theorem Ks.get (h : Ks w L W) {l : List Tm} {v : Value} (hm : (l, v) ∈ L) : Kd.tm.S W (fun _ => True) l v := h.all _ hm
/-- Lists that are written out: one term; two. -/
theorem Ks.one (h : Ks w L W) (t : Tm) (u : Value) (hu : Kd.tm.S W (fun _ => True) t.l u) : Ks w (([t], .slice (some ⟨W.heap.size, 0, none⟩) 1 1) :: L) (W.alloc (.cells #[.int .u8 t.k, .string t.s, .int .i64 t.n, u] 24)) :=
  (h.alloc _).push (lit1_at (heap_new W _) (hu.below ((Below.refl _ W).alloc (Nat.le_refl _) _)))
theorem Ks.two (h : Ks w L W) (t t' : Tm) (u u' : Value) (hu : Kd.tm.S W (fun _ => True) t.l u) (hu' : Kd.tm.S W (fun _ => True) t'.l u') :
    Ks w (([t, t'], .slice (some ⟨W.heap.size, 0, none⟩) 2 2) :: L) (W.alloc (.cells #[.int .u8 t.k, .string t.s, .int .i64 t.n, u, .int .u8 t'.k, .string t'.s, .int .i64 t'.n, u'] 24)) :=
  (h.alloc _).push (lit2_at (heap_new W _) (hu.below ((Below.refl _ W).alloc (Nat.le_refl _) _)) (hu'.below ((Below.refl _ W).alloc (Nat.le_refl _) _)))
end
theorem mkF_cons (s : ByteArray) (t : Tm) (l : List Tm) : mkF s (t :: l) = ⟨4, s, 0, t :: l⟩ := by unfold mkF; rw [if_neg (by simp)]
end Go.Proofs.YtgcbanljifalnaaDoor
/- What a load of a whole term yields, out of its four cells. No condition. -/
namespace Go.Proofs.YtgcbanljifalnaaDoor
open Go.RowKit
theorem held_cell {W W' : World} (hb : Below W.heap.size W W') {b o : Nat} {v : Value} (h : W.cell? ⟨b, o, none⟩ = some v) : W'.cell? ⟨b, o, none⟩ = some v := cell_below hb h (cell_lt h)
theorem Bx.of {w W : World} {ok : Nat → Prop} {t : Tm} {u : Value} (hb : Below w.heap.size w W) (hu : Kd.tm.S W ok t.l u) : Bx w (fun _ => True) W.heap.size t u (W.alloc (.cells #[.int .u8 t.k, .string t.s, .int .i64 t.n, u] 24)) :=
  ⟨hb.alloc hb.size _, heap_new W _, (hu.below ((Below.refl _ W).alloc (Nat.le_refl _) _)).mono (fun _ _ => trivial)⟩

end Go.Proofs.YtgcbanljifalnaaDoor
/- Walks of layer 2: comparisons. Conditions: the arguments read. -/
namespace Go.Proofs.YtgcbanljifalnaaDoor
open Go.RowKit

/-- Two numbers. -/
def cmpI (a b : Int) : Int := if a < b then -1 else if b < a then 1 else 0
theorem cmp8_c (a b : Int) (w : World) : Calls Tryd.prog 25 #[.int .u8 a, .int .u8 b] w fun e w' => e = .returned (.int .i64 (cmpI a b)) ∧ w' = w := by
  have HX := Lib.hid (show cmpI a b = if a < b then -1 else if b < a then 1 else 0 from rfl)
  go_enter Tryd.func25, Tryd.ntmps25
  go_wp2
  all_goals go_ret
  all_goals exact ⟨ret_int (by rw [HX.out]; (repeat' split) <;> first | rfl | omega), rfl⟩
theorem cmp64_c (a b : Int) (w : World) : Calls Tryd.prog 26 #[.int .i64 a, .int .i64 b] w fun e w' => e = .returned (.int .i64 (cmpI a b)) ∧ w' = w := by
  have HX := Lib.hid (show cmpI a b = if a < b then -1 else if b < a then 1 else 0 from rfl)
  go_enter Tryd.func26, Tryd.ntmps26
  go_wp2
  all_goals go_ret
  all_goals exact ⟨ret_int (by rw [HX.out]; (repeat' split) <;> first | rfl | omega), rfl⟩
theorem cmpi_c (a b : Int) (w : World) : Calls Tryd.prog 27 #[.int .i64 a, .int .i64 b] w fun e w' => e = .returned (.int .i64 (cmpI a b)) ∧ w' = w := by
  have HX := Lib.hid (show cmpI a b = if a < b then -1 else if b < a then 1 else 0 from rfl)
  go_enter Tryd.func27, Tryd.ntmps27
  go_wp2
  all_goals go_ret
  all_goals exact ⟨ret_int (by rw [HX.out]; (repeat' split) <;> first | rfl | omega), rfl⟩
theorem num_c (a b : Int) (w : World) : Calls Tryd.prog 45 #[.int .i64 a, .int .i64 b] w fun e w' => e = .returned (.int .i64 (cmpI a b)) ∧ w' = w := by
  have HX := Lib.hid (show cmpI a b = if a < b then -1 else if b < a then 1 else 0 from rfl)
  go_enter Tryd.func45, Tryd.ntmps45
  go_wp2
  all_goals go_ret
  all_goals exact ⟨ret_int (by rw [HX.out]; (repeat' split) <;> first | rfl | omega), rfl⟩
/-- Two texts. -/
def cmpS (a b : ByteArray) : Int := if Op.bytesLess a.toList b.toList = true then -1 else if a = b then 0 else 1
theorem cmps_c (a b : ByteArray) (w : World) : Calls Tryd.prog 28 #[.string a, .string b] w fun e w' => e = .returned (.int .i64 (cmpS a b)) ∧ w' = w := by
  have HX := Lib.hid (show cmpS a b = if Op.bytesLess a.toList b.toList = true then -1 else if a = b then 0 else 1 from rfl)
  have HE : Hid ((!a.toList == b.toList) = false ↔ a = b) := Lib.hid (by
    simp only [Bool.not_eq_false', beq_iff_eq]
    exact ⟨toList_inj, fun h => by rw [h]⟩)
  go_enter Tryd.func28, Tryd.ntmps28
  go_wp2
  all_goals go_ret
  all_goals (refine ⟨ret_int ?_, rfl⟩; rw [HX.out])
  · rw [if_pos (by assumption)]
  · have h1 : Op.bytesLess a.toList b.toList = false := by assumption
    have h2 : (!a.toList == b.toList) = true := by assumption
    rw [if_neg (by rw [h1]; decide), if_neg (fun e => by rw [HE.out.2 e] at h2; cases h2)]
  · have h1 : Op.bytesLess a.toList b.toList = false := by assumption
    have h2 : (!a.toList == b.toList) = false := by assumption
    rw [if_neg (by rw [h1]; decide), if_pos (HE.out.1 h2)]
end Go.Proofs.YtgcbanljifalnaaDoor
/- Walks of layer 2: the standard order. Conditions: the arguments read. -/
namespace Go.Proofs.YtgcbanljifalnaaDoor
open Go.RowKit

/-- The first that tells. -/
def orI (a b : Int) : Int := if a ≠ 0 then a else b
mutual
def cmpT : Tm → Tm → Int
  | ⟨k, s, n, l⟩, ⟨k', s', n', l'⟩ => orI (cmpI k k') (orI (cmpI n n') (orI (cmpI l.length l'.length) (orI (cmpS s s') (cmpL l l'))))
def cmpL : List Tm → List Tm → Int
  | [], [] => 0
  | [], _ :: _ => -1
  | _ :: _, [] => 1
  | t :: ts, u :: us => orI (cmpT t u) (cmpL ts us)
end
def fstI : List Int → Int
  | [] => 0
  | c :: cs => orI c (fstI cs)
theorem fstI_take {cs : List Int} : ∀ {j : Nat} (hj : j < cs.length), (∀ c ∈ cs.take j, c = 0) → cs[j] ≠ 0 → fstI cs = cs[j] := by
  induction cs with
  | nil => intro j hj; simp at hj
  | cons c cs ih =>
    intro j hj h0 h1
    cases j with
    | zero => simp only [List.getElem_cons_zero] at h1 ⊢; simp [fstI, orI, h1]
    | succ j =>
      simp only [List.getElem_cons_succ] at h1 ⊢
      have hc : c = 0 := h0 c (by simp)
      simp only [fstI, orI, hc, ne_eq, not_true_eq_false, if_false]
      exact ih (by simpa using hj) (fun x hx => h0 x (by simp [hx])) h1
theorem fstI_zero : ∀ {cs : List Int}, (∀ c ∈ cs, c = 0) → fstI cs = 0
  | [], _ => rfl
  | c :: cs, h => by simp [fstI, orI, h c (by simp), fstI_zero (fun x hx => h x (List.mem_cons_of_mem _ hx))]
/-- Function values. -/
def Kd.fn : Kd (Nat × Array Value) := Kd.scalar (fun p => Value.func (.func p.1) #[] p.2) (fun _ => rfl)
end Go.Proofs.YtgcbanljifalnaaDoor
/- Walks of layer 2: Compare. Conditions: the arguments read. -/
namespace Go.Proofs.YtgcbanljifalnaaDoor
open Go.RowKit

/-- Two terms in boxes B and B'. -/
structure TwoB (B B' : Nat) (a b : Tm) (ok ok' : Nat → Prop) (u u' : Value) (W : World) : Prop where
  c : W.heap[B]? = some (.cells #[.int .u8 a.k, .string a.s, .int .i64 a.n, u] 24 (0, 0))
  d : W.heap[B']? = some (.cells #[.int .u8 b.k, .string b.s, .int .i64 b.n, u'] 24 (0, 0))
  s : Kd.tm.S W ok a.l u
  s' : Kd.tm.S W ok' b.l u'
theorem TwoB.then {B B' : Nat} {a b : Tm} {ok ok' : Nat → Prop} {u u' : Value} {W W' : World} (h : TwoB B B' a b ok ok' u u' W) (hb : Below W.heap.size W W') : TwoB B B' a b ok ok' u u' W' :=
  ⟨block_below hb (Array.getElem?_eq_some_iff.1 h.c).1 h.c, block_below hb (Array.getElem?_eq_some_iff.1 h.d).1 h.d, h.s.below hb, h.s'.below hb⟩
section
variable {B B' : Nat} {a b : Tm} {ok ok' : Nat → Prop} {u u' : Value} {W : World} (h : TwoB B B' a b ok ok' u u' W)
include h
end
end Go.Proofs.YtgcbanljifalnaaDoor
/- Walks of the library's insertion sort over terms. Conditions: the row is the call's own. -/
namespace Go.Proofs.YtgcbanljifalnaaDoor
open Go.RowKit
attribute [local go_sem ↓] Go.wp_at_zero Go.wp_at_succ

theorem cell_of_cells' {W : World} {B o : Nat} {c : Array Value} {t : TypeId} {v : Value} (h : W.heap[B]? = some (.cells c t (0, 0))) (hv : c[o]? = some v) : W.cell? ⟨B, o, none⟩ = some v := by simp [World.cell?, h, hv]
/-- Block g holds terms from its head on; what they lead to is ok, and not g. -/
structure Rw (g cap : Nat) (ok : Nat → Prop) (xs : List Tm) (W : World) : Prop where
  ng : ¬ ok g
  len : xs.length ≤ cap
  lim : cap ≤ maxLen
  cur : ∃ cur : Array Value, W.heap[g]? = some (.cells cur 24 (0, 0)) ∧ cur.size = cap * 4 ∧ ∀ j x, xs[j]? = some x → ∃ u, cur[j * 4]? = some (.int .u8 x.k) ∧ cur[j * 4 + 1]? = some (.string x.s) ∧ cur[j * 4 + 2]? = some (.int .i64 x.n) ∧ cur[j * 4 + 3]? = some u ∧ Kd.tm.S W ok x.l u
theorem Rw.then {g cap : Nat} {ok : Nat → Prop} {xs : List Tm} {W W' : World} (h : Rw g cap ok xs W) (hb : Below W.heap.size W W') : Rw g cap ok xs W' := by
  obtain ⟨h1, h2, h2', cur, h3, h4, h5⟩ := h
  exact ⟨h1, h2, h2', cur, block_below hb (Array.getElem?_eq_some_iff.1 h3).1 h3, h4, fun j x hx => let ⟨u, q0, q1, q2, q3, q4⟩ := h5 j x hx; ⟨u, q0, q1, q2, q3, q4.below hb⟩⟩
theorem Rw.lt {g cap : Nat} {ok : Nat → Prop} {xs : List Tm} {W : World} (h : Rw g cap ok xs W) : g < W.heap.size := by
  obtain ⟨h1, h2, h2', cur, h3, h4, h5⟩ := h; exact (Array.getElem?_eq_some_iff.1 h3).1
theorem Rw.elem {g cap : Nat} {ok : Nat → Prop} {xs : List Tm} {W : World} (h : Rw g cap ok xs W) {j : Nat} (hj : j < xs.length) :
    ∃ u, W.cell? ⟨g, j * 4, none⟩ = some (.int .u8 xs[j].k) ∧ W.cell? ⟨g, j * 4 + 1, none⟩ = some (.string xs[j].s) ∧ W.cell? ⟨g, j * 4 + 2, none⟩ = some (.int .i64 xs[j].n) ∧ W.cell? ⟨g, j * 4 + 3, none⟩ = some u ∧
      W.frozen? ⟨g, j * 4, none⟩ = false ∧ W.frozen? ⟨g, j * 4 + 1, none⟩ = false ∧ W.frozen? ⟨g, j * 4 + 2, none⟩ = false ∧ W.frozen? ⟨g, j * 4 + 3, none⟩ = false ∧ Kd.tm.S W ok xs[j].l u := by
  obtain ⟨h1, h2, h2', cur, h3, h4, h5⟩ := h
  obtain ⟨u, q0, q1, q2, q3, q4⟩ := h5 j xs[j] (List.getElem?_eq_getElem hj)
  have b0 := (Array.getElem?_eq_some_iff.1 q3).1
  refine ⟨u, cell_of_cells' h3 q0, cell_of_cells' h3 q1, cell_of_cells' h3 q2, cell_of_cells' h3 q3, ?_, ?_, ?_, ?_, q4⟩ <;> simp [World.frozen?, h3] <;> omega
theorem Rw.S {g cap : Nat} {ok : Nat → Prop} {xs : List Tm} {W : World} (h : Rw g cap ok xs W) : Kd.tm.S W (fun _ => True) xs (.slice (some ⟨g, 0, none⟩) xs.length cap) := by
  have hh := h
  obtain ⟨h1, h2, h2', cur, h3, h4, h5⟩ := h
  refine ⟨_, cap, rfl, h2, h2', .inr ⟨g, 0, rfl, trivial, fun j x hx => ?_⟩⟩
  obtain ⟨u, q0, q1, q2, q3, q4⟩ := h5 j x hx
  refine ⟨_, TmK_iff.2 ⟨u, rfl, q4.mono (fun _ _ => trivial)⟩, fun i v hv => ?_⟩
  have e : 0 + j * Kd.tm.sz + i = j * 4 + i := by simp [Kd.tm]
  rw [e]
  match i, hv with
  | 0, hv => simp at hv; subst hv; exact cell_of_cells' h3 q0
  | 1, hv => simp at hv; subst hv; exact cell_of_cells' h3 q1
  | 2, hv => simp at hv; subst hv; exact cell_of_cells' h3 q2
  | 3, hv => simp at hv; subst hv; exact cell_of_cells' h3 q3
  | i + 4, hv => simp at hv
theorem set_block {W : World} {g : Nat} {c : Array Value} {t : TypeId} (h : W.heap[g]? = some (.cells c t (0, 0))) (o : Nat) (v : Value) : (W.setCell ⟨g, o, none⟩ v).heap[g]? = some (.cells (c.setIfInBounds o v) t (0, 0)) := by
  simp [World.setCell, Array.getElem?_modify, h]
/-- Four stores. -/
def set4 (W : World) (g o : Nat) (a b c d : Value) : World := (((W.setCell ⟨g, o, none⟩ a).setCell ⟨g, o + 1, none⟩ b).setCell ⟨g, o + 2, none⟩ c).setCell ⟨g, o + 3, none⟩ d
theorem set4_grown (W : World) (g o : Nat) (a b c d : Value) : W.grownBy (set4 W g o a b c d) (some g) :=
  (((grown_set W g o a).trans (grown_set _ g (o + 1) b)).trans (grown_set _ g (o + 2) c)).trans (grown_set _ g (o + 3) d)
theorem Rw.set {g cap : Nat} {ok : Nat → Prop} {xs : List Tm} {W : World} (h : Rw g cap ok xs W) {i : Nat} (hi : i < xs.length) (x : Tm) (u : Value) (hu : Kd.tm.S W ok x.l u) : Rw g cap ok (xs.set i x) (set4 W g (i * 4) (.int .u8 x.k) (.string x.s) (.int .i64 x.n) u) := by
  have hg := set4_grown W g (i * 4) (.int .u8 x.k) (.string x.s) (.int .i64 x.n) u
  obtain ⟨h1, h2, h2', cur, h3, h4, h5⟩ := h
  have hok : ∀ b, ok b → some b ≠ some g := fun b hb e => by injection e with e; subst e; exact h1 hb
  refine ⟨h1, by simpa using h2, h2', _, set_block (set_block (set_block (set_block h3 _ _) _ _) _ _) _ _, by simpa using h4, fun j y hy => ?_⟩
  rw [List.getElem?_set] at hy
  split at hy
  · rename_i hij
    subst hij
    injection hy with hy
    subst hy
    refine ⟨u, ?_, ?_, ?_, ?_, Kd.S.grown hg hok hu⟩
    all_goals simp only [Array.getElem?_setIfInBounds, Array.size_setIfInBounds]
    · rw [if_neg (by omega), if_neg (by omega), if_neg (by omega), if_pos trivial, if_pos (by omega)]
    · rw [if_neg (by omega), if_neg (by omega), if_pos trivial, if_pos (by omega)]
    · rw [if_neg (by omega), if_pos trivial, if_pos (by omega)]
    · rw [if_pos trivial, if_pos (by omega)]
  · rename_i hij
    obtain ⟨v, q0, q1, q2, q3, q4⟩ := h5 j y hy
    refine ⟨v, ?_, ?_, ?_, ?_, Kd.S.grown hg hok q4⟩
    all_goals simp only [Array.getElem?_setIfInBounds, Array.size_setIfInBounds]
    · rw [if_neg (by omega), if_neg (by omega), if_neg (by omega), if_neg (by omega)]; exact q0
    · rw [if_neg (by omega), if_neg (by omega), if_neg (by omega), if_neg (by omega)]; exact q1
    · rw [if_neg (by omega), if_neg (by omega), if_neg (by omega), if_neg (by omega)]; exact q2
    · rw [if_neg (by omega), if_neg (by omega), if_neg (by omega), if_neg (by omega)]; exact q3
end Go.Proofs.YtgcbanljifalnaaDoor

/- Walks of layer 1's reference, second part: sizes, depths, names, shapes; how many nodes. Conditions: the arguments read; terms of at most a million nodes. -/
import Derived.Test.YtdidmhcblepcbaaW1
import Derived.Deep.Light
set_option linter.unusedVariables false
set_option maxRecDepth 20000
set_option linter.unusedSimpArgs false
namespace Go.Proofs.Ytdidmhcblepcbaa
open Go.RowKit

theorem V_c (n : Int) (w : World) (ok : Nat → Prop) :
    Calls Try.prog 24 #[.int .i64 n] w fun e w' => e = .returned (.agg #[.int .u8 1, .string ⟨#[]⟩, .int .i64 n, .slice none 0 0]) ∧ Below w.heap.size w w' := by
  go_enter Try.func24, Try.ntmps24
  go_wp2
  exact bodyPost_ret (v := .agg #[.int .u8 1, .string ⟨#[]⟩, .int .i64 n, .slice none 0 0]) (by simp [results, Try.results24, go_sem]) rfl ⟨rfl, (Below.refl _ _).alloc (Nat.le_refl _) _⟩
theorem I_c (n : Int) (w : World) (ok : Nat → Prop) :
    Calls Try.prog 56 #[.int .i64 n] w fun e w' => e = .returned (.agg #[.int .u8 2, .string ⟨#[]⟩, .int .i64 n, .slice none 0 0]) ∧ Below w.heap.size w w' := by
  go_enter Try.func56, Try.ntmps56
  go_wp2
  exact bodyPost_ret (v := .agg #[.int .u8 2, .string ⟨#[]⟩, .int .i64 n, .slice none 0 0]) (by simp [results, Try.results56, go_sem]) rfl ⟨rfl, (Below.refl _ _).alloc (Nat.le_refl _) _⟩
theorem A_c (s : ByteArray) (w : World) (ok : Nat → Prop) :
    Calls Try.prog 47 #[.string s] w fun e w' => e = .returned (.agg #[.int .u8 3, .string s, .int .i64 0, .slice none 0 0]) ∧ Below w.heap.size w w' := by
  go_enter Try.func47, Try.ntmps47
  go_wp2
  exact bodyPost_ret (v := .agg #[.int .u8 3, .string s, .int .i64 0, .slice none 0 0]) (by simp [results, Try.results47, go_sem]) rfl ⟨rfl, (Below.refl _ _).alloc (Nat.le_refl _) _⟩

theorem Index_c (l : List Int) (n : Int) (v : Value) (w : World) (ok : Nat → Prop) (hv : (Kd.int .i64).S w ok l v) :
    Calls Try.prog 72 #[v, .int .i64 n] w fun e w' => (∃ i : Int, e = .returned (.int .i64 i) ∧ (decide (0 ≤ i) = decide (n ∈ l)) ∧ -1 ≤ i) ∧ Below w.heap.size w w' := by
  obtain ⟨A, c, rfl, hl, hc, hA⟩ := hv
  unfold maxLen at hc
  go_enter Try.func72, Try.ntmps72
  go_wp2
  go_loopw [8] (fun i wr => ∃ j : Nat, j ≤ l.length ∧ i = .int .i64 j ∧ n ∉ l.take j ∧ Below w.heap.size w wr) (fun i _ => l.length - (intOf i).toNat)
  case atStart => exact ⟨0, Nat.zero_le _, rfl, by simp, Below.refl _ _⟩
  case round =>
    obtain ⟨j, hj, rfl, hn, hb⟩ := hrel
    by_cases hlt : j < l.length
    · obtain ⟨b, o, rfl, hok, hlo, h0⟩ := int_elem hA hlt
      have g0 := cell_below hb h0 hlo
      clear hA h0
      by_cases he : (n == l[j]) = true
      · have : n ∈ l := by rw [beq_iff_eq] at he; rw [he]; exact List.getElem_mem hlt
        go_wp2
        go_ret
        exact ⟨⟨j, rfl, by simp [this], by omega⟩, hb⟩
      · have he' : (n == l[j]) = false := by simpa using he
        have hn' : n ∉ l.take (j + 1) := by
          rw [take_succ_at l hlt, List.mem_append, List.mem_singleton]
          rintro (h | h)
          · exact hn h
          · exact he (by rw [← h]; simp)
        clear he
        go_wp2
        go_roundw
        case rel => exact ⟨j + 1, by omega, by go_num, hn', hb⟩
        case measure => simp [intOf]; omega
    · clear hA
      rw [List.take_of_length_le (by omega)] at hn
      go_wp2
      go_ret
      exact ⟨⟨-1, rfl, by simp [hn], by omega⟩, hb⟩
theorem Contains_c (l : List Int) (n : Int) (v : Value) (w : World) (ok : Nat → Prop) (hv : (Kd.int .i64).S w ok l v) :
    Calls Try.prog 55 #[v, .int .i64 n] w fun e w' => e = .returned (.bool (decide (n ∈ l))) ∧ Below w.heap.size w w' := by
  have H := Index_c l n v w ok hv
  go_enter Try.func55, Try.ntmps55
  go_wp2_with (go_at_call 72; refine H.mono ?_; rintro e w1 ⟨⟨i, rfl, hi, hlo⟩, hb1⟩; have HI := Lib.hid hi; clear hi)
  go_ret
  exact ⟨ret_bool (by rw [← HI.out]), hb1⟩

def chOk (c : Nat) : Bool := decide ((32 ≤ c ∧ c ≤ 126) ∨ c = 9 ∨ c = 10)
theorem chOk_no {c : Nat} (h : ((c : Int) < 32 ∨ 126 < (c : Int)) ∧ ¬ (c : Int) = 9 ∧ ¬ (c : Int) = 10) : chOk c = false := by
  simp only [chOk, decide_eq_false_iff_not]; omega
theorem chOk_yes {c : Nat} (h : ((32 ≤ (c : Int)) ∧ (c : Int) ≤ 126) ∨ (c : Int) = 9 ∨ (c : Int) = 10) : chOk c = true := by
  simp only [chOk, decide_eq_true_eq]; omega
theorem nameOk_eq (s : ByteArray) : nameOk s = (decide (s.size ≤ 32) && s.data.toList.all fun c => chOk c.toNat) := rfl
theorem bytes_take {s : ByteArray} {j : Nat} (hj : j < s.size) : s.data.toList.take (j + 1) = s.data.toList.take j ++ [s[j]] := by
  rw [List.take_succ_eq_append_getElem (by simpa using hj)]; rfl
/-- What is asked of a node, but for its arguments. -/
def nodeOk (k : Int) (s : ByteArray) (n : Int) (len : Int) : Bool :=
  if k = 1 then decide (0 ≤ n) && s.toList.isEmpty && decide (len = 0)
  else if k = 2 then s.toList.isEmpty && decide (len = 0)
  else if k = 3 then decide (n = 0) && decide (len = 0) && nameOk s
  else decide (k = 4) && decide (n = 0) && decide (0 < len) && decide (len ≤ 16) && nameOk s
theorem empty_iff (s : ByteArray) : s.toList.isEmpty = decide (s.size = 0) := by
  rw [ByteArray.toList_eq, Bool.eq_iff_iff, List.isEmpty_iff, decide_eq_true_eq]
  constructor
  · intro h; have := congrArg List.length h; simpa using this
  · intro h; apply List.eq_nil_of_length_eq_zero; simpa using h
theorem shp_eq (k : Int) (s : ByteArray) (n : Int) (l : List Tm) : Tm.shp ⟨k, s, n, l⟩ = (shpL l && nodeOk k s n l.length) := by
  have hl : decide (l = []) = decide ((l.length : Int) = 0) := by
    rw [decide_eq_decide]; constructor
    · rintro rfl; rfl
    · intro h; exact List.eq_nil_of_length_eq_zero (by omega)
  simp only [Tm.shp, nodeOk, empty_iff, hl]
  by_cases h0 : l = []
  · subst h0
    simp [shpL]
  · have : ¬ ((l.length : Int) = 0) := by intro h; exact h0 (List.eq_nil_of_length_eq_zero (by omega))
    simp only [this, decide_false, Bool.and_false, Bool.false_and]
    split
    · simp
    · split
      · simp
      · split
        · simp
        · have e : decide (0 < l.length ∧ l.length ≤ 16) = (decide (0 < (l.length : Int)) && decide ((l.length : Int) ≤ 16)) := by
            rw [Bool.eq_iff_iff]; simp; omega
          rw [e, Bool.and_comm (shpL l)]
          simp only [Bool.and_assoc]
theorem shpL_at_false : ∀ {l : List Tm} {j : Nat} (hj : j < l.length), l[j].shp = false → shpL l = false
  | t :: ts, 0, _, h => by simp only [List.getElem_cons_zero] at h; simp [shpL, h]
  | t :: ts, j + 1, hj, h => by
    simp only [List.getElem_cons_succ] at h
    simp [shpL, shpL_at_false (by simpa using hj) h]

end Go.Proofs.Ytdidmhcblepcbaa

/- Walks of layer 1: names and whether a term is good, by the program's own closures. Conditions: the arguments read. -/
import Derived.Test.YtgoeglahmlpmeaaW3
import Derived.Shelf.Abstract
import Derived.Lib.ConvBytes
set_option linter.unusedVariables false
set_option linter.unusedSimpArgs false
namespace Go.Proofs.Ytgoeglahmlpmeaa
open Go.RowKit

def charsOk (s : ByteArray) : Bool := s.data.toList.all fun c => chOk c.toNat
theorem name1_c (x : Nat) (hx : x < 256) (w : World) :
    Calls Try.prog 83 #[.int .u8 x] w fun e w' => e = .returned (.bool (!chOk x)) ∧ w' = w := by
  go_enter Try.func83, Try.ntmps83
  go_wp2
  all_goals go_ret
  all_goals exact ⟨ret_bool (by go_light; simp only [chOk]; (try simp only [bne_iff_ne, ne_eq, bne_eq_false_iff_eq] at *); (rw [Bool.eq_iff_iff]; simp; omega)), rfl⟩

theorem idxB_c (s : ByteArray) (b c : Nat) (w : World) (hs : s.size ≤ 140737488351232) (hb : b < w.heap.size) (hcl : ∀ j (h : j < s.size), w.cell? ⟨b, j, none⟩ = some (.int .u8 s[j].toNat)) :
    Calls Try.prog 87 #[.slice (some ⟨b, 0, none⟩) s.size c, .func (.func 83) #[] #[]] w fun e w' => (∃ i : Int, e = .returned (.int .i64 i) ∧ (decide (0 ≤ i) = !charsOk s) ∧ -1 ≤ i) ∧ w' = w := by
  go_enter Try.func87, Try.ntmps87
  go_wp2
  go_loop [8] (fun i => ∃ j : Nat, j ≤ s.size ∧ i = .int .i64 j ∧ Hid ((s.data.toList.take j).all (fun c => chOk c.toNat) = true)) (fun i => s.size - (intOf i).toNat)
  case atStart => exact ⟨0, Nat.zero_le _, rfl, Lib.hid (by simp)⟩
  case round =>
    obtain ⟨j, hj, rfl, hn⟩ := hrel
    by_cases hlt : j < s.size
    · have g0 := hcl j hlt
      have hch : Hid ((s.data.toList.take (j + 1)).all (fun c => chOk c.toNat) = chOk s[j].toNat) := Lib.hid (by rw [bytes_take hlt, List.all_append, hn.out]; simp)
      have hno : Hid (chOk s[j].toNat = false → charsOk s = false) := Lib.hid (by
        intro h
        unfold charsOk
        rw [List.all_eq_false]
        exact ⟨s[j], by simp [ByteArray.getElem_eq_getElem_data], by simp [h]⟩)
      have HC := Lib.hid (name1_c s[j].toNat (by have := s[j].toNat_lt; omega) w)
      clear hn hcl
      by_cases hok : chOk s[j].toNat = true
      · have hok' : (!chOk s[j].toNat) = false := by simp [hok]
        go_wp2_with (go_at_call 83; refine HC.out.mono ?_; rintro e w1 ⟨rfl, rfl⟩)
        go_round
        case rel => exact ⟨j + 1, by omega, by go_num, Lib.hid (hch.out.trans hok)⟩
        case measure => simp [intOf]; omega
      · have hok1 : chOk s[j].toNat = false := by simpa using hok
        have hok' : (!chOk s[j].toNat) = true := by simp [hok1]
        clear hok
        go_wp2_with (go_at_call 83; refine HC.out.mono ?_; rintro e w1 ⟨rfl, rfl⟩)
        go_ret
        exact ⟨⟨j, rfl, by rw [hno.out hok1]; simp, by omega⟩, rfl⟩
    · have hx := hn.out
      rw [List.take_of_length_le (by simp; omega)] at hx
      have HX : Hid (charsOk s = true) := Lib.hid hx
      clear hx hn hcl
      go_wp2
      go_ret
      exact ⟨⟨-1, rfl, by rw [HX.out]; rfl, by omega⟩, rfl⟩
theorem hasB_c (s : ByteArray) (b c : Nat) (w : World) (hs : s.size ≤ 140737488351232) (hb : b < w.heap.size) (hcl : ∀ j (h : j < s.size), w.cell? ⟨b, j, none⟩ = some (.int .u8 s[j].toNat)) :
    Calls Try.prog 82 #[.slice (some ⟨b, 0, none⟩) s.size c, .func (.func 83) #[] #[]] w fun e w' => e = .returned (.bool (!charsOk s)) ∧ w' = w := by
  have H := Lib.hid (idxB_c s b c w hs hb hcl)
  clear hcl
  go_enter Try.func82, Try.ntmps82
  go_wp2_with (go_at_call 87; refine H.out.mono ?_; rintro e w1 ⟨⟨i, rfl, hi, hlo⟩, rfl⟩; have HI := Lib.hid hi; clear hi)
  go_ret
  exact ⟨ret_bool (by rw [← HI.out]), rfl⟩
theorem name_c (s : ByteArray) (w : World) (hs : s.size ≤ 140737488351232) :
    Calls Try.prog 74 #[.string s] w fun e w' => e = .returned (.bool (nameOk s)) ∧ Below w.heap.size w w' := by
  by_cases h32 : s.size ≤ 32
  · have HX : Hid (nameOk s = (decide (s.size ≤ 32) && charsOk s)) := Lib.hid rfl
    have hconv := Lib.run_convert_string_bytes (P := Try.prog) w 9 83 5 s Try.underlying9 Try.underlying83 Try.underlying5
    have HH := Lib.hid (hasB_c s w.heap.size (grownCap w s.size 0 5) (Lib.bytesWorld w 5 s) hs (by rw [Lib.bytesWorld_size]; omega) (fun j hj => by
      rw [Lib.bytesWorld_cell w _ s j hj]
      simp [List.getD, hj, ByteArray.getElem_eq_getElem_data]))
    have hB : Below w.heap.size w (Lib.bytesWorld w 5 s) := ⟨rfl, rfl, rfl, by rw [Lib.bytesWorld_size]; omega, fun k hk => Lib.bytesWorld_at_old w _ s k hk⟩
    generalize Lib.bytesWorld w 5 s = W1 at hconv HH hB
    go_enter Try.func74, Try.ntmps74
    go_wp2_with (go_at_call 82; refine HH.out.mono ?_; rintro e w1 ⟨rfl, rfl⟩)
    go_ret
    exact ⟨ret_bool (by rw [HX.out]; simp [h32]), hB⟩
  · go_enter Try.func74, Try.ntmps74
    go_wp2_with fail
    go_ret
    exact ⟨ret_bool (by rw [nameOk_eq]; simp [h32]), Below.refl _ _⟩
end Go.Proofs.Ytgoeglahmlpmeaa

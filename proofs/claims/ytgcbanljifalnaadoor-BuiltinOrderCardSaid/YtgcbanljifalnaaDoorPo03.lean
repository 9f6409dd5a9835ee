import Derived.Test.YtgcbanljifalnaaDoorPo02
import Derived.Deep.RegionHeld3
import Derived.Deep.DrawnRows
set_option linter.unusedVariables false
set_option maxRecDepth 20000
set_option linter.unusedSimpArgs false
/- Walks of layer 2's reference: texts. Conditions: they are no longer than what is borne. -/
namespace Go.Proofs.YtgcbanljifalnaaDoor
open Go.RowKit
attribute [local go_sem ↓] Go.wp_at_zero Go.wp_at_succ
/-- Two texts as lists. -/
def tx (l m : List UInt8) : Int := if Op.bytesLess l m = true then -1 else if l = m then 0 else 1
theorem tx_cons (x y : UInt8) (l m : List UInt8) : tx (x :: l) (y :: m) = if x = y then tx l m else if x < y then -1 else 1 := by
  unfold tx
  by_cases h : x = y
  · subst h
    have : ¬ x < x := by simp
    simp [Op.bytesLess, this]
  · by_cases h1 : x < y
    · simp [Op.bytesLess, h, h1]
    · simp [Op.bytesLess, h, h1]
theorem tx_nil_cons (y : UInt8) (m : List UInt8) : tx [] (y :: m) = -1 := by simp [tx, Op.bytesLess]
theorem tx_cons_nil (x : UInt8) (l : List UInt8) : tx (x :: l) [] = 1 := by simp [tx, Op.bytesLess]
theorem tx_nil : tx [] [] = 0 := by simp [tx, Op.bytesLess]
theorem tx_at : ∀ {l m : List UInt8} {j : Nat} (hj : j < l.length) (hj' : j < m.length), (∀ i (h : i < j), l[i]'(by omega) = m[i]'(by omega)) → l[j] ≠ m[j] → tx l m = if l[j] < m[j] then -1 else 1
  | x :: l, y :: m, 0, _, _, _, h => by
    simp only [List.getElem_cons_zero] at h ⊢
    rw [tx_cons, if_neg h]
  | x :: l, y :: m, j + 1, hj, hj', h0, h => by
    simp only [List.getElem_cons_succ] at h ⊢
    have h00 : x = y := h0 0 (by omega)
    rw [tx_cons, if_pos h00]
    exact tx_at (by simpa using hj) (by simpa using hj') (fun i hi => by have := h0 (i + 1) (by omega); simpa using this) h
theorem tx_end : ∀ {l m : List UInt8}, (∀ i (h : i < l.length) (h' : i < m.length), l[i] = m[i]) → tx l m = cmpI l.length m.length
  | [], [], _ => by simp [tx_nil, cmpI]
  | [], y :: m, _ => by rw [tx_nil_cons]; simp [cmpI] <;> omega
  | x :: l, [], _ => by rw [tx_cons_nil]; simp [cmpI] <;> omega
  | x :: l, y :: m, h => by
    have h00 : x = y := h 0 (by simp) (by simp)
    rw [tx_cons, if_pos h00, tx_end (fun i hi hi' => by have := h (i + 1) (by simpa using hi) (by simpa using hi'); simpa using this)]
    simp only [List.length_cons, cmpI]
    (repeat' split) <;> omega
theorem cmpS_tx (a b : ByteArray) : cmpS a b = tx a.data.toList b.data.toList := by
  unfold cmpS tx
  rw [ByteArray.toList_eq, ByteArray.toList_eq]
  by_cases h : a = b
  · subst h; simp
  · have h' : a.data.toList ≠ b.data.toList := fun e => h (by rw [← ByteArray.toList_eq, ← ByteArray.toList_eq] at e; exact toList_inj e)
    simp [h, h']
theorem cmpS_at {a b : ByteArray} {j : Nat} (hj : j < a.size) (hj' : j < b.size) (h : ∀ i (h : i < j), a[i]'(by omega) = b[i]'(by omega)) (hne : a[j] ≠ b[j]) : cmpS a b = if (a[j].toNat : Int) < b[j].toNat then -1 else 1 := by
  rw [cmpS_tx, tx_at (j := j) (by simpa using hj) (by simpa using hj') (fun i hi => by have := h i hi; simpa [ByteArray.getElem_eq_getElem_data] using this) (by simpa [ByteArray.getElem_eq_getElem_data] using hne)]
  simp only [Array.getElem_toList, ← ByteArray.getElem_eq_getElem_data]
  by_cases hx : a[j] < b[j]
  · rw [if_pos hx, if_pos (by have := UInt8.lt_iff_toNat_lt.1 hx; omega)]
  · rw [if_neg hx, if_neg (fun e => hx (UInt8.lt_iff_toNat_lt.2 (by omega)))]
theorem cmpS_end {a b : ByteArray} (h : ∀ i (h : i < a.size) (h' : i < b.size), a[i] = b[i]) : cmpS a b = cmpI a.size b.size := by
  rw [cmpS_tx, tx_end (fun i hi hi' => by
    have := h i (by simpa using hi) (by simpa using hi')
    simpa [ByteArray.getElem_eq_getElem_data] using this)]
  simp
set_option maxRecDepth 100000 in
set_option maxHeartbeats 1600000 in
theorem texts_c (a b : ByteArray) (w : World) (ha : a.size ≤ 140737488351232) (hb : b.size ≤ 140737488351232) : Calls Tryd.prog 46 #[.string a, .string b] w fun e w' => e = .returned (.int .i64 (cmpS a b)) ∧ Below w.heap.size w w' := by
  go_enter Tryd.func46, Tryd.ntmps46
  go_wp2
  go_loopw [5] (fun i wr => ∃ j : Nat, j ≤ a.size ∧ j ≤ b.size ∧ i = .int .i64 j ∧ Hid (∀ i (h : i < j) (h1 : i < a.size) (h2 : i < b.size), a[i] = b[i]) ∧ Below w.heap.size w wr) (fun i _ => a.size - (intOf i).toNat)
  case atStart => exact ⟨0, Nat.zero_le _, Nat.zero_le _, rfl, Lib.hid (fun i h => by omega), Below.refl _ _⟩
  case round =>
    obtain ⟨j, hj, hj', rfl, hn, hbe⟩ := hrel
    by_cases hlt : j < a.size
    · by_cases hlt' : j < b.size
      · have h1 : (j : Int) < a.size := by omega
        have h2 : (j : Int) < b.size := by omega
        by_cases hne : a[j] = b[j]
        · have hne' : ((a[j].toNat : Int) != (b[j].toNat : Int)) = false := by rw [hne]; simp
          have HS : Hid (∀ i (h : i < j + 1) (h1 : i < a.size) (h2 : i < b.size), a[i] = b[i]) := Lib.hid (fun i hi q1 q2 => by
            rcases Nat.lt_or_ge i j with h | h
            · exact hn.out i h q1 q2
            · obtain rfl : i = j := by omega
              exact hne)
          clear hne hn
          go_wp2
          refine wp_region_held_drew (S := (fun W => Below w.heap.size w W)) (by kernel_rfl) ?_ (fun hHeld => ?_)
          · exact hbe.drew
          change wpAnyH _ .any _ _ _ 7 (Array.replicate 7 false) _ _
          refine wpAnyH_take (i := 0) (oi := ⟨some 18, _, _, _, _, _⟩) (v := ?_) rfl (by kernel_rfl) (by kernel_rfl) (by kernel_rfl) (fun _ _ _ h => h) (Or.inl ⟨by rfl, ?_⟩) (by assumption) ?_
          rotate_left
          · (intro w hSw; (try dsimp only at hSw); go_simp; try (with_reducible rfl))
          (try simp only [Act.put, List.setIfInBounds_toArray, List.set_cons_zero, List.set_cons_succ])
          refine wpAnyH_take (i := 1) (oi := ⟨some 19, _, _, _, _, _⟩) (v := ?_) rfl (by kernel_rfl) (by kernel_rfl) (by kernel_rfl) (fun _ _ _ h => h) (Or.inl ⟨by rfl, ?_⟩) (by assumption) ?_
          rotate_left
          · (intro w hSw; (try dsimp only at hSw); go_simp; try (with_reducible rfl))
          (try simp only [Act.put, List.setIfInBounds_toArray, List.set_cons_zero, List.set_cons_succ])
          refine wpAnyH_take (i := 2) (oi := ⟨some 20, _, _, _, _, _⟩) (v := ?_) rfl (by kernel_rfl) (by kernel_rfl) (by kernel_rfl) (fun _ _ _ h => h) (Or.inl ⟨by rfl, ?_⟩) (by assumption) ?_
          rotate_left
          · (intro w hSw; (try dsimp only at hSw); go_simp; try (with_reducible rfl))
          (try simp only [Act.put, List.setIfInBounds_toArray, List.set_cons_zero, List.set_cons_succ])
          refine wpAnyH_take (i := 3) (oi := ⟨some 21, _, _, _, _, _⟩) (v := ?_) rfl (by kernel_rfl) (by kernel_rfl) (by kernel_rfl) (fun _ _ _ h => h) (Or.inl ⟨by rfl, ?_⟩) (by assumption) ?_
          rotate_left
          · (intro w hSw; (try dsimp only at hSw); go_simp; try (with_reducible rfl))
          (try simp only [Act.put, List.setIfInBounds_toArray, List.set_cons_zero, List.set_cons_succ])
          refine wpAnyH_take (i := 4) (oi := ⟨some 22, _, _, _, _, _⟩) (v := ?_) rfl (by kernel_rfl) (by kernel_rfl) (by kernel_rfl) (fun _ _ _ h => h) (Or.inl ⟨by rfl, ?_⟩) (by assumption) ?_
          rotate_left
          · (intro w hSw; (try dsimp only at hSw); go_simp; try (with_reducible rfl))
          (try simp only [Act.put, List.setIfInBounds_toArray, List.set_cons_zero, List.set_cons_succ])
          refine wpAnyH_take (i := 5) (oi := ⟨some 23, _, _, _, _, _⟩) (v := ?_) rfl (by kernel_rfl) (by kernel_rfl) (by kernel_rfl) (fun _ _ _ h => h) (Or.inl ⟨by rfl, ?_⟩) (by assumption) ?_
          rotate_left
          · (intro w hSw; (try dsimp only at hSw); go_simp; try (with_reducible rfl))
          (try simp only [Act.put, List.setIfInBounds_toArray, List.set_cons_zero, List.set_cons_succ])
          refine wpAnyH_take (i := 6) (oi := ⟨some 24, _, _, _, _, _⟩) (v := ?_) rfl (by kernel_rfl) (by kernel_rfl) (by kernel_rfl) (fun _ _ _ h => h) (Or.inl ⟨by rfl, ?_⟩) (by assumption) ?_
          rotate_left
          · (intro w hSw; (try dsimp only at hSw); go_simp; try (with_reducible rfl))
          (try simp only [Act.put, List.setIfInBounds_toArray, List.set_cons_zero, List.set_cons_succ])
          refine wpAnyH_done (by kernel_rfl) ?_ _
          go_wp2
          go_roundw
          case rel => exact ⟨j + 1, by omega, by omega, by go_num, HS, hHeld⟩
          case measure => simp [intOf]; omega
        · have hne' : ((a[j].toNat : Int) != (b[j].toNat : Int)) = true := by
            rw [bne_iff_ne]; intro e; exact hne (UInt8.toNat_inj.1 (by omega))
          have HS := Lib.hid (cmpS_at hlt hlt' (fun i hi => hn.out i hi _ _) hne)
          clear hne hn
          by_cases hl : (a[j].toNat : Int) < b[j].toNat
          · rw [if_pos hl] at HS
            go_wp2
            refine wp_region_held_drew (S := (fun W => Below w.heap.size w W)) (by kernel_rfl) ?_ (fun hHeld => ?_)
            · exact hbe.drew
            change wpAnyH _ .any _ _ _ 7 (Array.replicate 7 false) _ _
            refine wpAnyH_take (i := 0) (oi := ⟨some 18, _, _, _, _, _⟩) (v := ?_) rfl (by kernel_rfl) (by kernel_rfl) (by kernel_rfl) (fun _ _ _ h => h) (Or.inl ⟨by rfl, ?_⟩) (by assumption) ?_
            rotate_left
            · (intro w hSw; (try dsimp only at hSw); go_simp; try (with_reducible rfl))
            (try simp only [Act.put, List.setIfInBounds_toArray, List.set_cons_zero, List.set_cons_succ])
            refine wpAnyH_take (i := 1) (oi := ⟨some 19, _, _, _, _, _⟩) (v := ?_) rfl (by kernel_rfl) (by kernel_rfl) (by kernel_rfl) (fun _ _ _ h => h) (Or.inl ⟨by rfl, ?_⟩) (by assumption) ?_
            rotate_left
            · (intro w hSw; (try dsimp only at hSw); go_simp; try (with_reducible rfl))
            (try simp only [Act.put, List.setIfInBounds_toArray, List.set_cons_zero, List.set_cons_succ])
            refine wpAnyH_take (i := 2) (oi := ⟨some 20, _, _, _, _, _⟩) (v := ?_) rfl (by kernel_rfl) (by kernel_rfl) (by kernel_rfl) (fun _ _ _ h => h) (Or.inl ⟨by rfl, ?_⟩) (by assumption) ?_
            rotate_left
            · (intro w hSw; (try dsimp only at hSw); go_simp; try (with_reducible rfl))
            (try simp only [Act.put, List.setIfInBounds_toArray, List.set_cons_zero, List.set_cons_succ])
            refine wpAnyH_take (i := 3) (oi := ⟨some 21, _, _, _, _, _⟩) (v := ?_) rfl (by kernel_rfl) (by kernel_rfl) (by kernel_rfl) (fun _ _ _ h => h) (Or.inl ⟨by rfl, ?_⟩) (by assumption) ?_
            rotate_left
            · (intro w hSw; (try dsimp only at hSw); go_simp; try (with_reducible rfl))
            (try simp only [Act.put, List.setIfInBounds_toArray, List.set_cons_zero, List.set_cons_succ])
            refine wpAnyH_take (i := 4) (oi := ⟨some 22, _, _, _, _, _⟩) (v := ?_) rfl (by kernel_rfl) (by kernel_rfl) (by kernel_rfl) (fun _ _ _ h => h) (Or.inl ⟨by rfl, ?_⟩) (by assumption) ?_
            rotate_left
            · (intro w hSw; (try dsimp only at hSw); go_simp; try (with_reducible rfl))
            (try simp only [Act.put, List.setIfInBounds_toArray, List.set_cons_zero, List.set_cons_succ])
            refine wpAnyH_take (i := 5) (oi := ⟨some 23, _, _, _, _, _⟩) (v := ?_) rfl (by kernel_rfl) (by kernel_rfl) (by kernel_rfl) (fun _ _ _ h => h) (Or.inl ⟨by rfl, ?_⟩) (by assumption) ?_
            rotate_left
            · (intro w hSw; (try dsimp only at hSw); go_simp; try (with_reducible rfl))
            (try simp only [Act.put, List.setIfInBounds_toArray, List.set_cons_zero, List.set_cons_succ])
            refine wpAnyH_take (i := 6) (oi := ⟨some 24, _, _, _, _, _⟩) (v := ?_) rfl (by kernel_rfl) (by kernel_rfl) (by kernel_rfl) (fun _ _ _ h => h) (Or.inl ⟨by rfl, ?_⟩) (by assumption) ?_
            rotate_left
            · (intro w hSw; (try dsimp only at hSw); go_simp; try (with_reducible rfl))
            (try simp only [Act.put, List.setIfInBounds_toArray, List.set_cons_zero, List.set_cons_succ])
            refine wpAnyH_done (by kernel_rfl) ?_ _
            have hbf := hHeld
            clear hHeld
            go_wp2
            refine wp_region_held_drew (S := (fun W => Below w.heap.size w W)) (by kernel_rfl) ?_ (fun hHeld => ?_)
            · exact hbf.drew
            change wpAnyH _ .any _ _ _ 7 (Array.replicate 7 false) _ _
            refine wpAnyH_take (i := 0) (oi := ⟨some 25, _, _, _, _, _⟩) (v := ?_) rfl (by kernel_rfl) (by kernel_rfl) (by kernel_rfl) (fun _ _ _ h => h) (Or.inl ⟨by rfl, ?_⟩) (by assumption) ?_
            rotate_left
            · (intro w hSw; (try dsimp only at hSw); go_simp; try (with_reducible rfl))
            (try simp only [Act.put, List.setIfInBounds_toArray, List.set_cons_zero, List.set_cons_succ])
            refine wpAnyH_take (i := 1) (oi := ⟨some 26, _, _, _, _, _⟩) (v := ?_) rfl (by kernel_rfl) (by kernel_rfl) (by kernel_rfl) (fun _ _ _ h => h) (Or.inl ⟨by rfl, ?_⟩) (by assumption) ?_
            rotate_left
            · (intro w hSw; (try dsimp only at hSw); go_simp; try (with_reducible rfl))
            (try simp only [Act.put, List.setIfInBounds_toArray, List.set_cons_zero, List.set_cons_succ])
            refine wpAnyH_take (i := 2) (oi := ⟨some 27, _, _, _, _, _⟩) (v := ?_) rfl (by kernel_rfl) (by kernel_rfl) (by kernel_rfl) (fun _ _ _ h => h) (Or.inl ⟨by rfl, ?_⟩) (by assumption) ?_
            rotate_left
            · (intro w hSw; (try dsimp only at hSw); go_simp; try (with_reducible rfl))
            (try simp only [Act.put, List.setIfInBounds_toArray, List.set_cons_zero, List.set_cons_succ])
            refine wpAnyH_take (i := 3) (oi := ⟨some 28, _, _, _, _, _⟩) (v := ?_) rfl (by kernel_rfl) (by kernel_rfl) (by kernel_rfl) (fun _ _ _ h => h) (Or.inl ⟨by rfl, ?_⟩) (by assumption) ?_
            rotate_left
            · (intro w hSw; (try dsimp only at hSw); go_simp; try (with_reducible rfl))
            (try simp only [Act.put, List.setIfInBounds_toArray, List.set_cons_zero, List.set_cons_succ])
            refine wpAnyH_take (i := 4) (oi := ⟨some 29, _, _, _, _, _⟩) (v := ?_) rfl (by kernel_rfl) (by kernel_rfl) (by kernel_rfl) (fun _ _ _ h => h) (Or.inl ⟨by rfl, ?_⟩) (by assumption) ?_
            rotate_left
            · (intro w hSw; (try dsimp only at hSw); go_simp; try (with_reducible rfl))
            (try simp only [Act.put, List.setIfInBounds_toArray, List.set_cons_zero, List.set_cons_succ])
            refine wpAnyH_take (i := 5) (oi := ⟨some 30, _, _, _, _, _⟩) (v := ?_) rfl (by kernel_rfl) (by kernel_rfl) (by kernel_rfl) (fun _ _ _ h => h) (Or.inl ⟨by rfl, ?_⟩) (by assumption) ?_
            rotate_left
            · (intro w hSw; (try dsimp only at hSw); go_simp; try (with_reducible rfl))
            (try simp only [Act.put, List.setIfInBounds_toArray, List.set_cons_zero, List.set_cons_succ])
            refine wpAnyH_take (i := 6) (oi := ⟨some 31, _, _, _, _, _⟩) (v := ?_) rfl (by kernel_rfl) (by kernel_rfl) (by kernel_rfl) (fun _ _ _ h => h) (Or.inl ⟨by rfl, ?_⟩) (by assumption) ?_
            rotate_left
            · (intro w hSw; (try dsimp only at hSw); go_simp; try (with_reducible rfl))
            (try simp only [Act.put, List.setIfInBounds_toArray, List.set_cons_zero, List.set_cons_succ])
            refine wpAnyH_done (by kernel_rfl) ?_ _
            go_wp2
            go_ret
            exact ⟨ret_int HS.out.symm, hHeld⟩
          · rw [if_neg hl] at HS
            have hl' : decide ((a[j].toNat : Int) < b[j].toNat) = false := by simpa using hl
            go_wp2
            refine wp_region_held_drew (S := (fun W => Below w.heap.size w W)) (by kernel_rfl) ?_ (fun hHeld => ?_)
            · exact hbe.drew
            change wpAnyH _ .any _ _ _ 7 (Array.replicate 7 false) _ _
            refine wpAnyH_take (i := 0) (oi := ⟨some 18, _, _, _, _, _⟩) (v := ?_) rfl (by kernel_rfl) (by kernel_rfl) (by kernel_rfl) (fun _ _ _ h => h) (Or.inl ⟨by rfl, ?_⟩) (by assumption) ?_
            rotate_left
            · (intro w hSw; (try dsimp only at hSw); go_simp; try (with_reducible rfl))
            (try simp only [Act.put, List.setIfInBounds_toArray, List.set_cons_zero, List.set_cons_succ])
            refine wpAnyH_take (i := 1) (oi := ⟨some 19, _, _, _, _, _⟩) (v := ?_) rfl (by kernel_rfl) (by kernel_rfl) (by kernel_rfl) (fun _ _ _ h => h) (Or.inl ⟨by rfl, ?_⟩) (by assumption) ?_
            rotate_left
            · (intro w hSw; (try dsimp only at hSw); go_simp; try (with_reducible rfl))
            (try simp only [Act.put, List.setIfInBounds_toArray, List.set_cons_zero, List.set_cons_succ])
            refine wpAnyH_take (i := 2) (oi := ⟨some 20, _, _, _, _, _⟩) (v := ?_) rfl (by kernel_rfl) (by kernel_rfl) (by kernel_rfl) (fun _ _ _ h => h) (Or.inl ⟨by rfl, ?_⟩) (by assumption) ?_
            rotate_left
            · (intro w hSw; (try dsimp only at hSw); go_simp; try (with_reducible rfl))
            (try simp only [Act.put, List.setIfInBounds_toArray, List.set_cons_zero, List.set_cons_succ])
            refine wpAnyH_take (i := 3) (oi := ⟨some 21, _, _, _, _, _⟩) (v := ?_) rfl (by kernel_rfl) (by kernel_rfl) (by kernel_rfl) (fun _ _ _ h => h) (Or.inl ⟨by rfl, ?_⟩) (by assumption) ?_
            rotate_left
            · (intro w hSw; (try dsimp only at hSw); go_simp; try (with_reducible rfl))
            (try simp only [Act.put, List.setIfInBounds_toArray, List.set_cons_zero, List.set_cons_succ])
            refine wpAnyH_take (i := 4) (oi := ⟨some 22, _, _, _, _, _⟩) (v := ?_) rfl (by kernel_rfl) (by kernel_rfl) (by kernel_rfl) (fun _ _ _ h => h) (Or.inl ⟨by rfl, ?_⟩) (by assumption) ?_
            rotate_left
            · (intro w hSw; (try dsimp only at hSw); go_simp; try (with_reducible rfl))
            (try simp only [Act.put, List.setIfInBounds_toArray, List.set_cons_zero, List.set_cons_succ])
            refine wpAnyH_take (i := 5) (oi := ⟨some 23, _, _, _, _, _⟩) (v := ?_) rfl (by kernel_rfl) (by kernel_rfl) (by kernel_rfl) (fun _ _ _ h => h) (Or.inl ⟨by rfl, ?_⟩) (by assumption) ?_
            rotate_left
            · (intro w hSw; (try dsimp only at hSw); go_simp; try (with_reducible rfl))
            (try simp only [Act.put, List.setIfInBounds_toArray, List.set_cons_zero, List.set_cons_succ])
            refine wpAnyH_take (i := 6) (oi := ⟨some 24, _, _, _, _, _⟩) (v := ?_) rfl (by kernel_rfl) (by kernel_rfl) (by kernel_rfl) (fun _ _ _ h => h) (Or.inl ⟨by rfl, ?_⟩) (by assumption) ?_
            rotate_left
            · (intro w hSw; (try dsimp only at hSw); go_simp; try (with_reducible rfl))
            (try simp only [Act.put, List.setIfInBounds_toArray, List.set_cons_zero, List.set_cons_succ])
            refine wpAnyH_done (by kernel_rfl) ?_ _
            have hbf := hHeld
            clear hHeld
            go_wp2
            refine wp_region_held_drew (S := (fun W => Below w.heap.size w W)) (by kernel_rfl) ?_ (fun hHeld => ?_)
            · exact hbf.drew
            change wpAnyH _ .any _ _ _ 7 (Array.replicate 7 false) _ _
            refine wpAnyH_take (i := 0) (oi := ⟨some 25, _, _, _, _, _⟩) (v := ?_) rfl (by kernel_rfl) (by kernel_rfl) (by kernel_rfl) (fun _ _ _ h => h) (Or.inl ⟨by rfl, ?_⟩) (by assumption) ?_
            rotate_left
            · (intro w hSw; (try dsimp only at hSw); go_simp; try (with_reducible rfl))
            (try simp only [Act.put, List.setIfInBounds_toArray, List.set_cons_zero, List.set_cons_succ])
            refine wpAnyH_take (i := 1) (oi := ⟨some 26, _, _, _, _, _⟩) (v := ?_) rfl (by kernel_rfl) (by kernel_rfl) (by kernel_rfl) (fun _ _ _ h => h) (Or.inl ⟨by rfl, ?_⟩) (by assumption) ?_
            rotate_left
            · (intro w hSw; (try dsimp only at hSw); go_simp; try (with_reducible rfl))
            (try simp only [Act.put, List.setIfInBounds_toArray, List.set_cons_zero, List.set_cons_succ])
            refine wpAnyH_take (i := 2) (oi := ⟨some 27, _, _, _, _, _⟩) (v := ?_) rfl (by kernel_rfl) (by kernel_rfl) (by kernel_rfl) (fun _ _ _ h => h) (Or.inl ⟨by rfl, ?_⟩) (by assumption) ?_
            rotate_left
            · (intro w hSw; (try dsimp only at hSw); go_simp; try (with_reducible rfl))
            (try simp only [Act.put, List.setIfInBounds_toArray, List.set_cons_zero, List.set_cons_succ])
            refine wpAnyH_take (i := 3) (oi := ⟨some 28, _, _, _, _, _⟩) (v := ?_) rfl (by kernel_rfl) (by kernel_rfl) (by kernel_rfl) (fun _ _ _ h => h) (Or.inl ⟨by rfl, ?_⟩) (by assumption) ?_
            rotate_left
            · (intro w hSw; (try dsimp only at hSw); go_simp; try (with_reducible rfl))
            (try simp only [Act.put, List.setIfInBounds_toArray, List.set_cons_zero, List.set_cons_succ])
            refine wpAnyH_take (i := 4) (oi := ⟨some 29, _, _, _, _, _⟩) (v := ?_) rfl (by kernel_rfl) (by kernel_rfl) (by kernel_rfl) (fun _ _ _ h => h) (Or.inl ⟨by rfl, ?_⟩) (by assumption) ?_
            rotate_left
            · (intro w hSw; (try dsimp only at hSw); go_simp; try (with_reducible rfl))
            (try simp only [Act.put, List.setIfInBounds_toArray, List.set_cons_zero, List.set_cons_succ])
            refine wpAnyH_take (i := 5) (oi := ⟨some 30, _, _, _, _, _⟩) (v := ?_) rfl (by kernel_rfl) (by kernel_rfl) (by kernel_rfl) (fun _ _ _ h => h) (Or.inl ⟨by rfl, ?_⟩) (by assumption) ?_
            rotate_left
            · (intro w hSw; (try dsimp only at hSw); go_simp; try (with_reducible rfl))
            (try simp only [Act.put, List.setIfInBounds_toArray, List.set_cons_zero, List.set_cons_succ])
            refine wpAnyH_take (i := 6) (oi := ⟨some 31, _, _, _, _, _⟩) (v := ?_) rfl (by kernel_rfl) (by kernel_rfl) (by kernel_rfl) (fun _ _ _ h => h) (Or.inl ⟨by rfl, ?_⟩) (by assumption) ?_
            rotate_left
            · (intro w hSw; (try dsimp only at hSw); go_simp; try (with_reducible rfl))
            (try simp only [Act.put, List.setIfInBounds_toArray, List.set_cons_zero, List.set_cons_succ])
            refine wpAnyH_done (by kernel_rfl) ?_ _
            go_wp2
            go_ret
            exact ⟨ret_int HS.out.symm, hHeld⟩
      · have HS := Lib.hid (cmpS_end (a := a) (b := b) (fun i q1 q2 => hn.out i (by omega) q1 q2))
        have h2 : ¬ (j : Int) < b.size := by omega
        have h2' : (b.size : Int) ≤ j := by omega
        clear hn
        go_wp2_with (go_at_call 45; refine (num_c _ _ _).mono ?_; rintro e w1 ⟨rfl, rfl⟩)
        go_ret
        exact ⟨ret_int HS.out.symm, hbe⟩
    · have HS := Lib.hid (cmpS_end (a := a) (b := b) (fun i q1 q2 => hn.out i (by omega) q1 q2))
      have h2 : ¬ (j : Int) < a.size := by omega
      have h2' : (a.size : Int) ≤ j := by omega
      clear hn
      go_wp2_with (go_at_call 45; refine (num_c _ _ _).mono ?_; rintro e w1 ⟨rfl, rfl⟩)
      go_ret
      exact ⟨ret_int HS.out.symm, hbe⟩
end Go.Proofs.YtgcbanljifalnaaDoor
/- Walks of layer 2's reference: the order by definition. Conditions: the arguments read; what they are made of is in its bounds. -/
namespace Go.Proofs.YtgcbanljifalnaaDoor
open Go.RowKit
attribute [local go_sem ↓] Go.wp_at_zero Go.wp_at_succ
mutual
/-- The order by definition. -/
def refT : Tm → Tm → Int
  | ⟨k, s, n, l⟩, ⟨k', s', n', l'⟩ => if k ≠ k' then cmpI k k' else if k = 1 ∨ k = 2 then cmpI n n' else if k = 3 then cmpS s s' else if l.length ≠ l'.length then cmpI l.length l'.length else if s ≠ s' then cmpS s s' else refL l l'
def refL : List Tm → List Tm → Int
  | t :: ts, u :: us => orI (refT t u) (refL ts us)
  | _, _ => 0
end
theorem refL_at : ∀ {l m : List Tm} {j : Nat} (hj : j < l.length) (hj' : j < m.length), (∀ i, ∀ (h : i < j), refT (l[i]'(by omega)) (m[i]'(by omega)) = 0) → refT l[j] m[j] ≠ 0 → refL l m = refT l[j] m[j]
  | t :: ts, u :: us, 0, _, _, _, h => by simp only [List.getElem_cons_zero] at h ⊢; simp [refL, orI, h]
  | t :: ts, u :: us, j + 1, hj, hj', h0, h => by
    simp only [List.getElem_cons_succ] at h ⊢
    have h00 : refT t u = 0 := h0 0 (by omega)
    simp only [refL, orI, h00, ne_eq, not_true_eq_false, if_false]
    exact refL_at (by simpa using hj) (by simpa using hj') (fun i hi => by have := h0 (i + 1) (by omega); simpa using this) h
theorem refL_end : ∀ {l m : List Tm}, (∀ i, ∀ (h : i < l.length) (h' : i < m.length), refT l[i] m[i] = 0) → refL l m = 0
  | [], [], _ => by simp [refL]
  | [], _ :: _, _ => by simp [refL]
  | _ :: _, [], _ => by simp [refL]
  | t :: ts, u :: us, h => by
    have h00 : refT t u = 0 := h 0 (by simp) (by simp)
    have := refL_end (l := ts) (m := us) (fun i hi hi' => by have := h (i + 1) (by simpa using hi) (by simpa using hi'); simpa using this)
    simp only [refL, orI, h00, ne_eq, not_true_eq_false, if_false, this]
set_option maxRecDepth 100000 in
set_option maxHeartbeats 8000000 in
theorem refCompare_c (t : Tm) : ∀ (u : Tm) (w : World) (ok ok' : Nat → Prop) (v v' : Value), TmV w ok t v → TmV w ok' u v' → t.Wf → u.Wf → Calls Tryd.prog 29 #[v, v'] w fun e w' => e = .returned (.int .i64 (refT t u)) ∧ Below w.heap.size w w' := by
  refine Tm.ind (p := fun t => ∀ (u : Tm) (w : World) (ok ok' : Nat → Prop) (v v' : Value), TmV w ok t v → TmV w ok' u v' → t.Wf → u.Wf → Calls Tryd.prog 29 #[v, v'] w fun e w' => e = .returned (.int .i64 (refT t u)) ∧ Below w.heap.size w w') ?_ t
  intro a ih b w ok ok' v v' hv hv' hwa hwb
  obtain ⟨u, rfl, hs⟩ := hv
  obtain ⟨u', rfl, hs'⟩ := hv'
  have hT : ∀ O1 O2, O1 = Obj.cells #[.int .u8 a.k, .string a.s, .int .i64 a.n, u] 24 → O2 = Obj.cells #[.int .u8 b.k, .string b.s, .int .i64 b.n, u'] 24 → TwoB w.heap.size (w.heap.size + 1) a b ok ok' u u' ((w.alloc O1).alloc O2) := fun O1 O2 h1 h2 =>
    ⟨by rw [← h1]; exact (Below.heap_alloc _ _ _ (by simp)).trans (heap_new w _), by have := heap_new (w.alloc O1) O2; rw [World.size_alloc] at this; rw [this, h2], hs.below (((Below.refl _ w).alloc (Nat.le_refl _) O1).alloc (by simp) O2), hs'.below (((Below.refl _ w).alloc (Nat.le_refl _) O1).alloc (by simp) O2)⟩
  have hT := hT _ _ rfl rfl
  have hst : ∀ O1 O2, Below w.heap.size w ((w.alloc O1).alloc O2) := fun O1 O2 => ((Below.refl _ w).alloc (Nat.le_refl _) O1).alloc (by simp) O2
  obtain ⟨A, c, rfl⟩ := hs.form
  obtain ⟨A', c', rfl⟩ := hs'.form
  obtain ⟨k, s, n, l⟩ := a
  obtain ⟨k', s', n', l'⟩ := b
  simp only at hT ih hs hs' ⊢
  have wa := hwa.parts
  have wb := hwb.parts
  simp only at wa wb
  have wk := wa.1
  have wk' := wb.1
  have hss := wa.2.2.1
  have hss' := wb.2.2.1
  clear hs hs' hwa hwb
  by_cases hk : k = k'
  · subst hk
    by_cases h12 : k = 1 ∨ k = 2
    · have HX := Lib.hid (show refT ⟨k, s, n, l⟩ ⟨k, s', n', l'⟩ = cmpI n n' by simp [refT, h12])
      clear ih hT
      rcases h12 with rfl | rfl
      all_goals
        go_enter Tryd.func29, Tryd.ntmps29
        go_wp2_with (go_at_call 45; refine (num_c _ _ _).mono ?_; rintro e w1 ⟨rfl, rfl⟩)
        go_ret
        exact ⟨ret_int HX.out.symm, hst _ _⟩
    · have k1 : ¬ k = 1 := fun e => h12 (.inl e)
      have k2 : ¬ k = 2 := fun e => h12 (.inr e)
      have k1' : (k == 1) = false := by simpa using k1
      have k2' : (k == 2) = false := by simpa using k2
      by_cases k3 : k = 3
      · subst k3
        have HX := Lib.hid (show refT ⟨3, s, n, l⟩ ⟨3, s', n', l'⟩ = cmpS s s' by simp [refT])
        clear ih hT
        go_enter Tryd.func29, Tryd.ntmps29
        go_wp2_with (go_at_call 46; refine (texts_c _ _ _ hss hss').mono ?_; rintro e w1 ⟨rfl, hb1⟩)
        go_ret
        exact ⟨ret_int HX.out.symm, below_then (hst _ _) (by simp; omega) hb1⟩
      · have k3' : (k == 3) = false := by simpa using k3
        by_cases hlen : l.length = l'.length
        · by_cases hst' : s = s'
          · subst hst'
            have HX := Lib.hid (show refT ⟨k, s, n, l⟩ ⟨k, s, n', l'⟩ = refL l l' by simp [refT, h12, k3, hlen])
            have hle : ((l.length : Int) != l'.length) = false := by rw [hlen]; simp
            have hLEN := Lib.hid hlen
            clear h12 k1 k2 k3 wk wk' hss hss' hlen
            go_enter Tryd.func29, Tryd.ntmps29
            obtain ⟨c0, c1, c2, c3, -⟩ := box4 hT.c
            obtain ⟨d0, d1, d2, d3, -⟩ := box4 hT.d
            go_wp2
            go_loopw [5] (fun i wr => ∃ j : Nat, j ≤ l.length ∧ i = .int .i64 j ∧ Hid (∀ i, ∀ (h : i < j) (h1 : i < l.length) (h2 : i < l'.length), refT l[i] l'[i] = 0) ∧ TwoB w.heap.size (w.heap.size + 1) ⟨k, s, n, l⟩ ⟨k, s, n', l'⟩ ok ok' (.slice A l.length c) (.slice A' l'.length c') wr ∧ Below w.heap.size w wr) (fun i _ => l.length - (intOf i).toNat)
            case atStart => exact ⟨0, Nat.zero_le _, rfl, Lib.hid (fun i h => by omega), hT, hst _ _⟩
            case round =>
              clear hT c0 c1 c2 c3 d0 d1 d2 d3
              obtain ⟨j, hj, rfl, hn, hT, hb⟩ := hrel
              obtain ⟨c0, c1, c2, c3, -⟩ := box4 hT.c
              obtain ⟨d0, d1, d2, d3, -⟩ := box4 hT.d
              by_cases hlt : j < l.length
              · have hlt' : j < l'.length := by have := hLEN.out; omega
                obtain ⟨_, _, ea, hal, hac, hAa⟩ := hT.s
                injection ea with e1 e2 e3
                subst e1 e3
                clear e2
                obtain ⟨_, _, eb, hbl, hbc, hAb⟩ := hT.s'
                injection eb with e1 e2 e3
                subst e1 e3
                clear e2
                unfold maxLen at hac hbc
                simp only at hAa hAb hal hbl
                obtain ⟨ba, oa, ua, rfl, -, hloa, k0, k1, k2, k3, k4⟩ := tm_elem hAa hlt
                obtain ⟨bb, ob, ub, rfl, -, hlob, n0, n1, n2, n3, n4⟩ := tm_elem hAb hlt'
                obtain ⟨uA, uc, rfl⟩ := k4.form
                obtain ⟨uB, ud, rfl⟩ := n4.form
                have HC := Lib.hid (fun W (h1 : Kd.tm.S W ok l[j].l (.slice uA l[j].l.length uc)) (h2 : Kd.tm.S W ok' l'[j].l (.slice uB l'[j].l.length ud)) => ih l[j] (List.getElem_mem hlt) l'[j] W ok ok' _ _ ⟨_, rfl, h1⟩ ⟨_, rfl, h2⟩ (WfL_at wa.2.2.2 hlt) (WfL_at wb.2.2.2 hlt'))
                have HS : Hid (refT l[j] l'[j] = 0 → ∀ i, ∀ (h : i < j + 1) (h1 : i < l.length) (h2 : i < l'.length), refT l[i] l'[i] = 0) := Lib.hid (fun h i hi h1 h2 => by
                  rcases Nat.lt_or_ge i j with hij | hij
                  · exact hn.out i hij h1 h2
                  · have : i = j := by omega
                    subst this; exact h)
                have HF : Hid (refT l[j] l'[j] ≠ 0 → refL l l' = refT l[j] l'[j]) := Lib.hid (fun h => refL_at hlt hlt' (fun i hi => hn.out i hi _ _) h)
                have q1 : (j : Int) < l.length := by omega
                have q2 : (j : Int) < l'.length := by omega
                have q3 : (j : Int) < c := by omega
                have q4 : (j : Int) < c' := by omega
                have hTb := Lib.hid hT
                have hbH := Lib.hid hb
                have HXX := Lib.hid ih
                clear ih hAa hAb hn hT wa wb
                generalize refT l[j] l'[j] = x at HC HS HF
                generalize l[j] = t at k0 k1 k2 k3 k4 HC
                generalize l'[j] = u at n0 n1 n2 n3 n4 HC
                by_cases hx : x = 0
                · have hx' : (x != 0) = false := by simpa using hx
                  go_wp2
                  refine wp_region_held_drew (S := (fun W => W.cell? ⟨w.heap.size, 3, none⟩ = some (.slice (some ⟨ba, oa, none⟩) l.length c) ∧ W.cell? ⟨w.heap.size + 1, 3, none⟩ = some (.slice (some ⟨bb, ob, none⟩) l'.length c') ∧ W.cell? ⟨ba, oa + j * 4, none⟩ = some (.int .u8 t.k) ∧ W.cell? ⟨ba, oa + j * 4 + 1, none⟩ = some (.string t.s) ∧ W.cell? ⟨ba, oa + j * 4 + 2, none⟩ = some (.int .i64 t.n) ∧ W.cell? ⟨ba, oa + j * 4 + 3, none⟩ = some (.slice uA t.l.length uc) ∧ W.cell? ⟨bb, ob + j * 4, none⟩ = some (.int .u8 u.k) ∧ W.cell? ⟨bb, ob + j * 4 + 1, none⟩ = some (.string u.s) ∧ W.cell? ⟨bb, ob + j * 4 + 2, none⟩ = some (.int .i64 u.n) ∧ W.cell? ⟨bb, ob + j * 4 + 3, none⟩ = some (.slice uB u.l.length ud) ∧ TwoB w.heap.size (w.heap.size + 1) ⟨k, s, n, l⟩ ⟨k, s, n', l'⟩ ok ok' (.slice (some ⟨ba, oa, none⟩) l.length c) (.slice (some ⟨bb, ob, none⟩) l'.length c') W ∧ Below w.heap.size w W)) (by kernel_rfl) ?_ (fun hHeld => ?_)
                  · exact ⟨c3, d3, k0, k1, k2, k3, n0, n1, n2, n3, hTb.out.then (Below.refl _ _).drew, hbH.out.drew⟩
                  change wpAnyH _ .any _ _ _ 12 (Array.replicate 12 false) _ _
                  refine wpAnyH_take (i := 0) (oi := ⟨some 67, _, _, _, _, _⟩) (v := ?_) rfl (by kernel_rfl) (by kernel_rfl) (by kernel_rfl) (fun _ _ _ h => h) (Or.inl ⟨by rfl, ?_⟩) (by assumption) ?_
                  rotate_left
                  · (intro w hSw; (try dsimp only at hSw); go_simp; try (with_reducible rfl))
                  (try simp only [Act.put, List.setIfInBounds_toArray, List.set_cons_zero, List.set_cons_succ])
                  refine wpAnyH_take (i := 1) (oi := ⟨some 68, _, _, _, _, _⟩) (v := ?_) rfl (by kernel_rfl) (by kernel_rfl) (by kernel_rfl) (fun _ _ _ h => h) (Or.inl ⟨by rfl, ?_⟩) (by assumption) ?_
                  rotate_left
                  · (intro w hSw; (try dsimp only at hSw); go_simp; try (with_reducible rfl))
                  (try simp only [Act.put, List.setIfInBounds_toArray, List.set_cons_zero, List.set_cons_succ])
                  refine wpAnyH_take (i := 2) (oi := ⟨some 69, _, _, _, _, _⟩) (v := ?_) rfl (by kernel_rfl) (by kernel_rfl) (by kernel_rfl) (fun _ _ _ h => h) (Or.inl ⟨by rfl, ?_⟩) (by assumption) ?_
                  rotate_left
                  · (intro w hSw; (try dsimp only at hSw); go_simp; try (with_reducible rfl))
                  (try simp only [Act.put, List.setIfInBounds_toArray, List.set_cons_zero, List.set_cons_succ])
                  refine wpAnyH_take (i := 3) (oi := ⟨some 70, _, _, _, _, _⟩) (v := ?_) rfl (by kernel_rfl) (by kernel_rfl) (by kernel_rfl) (fun _ _ _ h => h) (Or.inl ⟨by rfl, ?_⟩) (by assumption) ?_
                  rotate_left
                  · (intro w hSw; (try dsimp only at hSw); go_simp; try (with_reducible rfl))
                  (try simp only [Act.put, List.setIfInBounds_toArray, List.set_cons_zero, List.set_cons_succ])
                  refine wpAnyH_take (i := 4) (oi := ⟨some 71, _, _, _, _, _⟩) (v := ?_) rfl (by kernel_rfl) (by kernel_rfl) (by kernel_rfl) (fun _ _ _ h => h) (Or.inl ⟨by rfl, ?_⟩) (by assumption) ?_
                  rotate_left
                  · (intro w hSw; (try dsimp only at hSw); go_simp; try (with_reducible rfl))
                  (try simp only [Act.put, List.setIfInBounds_toArray, List.set_cons_zero, List.set_cons_succ])
                  refine wpAnyH_take (i := 5) (oi := ⟨some 72, _, _, _, _, _⟩) (v := ?_) rfl (by kernel_rfl) (by kernel_rfl) (by kernel_rfl) (fun _ _ _ h => h) (Or.inl ⟨by rfl, ?_⟩) (by assumption) ?_
                  rotate_left
                  · (intro w hSw; (try dsimp only at hSw); go_simp; try (with_reducible rfl))
                  (try simp only [Act.put, List.setIfInBounds_toArray, List.set_cons_zero, List.set_cons_succ])
                  refine wpAnyH_take (i := 6) (oi := ⟨some 73, _, _, _, _, _⟩) (v := ?_) rfl (by kernel_rfl) (by kernel_rfl) (by kernel_rfl) (fun _ _ _ h => h) (Or.inl ⟨by rfl, ?_⟩) (by assumption) ?_
                  rotate_left
                  · (intro w hSw; (try dsimp only at hSw); go_simp; try (with_reducible rfl))
                  (try simp only [Act.put, List.setIfInBounds_toArray, List.set_cons_zero, List.set_cons_succ])
                  refine wpAnyH_take (i := 7) (oi := ⟨some 74, _, _, _, _, _⟩) (v := ?_) rfl (by kernel_rfl) (by kernel_rfl) (by kernel_rfl) (fun _ _ _ h => h) (Or.inl ⟨by rfl, ?_⟩) (by assumption) ?_
                  rotate_left
                  · (intro w hSw; (try dsimp only at hSw); go_simp; try (with_reducible rfl))
                  (try simp only [Act.put, List.setIfInBounds_toArray, List.set_cons_zero, List.set_cons_succ])
                  refine wpAnyH_take (i := 8) (oi := ⟨some 75, _, _, _, _, _⟩) (v := ?_) rfl (by kernel_rfl) (by kernel_rfl) (by kernel_rfl) (fun _ _ _ h => h) (Or.inl ⟨by rfl, ?_⟩) (by assumption) ?_
                  rotate_left
                  · (intro w hSw; (try dsimp only at hSw); go_simp; try (with_reducible rfl))
                  (try simp only [Act.put, List.setIfInBounds_toArray, List.set_cons_zero, List.set_cons_succ])
                  refine wpAnyH_take (i := 9) (oi := ⟨some 76, _, _, _, _, _⟩) (v := ?_) rfl (by kernel_rfl) (by kernel_rfl) (by kernel_rfl) (fun _ _ _ h => h) (Or.inl ⟨by rfl, ?_⟩) (by assumption) ?_
                  rotate_left
                  · (intro w hSw; (try dsimp only at hSw); go_simp; try (with_reducible rfl))
                  (try simp only [Act.put, List.setIfInBounds_toArray, List.set_cons_zero, List.set_cons_succ])
                  refine wpAnyH_ready (rs := [10]) (by kernel_rfl) (by simp) ?_
                  refine AllReadyH.cons (o := ⟨some 77, _, _, _, _, _⟩) rfl (fun K hK => ?_) AllReadyH.nil
                  go_simp
                  refine (HC.out _ (by have := k4.below (Below.refl _ wr).drew; exact this) (by have := n4.below (Below.refl _ wr).drew; exact this)).mono ?_
                  rintro e w9 ⟨rfl, hb9⟩
                  go_wp2_with fail
                  refine hK.out _ _ (by obtain ⟨q0, q1, q2, q3, q4, q5, q6, q7, q8, q9, qR, qB⟩ := hHeld; exact ⟨held_cell hb9 q0, held_cell hb9 q1, held_cell hb9 q2, held_cell hb9 q3, held_cell hb9 q4, held_cell hb9 q5, held_cell hb9 q6, held_cell hb9 q7, held_cell hb9 q8, held_cell hb9 q9, qR.then hb9, below_then qB qB.size hb9⟩) (fun hHeld => ?_)
                  clear hK K
                  (try simp only [Act.put, List.setIfInBounds_toArray, List.set_cons_zero, List.set_cons_succ])
                  refine wpAnyH_take (i := 11) (oi := ⟨some 6, _, _, _, _, _⟩) (v := ?_) rfl (by kernel_rfl) (by kernel_rfl) (by kernel_rfl) (fun _ _ _ h => h) (Or.inl ⟨by rfl, ?_⟩) (by assumption) ?_
                  rotate_left
                  · (intro w hSw; (try dsimp only at hSw); go_simp; try (with_reducible rfl))
                  (try simp only [Act.put, List.setIfInBounds_toArray, List.set_cons_zero, List.set_cons_succ])
                  refine wpAnyH_done (by kernel_rfl) ?_ _
                  have hH := hHeld
                  clear hHeld
                  go_wp2
                  go_roundw
                  case rel => exact ⟨j + 1, by omega, by go_num, Lib.hid (HS.out hx), hH.2.2.2.2.2.2.2.2.2.2.1, hH.2.2.2.2.2.2.2.2.2.2.2⟩
                  case measure => simp [intOf]; omega
                · have hx' : (x != 0) = true := by simpa using hx
                  go_wp2
                  refine wp_region_held_drew (S := (fun W => W.cell? ⟨w.heap.size, 3, none⟩ = some (.slice (some ⟨ba, oa, none⟩) l.length c) ∧ W.cell? ⟨w.heap.size + 1, 3, none⟩ = some (.slice (some ⟨bb, ob, none⟩) l'.length c') ∧ W.cell? ⟨ba, oa + j * 4, none⟩ = some (.int .u8 t.k) ∧ W.cell? ⟨ba, oa + j * 4 + 1, none⟩ = some (.string t.s) ∧ W.cell? ⟨ba, oa + j * 4 + 2, none⟩ = some (.int .i64 t.n) ∧ W.cell? ⟨ba, oa + j * 4 + 3, none⟩ = some (.slice uA t.l.length uc) ∧ W.cell? ⟨bb, ob + j * 4, none⟩ = some (.int .u8 u.k) ∧ W.cell? ⟨bb, ob + j * 4 + 1, none⟩ = some (.string u.s) ∧ W.cell? ⟨bb, ob + j * 4 + 2, none⟩ = some (.int .i64 u.n) ∧ W.cell? ⟨bb, ob + j * 4 + 3, none⟩ = some (.slice uB u.l.length ud) ∧ TwoB w.heap.size (w.heap.size + 1) ⟨k, s, n, l⟩ ⟨k, s, n', l'⟩ ok ok' (.slice (some ⟨ba, oa, none⟩) l.length c) (.slice (some ⟨bb, ob, none⟩) l'.length c') W ∧ Below w.heap.size w W)) (by kernel_rfl) ?_ (fun hHeld => ?_)
                  · exact ⟨c3, d3, k0, k1, k2, k3, n0, n1, n2, n3, hTb.out.then (Below.refl _ _).drew, hbH.out.drew⟩
                  change wpAnyH _ .any _ _ _ 12 (Array.replicate 12 false) _ _
                  refine wpAnyH_take (i := 0) (oi := ⟨some 67, _, _, _, _, _⟩) (v := ?_) rfl (by kernel_rfl) (by kernel_rfl) (by kernel_rfl) (fun _ _ _ h => h) (Or.inl ⟨by rfl, ?_⟩) (by assumption) ?_
                  rotate_left
                  · (intro w hSw; (try dsimp only at hSw); go_simp; try (with_reducible rfl))
                  (try simp only [Act.put, List.setIfInBounds_toArray, List.set_cons_zero, List.set_cons_succ])
                  refine wpAnyH_take (i := 1) (oi := ⟨some 68, _, _, _, _, _⟩) (v := ?_) rfl (by kernel_rfl) (by kernel_rfl) (by kernel_rfl) (fun _ _ _ h => h) (Or.inl ⟨by rfl, ?_⟩) (by assumption) ?_
                  rotate_left
                  · (intro w hSw; (try dsimp only at hSw); go_simp; try (with_reducible rfl))
                  (try simp only [Act.put, List.setIfInBounds_toArray, List.set_cons_zero, List.set_cons_succ])
                  refine wpAnyH_take (i := 2) (oi := ⟨some 69, _, _, _, _, _⟩) (v := ?_) rfl (by kernel_rfl) (by kernel_rfl) (by kernel_rfl) (fun _ _ _ h => h) (Or.inl ⟨by rfl, ?_⟩) (by assumption) ?_
                  rotate_left
                  · (intro w hSw; (try dsimp only at hSw); go_simp; try (with_reducible rfl))
                  (try simp only [Act.put, List.setIfInBounds_toArray, List.set_cons_zero, List.set_cons_succ])
                  refine wpAnyH_take (i := 3) (oi := ⟨some 70, _, _, _, _, _⟩) (v := ?_) rfl (by kernel_rfl) (by kernel_rfl) (by kernel_rfl) (fun _ _ _ h => h) (Or.inl ⟨by rfl, ?_⟩) (by assumption) ?_
                  rotate_left
                  · (intro w hSw; (try dsimp only at hSw); go_simp; try (with_reducible rfl))
                  (try simp only [Act.put, List.setIfInBounds_toArray, List.set_cons_zero, List.set_cons_succ])
                  refine wpAnyH_take (i := 4) (oi := ⟨some 71, _, _, _, _, _⟩) (v := ?_) rfl (by kernel_rfl) (by kernel_rfl) (by kernel_rfl) (fun _ _ _ h => h) (Or.inl ⟨by rfl, ?_⟩) (by assumption) ?_
                  rotate_left
                  · (intro w hSw; (try dsimp only at hSw); go_simp; try (with_reducible rfl))
                  (try simp only [Act.put, List.setIfInBounds_toArray, List.set_cons_zero, List.set_cons_succ])
                  refine wpAnyH_take (i := 5) (oi := ⟨some 72, _, _, _, _, _⟩) (v := ?_) rfl (by kernel_rfl) (by kernel_rfl) (by kernel_rfl) (fun _ _ _ h => h) (Or.inl ⟨by rfl, ?_⟩) (by assumption) ?_
                  rotate_left
                  · (intro w hSw; (try dsimp only at hSw); go_simp; try (with_reducible rfl))
                  (try simp only [Act.put, List.setIfInBounds_toArray, List.set_cons_zero, List.set_cons_succ])
                  refine wpAnyH_take (i := 6) (oi := ⟨some 73, _, _, _, _, _⟩) (v := ?_) rfl (by kernel_rfl) (by kernel_rfl) (by kernel_rfl) (fun _ _ _ h => h) (Or.inl ⟨by rfl, ?_⟩) (by assumption) ?_
                  rotate_left
                  · (intro w hSw; (try dsimp only at hSw); go_simp; try (with_reducible rfl))
                  (try simp only [Act.put, List.setIfInBounds_toArray, List.set_cons_zero, List.set_cons_succ])
                  refine wpAnyH_take (i := 7) (oi := ⟨some 74, _, _, _, _, _⟩) (v := ?_) rfl (by kernel_rfl) (by kernel_rfl) (by kernel_rfl) (fun _ _ _ h => h) (Or.inl ⟨by rfl, ?_⟩) (by assumption) ?_
                  rotate_left
                  · (intro w hSw; (try dsimp only at hSw); go_simp; try (with_reducible rfl))
                  (try simp only [Act.put, List.setIfInBounds_toArray, List.set_cons_zero, List.set_cons_succ])
                  refine wpAnyH_take (i := 8) (oi := ⟨some 75, _, _, _, _, _⟩) (v := ?_) rfl (by kernel_rfl) (by kernel_rfl) (by kernel_rfl) (fun _ _ _ h => h) (Or.inl ⟨by rfl, ?_⟩) (by assumption) ?_
                  rotate_left
                  · (intro w hSw; (try dsimp only at hSw); go_simp; try (with_reducible rfl))
                  (try simp only [Act.put, List.setIfInBounds_toArray, List.set_cons_zero, List.set_cons_succ])
                  refine wpAnyH_take (i := 9) (oi := ⟨some 76, _, _, _, _, _⟩) (v := ?_) rfl (by kernel_rfl) (by kernel_rfl) (by kernel_rfl) (fun _ _ _ h => h) (Or.inl ⟨by rfl, ?_⟩) (by assumption) ?_
                  rotate_left
                  · (intro w hSw; (try dsimp only at hSw); go_simp; try (with_reducible rfl))
                  (try simp only [Act.put, List.setIfInBounds_toArray, List.set_cons_zero, List.set_cons_succ])
                  refine wpAnyH_ready (rs := [10]) (by kernel_rfl) (by simp) ?_
                  refine AllReadyH.cons (o := ⟨some 77, _, _, _, _, _⟩) rfl (fun K hK => ?_) AllReadyH.nil
                  go_simp
                  refine (HC.out _ (by have := k4.below (Below.refl _ wr).drew; exact this) (by have := n4.below (Below.refl _ wr).drew; exact this)).mono ?_
                  rintro e w9 ⟨rfl, hb9⟩
                  go_wp2_with fail
                  refine hK.out _ _ (by obtain ⟨q0, q1, q2, q3, q4, q5, q6, q7, q8, q9, qR, qB⟩ := hHeld; exact ⟨held_cell hb9 q0, held_cell hb9 q1, held_cell hb9 q2, held_cell hb9 q3, held_cell hb9 q4, held_cell hb9 q5, held_cell hb9 q6, held_cell hb9 q7, held_cell hb9 q8, held_cell hb9 q9, qR.then hb9, below_then qB qB.size hb9⟩) (fun hHeld => ?_)
                  clear hK K
                  (try simp only [Act.put, List.setIfInBounds_toArray, List.set_cons_zero, List.set_cons_succ])
                  refine wpAnyH_take (i := 11) (oi := ⟨some 6, _, _, _, _, _⟩) (v := ?_) rfl (by kernel_rfl) (by kernel_rfl) (by kernel_rfl) (fun _ _ _ h => h) (Or.inl ⟨by rfl, ?_⟩) (by assumption) ?_
                  rotate_left
                  · (intro w hSw; (try dsimp only at hSw); go_simp; try (with_reducible rfl))
                  (try simp only [Act.put, List.setIfInBounds_toArray, List.set_cons_zero, List.set_cons_succ])
                  refine wpAnyH_done (by kernel_rfl) ?_ _
                  have hH := hHeld
                  clear hHeld
                  go_wp2
                  go_ret
                  exact ⟨ret_int (by rw [HX.out]; exact (HF.out hx).symm), hH.2.2.2.2.2.2.2.2.2.2.2⟩
              · have HF : Hid (refL l l' = 0) := Lib.hid (refL_end (fun i h1 h2 => hn.out i (by omega) h1 h2))
                clear ih hn hT
                go_wp2
                go_ret
                exact ⟨ret_int (by rw [HX.out]; exact HF.out.symm), hb⟩
          · have HX := Lib.hid (show refT ⟨k, s, n, l⟩ ⟨k, s', n', l'⟩ = cmpS s s' by simp [refT, h12, k3, hlen, hst'])
            have hle : ((l.length : Int) != l'.length) = false := by rw [hlen]; simp
            have hne := toList_ne hst'
            clear ih hT
            go_enter Tryd.func29, Tryd.ntmps29
            go_wp2_with (go_at_call 46; refine (texts_c _ _ _ hss hss').mono ?_; rintro e w1 ⟨rfl, hb1⟩)
            go_ret
            exact ⟨ret_int HX.out.symm, below_then (hst _ _) (by simp; omega) hb1⟩
        · have HX := Lib.hid (show refT ⟨k, s, n, l⟩ ⟨k, s', n', l'⟩ = cmpI l.length l'.length by simp [refT, h12, k3, hlen])
          have hle : ((l.length : Int) != l'.length) = true := by rw [bne_iff_ne]; omega
          clear ih hT
          go_enter Tryd.func29, Tryd.ntmps29
          go_wp2_with (go_at_call 45; refine (num_c _ _ _).mono ?_; rintro e w1 ⟨rfl, rfl⟩)
          go_ret
          exact ⟨ret_int HX.out.symm, hst _ _⟩
  · have HX := Lib.hid (show refT ⟨k, s, n, l⟩ ⟨k', s', n', l'⟩ = cmpI k k' by simp [refT, hk])
    have hk2 : (k != k') = true := by rw [bne_iff_ne]; exact hk
    have hw1 : IntKind.i64.wrap k = k := by rw [IntKind.wrap_i64]; omega
    have hw2 : IntKind.i64.wrap k' = k' := by rw [IntKind.wrap_i64]; omega
    clear ih hT
    go_enter Tryd.func29, Tryd.ntmps29
    go_wp2_with (go_at_call 45; refine (num_c _ _ _).mono ?_; rintro e w1 ⟨rfl, rfl⟩)
    go_ret
    exact ⟨ret_int HX.out.symm, hst _ _⟩
end Go.Proofs.YtgcbanljifalnaaDoor
/- The law of layer 2 wakes. No condition. -/
namespace Go.Proofs.YtgcbanljifalnaaDoor
open Go.RowKit

def kA (s : ByteArray) : Tm := ⟨3, s, 0, []⟩
end Go.Proofs.YtgcbanljifalnaaDoor
/- Plain laws of layer 2: of good terms the order is the one by definition. No condition. -/
namespace Go.Proofs.YtgcbanljifalnaaDoor

theorem orI_zero (a : Int) : orI a 0 = a := by unfold orI; split <;> simp_all
theorem zero_orI (b : Int) : orI 0 b = b := by simp [orI]
theorem orI_ne {a : Int} (b : Int) (h : a ≠ 0) : orI a b = a := by simp [orI, h]
theorem cmpI_self (a : Int) : cmpI a a = 0 := by simp [cmpI]
theorem cmpI_ne {a b : Int} (h : a ≠ b) : cmpI a b ≠ 0 := by unfold cmpI; (repeat' split) <;> omega
theorem less_self : ∀ l : List UInt8, Op.bytesLess l l = false
  | [] => by simp [Op.bytesLess]
  | x :: l => by
    have : ¬ x < x := by simp
    simp [Op.bytesLess, less_self l, this]
theorem cmpS_self (s : ByteArray) : cmpS s s = 0 := by unfold cmpS; rw [less_self]; simp
theorem cmpS_ne {s t : ByteArray} (h : s ≠ t) : cmpS s t ≠ 0 := by unfold cmpS; rw [if_neg h]; split <;> decide
theorem size_zero {s : ByteArray} (h : s.size = 0) : s = ⟨#[]⟩ := by
  obtain ⟨d⟩ := s
  have : d = #[] := Array.eq_empty_of_size_eq_zero h
  rw [this]
theorem refL_cmpL : ∀ (l m : List Tm), l.length = m.length → (∀ t ∈ l, ∀ u : Tm, t.shp = true → u.shp = true → refT t u = cmpT t u) → shpL l = true → shpL m = true → refL l m = cmpL l m
  | [], [], _, _, _, _ => by simp [refL, cmpL]
  | [], _ :: _, h, _, _, _ => by simp at h
  | _ :: _, [], h, _, _, _ => by simp at h
  | t :: ts, u :: us, h, H, h1, h2 => by
    simp only [shpL, Bool.and_eq_true] at h1 h2
    simp only [refL, cmpL]
    rw [H t (by simp) u h1.1 h2.1, refL_cmpL ts us (by simpa using h) (fun x hx => H x (List.mem_cons_of_mem _ hx)) h1.2 h2.2]
theorem ref_cmp (t : Tm) : ∀ u : Tm, t.shp = true → u.shp = true → refT t u = cmpT t u := by
  refine Tm.ind (p := fun t => ∀ u : Tm, t.shp = true → u.shp = true → refT t u = cmpT t u) ?_ t
  rintro ⟨k, s, n, l⟩ ih ⟨k', s', n', l'⟩ h h'
  simp only at ih
  by_cases hk : k = k'
  · subst hk
    by_cases k1 : k = 1
    · subst k1
      simp only [Tm.shp, if_pos, Bool.and_eq_true, decide_eq_true_eq] at h h'
      obtain ⟨⟨-, hs⟩, rfl⟩ := h
      obtain ⟨⟨-, hs'⟩, rfl⟩ := h'
      rw [size_zero hs, size_zero hs']
      simp [refT, cmpT, cmpI_self, cmpS_self, zero_orI, orI_zero, cmpL]
    · by_cases k2 : k = 2
      · subst k2
        simp only [Tm.shp, if_pos, if_neg k1, Bool.and_eq_true, decide_eq_true_eq] at h h'
        obtain ⟨hs, rfl⟩ := h
        obtain ⟨hs', rfl⟩ := h'
        rw [size_zero hs, size_zero hs']
        simp [refT, cmpT, cmpI_self, cmpS_self, zero_orI, orI_zero, cmpL]
      · by_cases k3 : k = 3
        · subst k3
          simp only [Tm.shp, if_pos, if_neg k1, if_neg k2, Bool.and_eq_true, decide_eq_true_eq] at h h'
          obtain ⟨⟨rfl, rfl⟩, -⟩ := h
          obtain ⟨⟨rfl, rfl⟩, -⟩ := h'
          simp [refT, cmpT, cmpI_self, zero_orI, orI_zero, cmpL]
        · simp only [Tm.shp, if_neg k1, if_neg k2, if_neg k3, Bool.and_eq_true, decide_eq_true_eq] at h h'
          have hn : n = 0 := h.1.1.1.2
          have hn' : n' = 0 := h'.1.1.1.2
          subst hn hn'
          simp only [cmpT, cmpI_self, zero_orI]
          by_cases hl : l.length = l'.length
          · by_cases hs : s = s'
            · subst hs
              have := refL_cmpL l l' hl ih h.2 h'.2
              simp [refT, k1, k2, k3, hl, this, cmpI_self, cmpS_self, zero_orI]
            · simp [refT, k1, k2, k3, hl, hs, cmpI_self, zero_orI, orI_ne _ (cmpS_ne hs)]
          · have hne : cmpI (l.length : Int) l'.length ≠ 0 := cmpI_ne (by omega)
            simp [refT, k1, k2, k3, hl, orI_ne _ hne]
  · simp [refT, cmpT, hk, orI_ne _ (cmpI_ne hk)]
end Go.Proofs.YtgcbanljifalnaaDoor
/- Plain laws of layer 2: the order is one. No condition. -/
namespace Go.Proofs.YtgcbanljifalnaaDoor

/-- What a comparison by three-way numbers must be. -/
structure Cmp (x xr : Int) (e : Prop) : Prop where
  rng : x = -1 ∨ x = 0 ∨ x = 1
  neg : xr = -x
  zero : x = 0 ↔ e
theorem cmpI_cmp (a b : Int) : Cmp (cmpI a b) (cmpI b a) (a = b) := by
  unfold cmpI
  refine ⟨?_, ?_, ?_⟩
  · (repeat' split) <;> simp
  · (repeat' split) <;> omega
  · (repeat' split) <;> omega
theorem tx_cmp : ∀ l m : List UInt8, Cmp (tx l m) (tx m l) (l = m)
  | [], [] => ⟨by simp [tx_nil], by simp [tx_nil], by simp [tx_nil]⟩
  | [], y :: m => ⟨by simp [tx_nil_cons], by simp [tx_nil_cons, tx_cons_nil], by simp [tx_nil_cons]⟩
  | x :: l, [] => ⟨by simp [tx_cons_nil], by simp [tx_nil_cons, tx_cons_nil], by simp [tx_cons_nil]⟩
  | x :: l, y :: m => by
    rw [tx_cons, tx_cons]
    by_cases h : x = y
    · subst h
      have := tx_cmp l m
      simp only [if_pos]
      exact ⟨this.rng, this.neg, by rw [this.zero]; simp⟩
    · have h' : ¬ y = x := fun e => h e.symm
      rw [if_neg h, if_neg h']
      by_cases hl : x < y
      · have : ¬ y < x := by
          rw [UInt8.lt_iff_toNat_lt] at hl ⊢; omega
        rw [if_pos hl, if_neg this]
        exact ⟨by simp, by simp, by simp [h]⟩
      · have : y < x := by
          rw [UInt8.lt_iff_toNat_lt] at hl ⊢
          have : x.toNat ≠ y.toNat := fun e => h (UInt8.toNat_inj.1 e)
          omega
        rw [if_neg hl, if_pos this]
        exact ⟨by simp, by simp, by simp [h]⟩
theorem cmpS_cmp (a b : ByteArray) : Cmp (cmpS a b) (cmpS b a) (a = b) := by
  rw [cmpS_tx, cmpS_tx]
  have := tx_cmp a.data.toList b.data.toList
  refine ⟨this.rng, this.neg, this.zero.trans ⟨fun h => ?_, fun h => by rw [h]⟩⟩
  obtain ⟨a⟩ := a
  obtain ⟨b⟩ := b
  simpa using h
end Go.Proofs.YtgcbanljifalnaaDoor

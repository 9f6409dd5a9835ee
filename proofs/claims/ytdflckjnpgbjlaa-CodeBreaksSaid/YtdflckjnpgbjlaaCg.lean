/- Layer 22's reference: numbers in lists, texts, cases, walked. Conditions: the arguments read. -/
import Derived.Test.YtdflckjnpgbjlaaCa
import Derived.Deep.RegionHeld3
import Derived.Deep.DrawnRows
set_option linter.unusedVariables false
set_option maxRecDepth 20000
set_option linter.unusedSimpArgs false
namespace Go.Proofs.Ytdflckjnpgbjlaa
open Go.RowKit
attribute [local go_sem ↓] Go.wp_at_zero Go.wp_at_succ

theorem litI {W : World} {B : Nat} {ok : Nat → Prop} {t : TypeId} (l : List Int) (h : W.heap[B]? = some (.cells (l.map (Value.int .i64)).toArray t (0, 0))) (hok : ok B) (hl : l.length ≤ 100) : (Kd.int .i64).S W ok l (.slice (some ⟨B, 0, none⟩) l.length l.length) := by
  refine ⟨some ⟨B, 0, none⟩, l.length, rfl, Nat.le_refl _, by simp [maxLen]; omega, .inr ⟨B, 0, rfl, hok, fun j x hx => ?_⟩⟩
  refine ⟨[.int .i64 x], rfl, fun i u hi => ?_⟩
  cases i with
  | succ i => simp at hi
  | zero =>
    simp at hi
    subst hi
    have hj : j < l.length := (List.getElem?_eq_some_iff.1 hx).1
    have hx' : l[j] = x := (List.getElem?_eq_some_iff.1 hx).2
    have hsz : (Kd.int IntKind.i64).sz = 1 := rfl
    simp [World.cell?, h, hsz, hj, hx']
def inB (n : Int) (l : List Int) : Bool := l.any (fun x => x == n)
set_option maxHeartbeats 1600000 in
theorem in_c (n : Int) (l : List Int) (v : Value) (w : World) (ok : Nat → Prop) (hv : (Kd.int .i64).S w ok l v) :
    Calls Try.prog 74 #[.int .i64 n, v] w fun e w' => e = .returned (.bool (inB n l)) ∧ Below w.heap.size w w' := by
  obtain ⟨A, c, rfl, hl, hc, hA⟩ := hv
  unfold maxLen at hc
  go_enter Try.func74, Try.ntmps74
  go_wp2
  go_loopw [5] (fun i wr => ∃ j : Nat, j ≤ l.length ∧ i = .int .i64 j ∧ Hid (inB n l = inB n (l.drop j)) ∧ wr = w) (fun i _ => l.length - (intOf i).toNat)
  case atStart => exact ⟨0, Nat.zero_le _, rfl, Lib.hid rfl, rfl⟩
  case round =>
    obtain ⟨j, hj, rfl, hr, rfl⟩ := hrel
    by_cases hlt : j < l.length
    · obtain ⟨bv, ov, rfl, -, hlo, hcv⟩ := int_elem hA hlt
      have HR := Lib.hid (show inB n l = (l[j] == n || inB n (l.drop (j + 1))) by rw [hr.out, List.drop_eq_getElem_cons hlt]; rfl)
      clear hA hr
      generalize l[j] = x at hcv HR
      by_cases h0 : x = n
      · have h0' : (x == n) = true := by simpa using h0
        have HRT : Hid (inB n l = true) := Lib.hid (by rw [HR.out, h0']; rfl)
        clear h0
        go_wp2
        all_goals go_ret
        all_goals exact ⟨ret_bool HRT.out.symm, Below.refl _ _⟩
      · have h0' : (x == n) = false := by simpa using h0
        clear h0
        go_wp2
        go_roundw
        case rel => exact ⟨j + 1, by omega, by go_num, Lib.hid (by rw [HR.out, h0', Bool.false_or]), (by trivial)⟩
        case measure => simp [intOf]; omega
    · have HR := Lib.hid (show inB n l = false by rw [hr.out, List.drop_eq_nil_of_le (by omega)]; rfl)
      clear hA hr
      go_wp2
      go_ret
      exact ⟨ret_bool HR.out.symm, Below.refl _ _⟩
theorem rEnds_c (n : Int) (w : World) : Calls Try.prog 38 #[.int .i64 n] w fun e w' => e = .returned (.bool (endB n)) ∧ Below w.heap.size w w' := by
  have HI := Lib.hid (in_c n [4, 5, 6, 7, 12, 13, 14] _ _ (fun _ => True) (litI [4, 5, 6, 7, 12, 13, 14] (heap_new w (.cells #[.int .i64 4, .int .i64 5, .int .i64 6, .int .i64 7, .int .i64 12, .int .i64 13, .int .i64 14] 3)) trivial (by simp)))
  have HX : Hid (endB n = inB n [4, 5, 6, 7, 12, 13, 14]) := Lib.hid (by unfold endB inB; rw [Bool.eq_iff_iff]; simp; constructor <;> rintro (h | h | h | h | h | h | h) <;> simp [h])
  generalize endB n = en at HX
  generalize inB n [4, 5, 6, 7, 12, 13, 14] = em at HX HI
  go_enter Try.func38, Try.ntmps38
  go_wp2_with (go_at_call 74; refine HI.out.mono ?_; clear HI; rintro e w1 ⟨rfl, hb1⟩)
  go_ret
  exact ⟨ret_bool HX.out.symm, below_then ((Below.refl _ w).alloc (Nat.le_refl _) _) (by simp) hb1⟩
set_option maxRecDepth 100000 in
set_option maxHeartbeats 1600000 in
theorem texts22_c (a b : ByteArray) (w : World) (ha : a.size ≤ 140737488351232) (hb : b.size ≤ 140737488351232) : Calls Try.prog 156 #[.string a, .string b] w fun e w' => e = .returned (.bool (decide (cmpS a b < 0))) ∧ Below w.heap.size w w' := by
  go_enter Try.func156, Try.ntmps156
  go_wp2
  go_loopw [5] (fun i wr => ∃ j : Nat, j ≤ a.size ∧ j ≤ b.size ∧ i = .int .i64 j ∧ Hid (∀ i (h : i < j) (h1 : i < a.size) (h2 : i < b.size), a[i] = b[i]) ∧ Below w.heap.size w wr) (fun i _ => a.size - (intOf i).toNat)
  case atStart => exact ⟨0, Nat.zero_le _, Nat.zero_le _, rfl, Lib.hid (fun i h => by omega), Below.refl _ _⟩
  case round =>
    obtain ⟨j, hj, hj', rfl, hn, hbe⟩ := hrel
    by_cases hlt : j < a.size
    · by_cases hlt' : j < b.size
      · have h1 : (j : Int) < a.size := by omega
        have h2 : (j : Int) < b.size := by omega
        by_cases hne : a[j] = b[j]
        · have hne' : ((a[j].toNat : Int) != (b[j].toNat : Int)) = false := by rw [hne]; simp
          have HS : Hid (∀ i (h : i < j + 1) (h1 : i < a.size) (h2 : i < b.size), a[i] = b[i]) := Lib.hid (fun i hi q1 q2 => by
            rcases Nat.lt_or_ge i j with h | h
            · exact hn.out i h q1 q2
            · obtain rfl : i = j := by omega
              exact hne)
          clear hne hn
          go_wp2
          refine wp_region_held_drew (S := (fun W => Below w.heap.size w W)) (by kernel_rfl) ?_ (fun hHeld => ?_)
          · exact hbe.drew
          change wpAnyH _ .any _ _ _ 7 (Array.replicate 7 false) _ _
          refine wpAnyH_take (i := 0) (oi := ⟨some 18, _, _, _, _, _⟩) (v := ?_) rfl (by kernel_rfl) (by kernel_rfl) (by kernel_rfl) (fun _ _ _ h => h) (Or.inl ⟨by rfl, ?_⟩) (by assumption) ?_
          rotate_left
          · (intro w hSw; (try dsimp only at hSw); go_simp; try (with_reducible rfl))
          (try simp only [Act.put, List.setIfInBounds_toArray, List.set_cons_zero, List.set_cons_succ])
          refine wpAnyH_take (i := 1) (oi := ⟨some 19, _, _, _, _, _⟩) (v := ?_) rfl (by kernel_rfl) (by kernel_rfl) (by kernel_rfl) (fun _ _ _ h => h) (Or.inl ⟨by rfl, ?_⟩) (by assumption) ?_
          rotate_left
          · (intro w hSw; (try dsimp only at hSw); go_simp; try (with_reducible rfl))
          (try simp only [Act.put, List.setIfInBounds_toArray, List.set_cons_zero, List.set_cons_succ])
          refine wpAnyH_take (i := 2) (oi := ⟨some 20, _, _, _, _, _⟩) (v := ?_) rfl (by kernel_rfl) (by kernel_rfl) (by kernel_rfl) (fun _ _ _ h => h) (Or.inl ⟨by rfl, ?_⟩) (by assumption) ?_
          rotate_left
          · (intro w hSw; (try dsimp only at hSw); go_simp; try (with_reducible rfl))
          (try simp only [Act.put, List.setIfInBounds_toArray, List.set_cons_zero, List.set_cons_succ])
          refine wpAnyH_take (i := 3) (oi := ⟨some 21, _, _, _, _, _⟩) (v := ?_) rfl (by kernel_rfl) (by kernel_rfl) (by kernel_rfl) (fun _ _ _ h => h) (Or.inl ⟨by rfl, ?_⟩) (by assumption) ?_
          rotate_left
          · (intro w hSw; (try dsimp only at hSw); go_simp; try (with_reducible rfl))
          (try simp only [Act.put, List.setIfInBounds_toArray, List.set_cons_zero, List.set_cons_succ])
          refine wpAnyH_take (i := 4) (oi := ⟨some 22, _, _, _, _, _⟩) (v := ?_) rfl (by kernel_rfl) (by kernel_rfl) (by kernel_rfl) (fun _ _ _ h => h) (Or.inl ⟨by rfl, ?_⟩) (by assumption) ?_
          rotate_left
          · (intro w hSw; (try dsimp only at hSw); go_simp; try (with_reducible rfl))
          (try simp only [Act.put, List.setIfInBounds_toArray, List.set_cons_zero, List.set_cons_succ])
          refine wpAnyH_take (i := 5) (oi := ⟨some 23, _, _, _, _, _⟩) (v := ?_) rfl (by kernel_rfl) (by kernel_rfl) (by kernel_rfl) (fun _ _ _ h => h) (Or.inl ⟨by rfl, ?_⟩) (by assumption) ?_
          rotate_left
          · (intro w hSw; (try dsimp only at hSw); go_simp; try (with_reducible rfl))
          (try simp only [Act.put, List.setIfInBounds_toArray, List.set_cons_zero, List.set_cons_succ])
          refine wpAnyH_take (i := 6) (oi := ⟨some 24, _, _, _, _, _⟩) (v := ?_) rfl (by kernel_rfl) (by kernel_rfl) (by kernel_rfl) (fun _ _ _ h => h) (Or.inl ⟨by rfl, ?_⟩) (by assumption) ?_
          rotate_left
          · (intro w hSw; (try dsimp only at hSw); go_simp; try (with_reducible rfl))
          (try simp only [Act.put, List.setIfInBounds_toArray, List.set_cons_zero, List.set_cons_succ])
          refine wpAnyH_done (by kernel_rfl) ?_ _
          go_wp2
          go_roundw
          case rel => exact ⟨j + 1, by omega, by omega, by go_num, HS, hHeld⟩
          case measure => simp [intOf]; omega
        · have hne' : ((a[j].toNat : Int) != (b[j].toNat : Int)) = true := by
            rw [bne_iff_ne]; intro e; exact hne (UInt8.toNat_inj.1 (by omega))
          have HS := Lib.hid (cmpS_at hlt hlt' (fun i hi => hn.out i hi _ _) hne)
          clear hne hn
          go_wp2
          refine wp_region_held_drew (S := (fun W => Below w.heap.size w W)) (by kernel_rfl) ?_ (fun hHeld => ?_)
          · exact hbe.drew
          change wpAnyH _ .any _ _ _ 7 (Array.replicate 7 false) _ _
          refine wpAnyH_take (i := 0) (oi := ⟨some 18, _, _, _, _, _⟩) (v := ?_) rfl (by kernel_rfl) (by kernel_rfl) (by kernel_rfl) (fun _ _ _ h => h) (Or.inl ⟨by rfl, ?_⟩) (by assumption) ?_
          rotate_left
          · (intro w hSw; (try dsimp only at hSw); go_simp; try (with_reducible rfl))
          (try simp only [Act.put, List.setIfInBounds_toArray, List.set_cons_zero, List.set_cons_succ])
          refine wpAnyH_take (i := 1) (oi := ⟨some 19, _, _, _, _, _⟩) (v := ?_) rfl (by kernel_rfl) (by kernel_rfl) (by kernel_rfl) (fun _ _ _ h => h) (Or.inl ⟨by rfl, ?_⟩) (by assumption) ?_
          rotate_left
          · (intro w hSw; (try dsimp only at hSw); go_simp; try (with_reducible rfl))
          (try simp only [Act.put, List.setIfInBounds_toArray, List.set_cons_zero, List.set_cons_succ])
          refine wpAnyH_take (i := 2) (oi := ⟨some 20, _, _, _, _, _⟩) (v := ?_) rfl (by kernel_rfl) (by kernel_rfl) (by kernel_rfl) (fun _ _ _ h => h) (Or.inl ⟨by rfl, ?_⟩) (by assumption) ?_
          rotate_left
          · (intro w hSw; (try dsimp only at hSw); go_simp; try (with_reducible rfl))
          (try simp only [Act.put, List.setIfInBounds_toArray, List.set_cons_zero, List.set_cons_succ])
          refine wpAnyH_take (i := 3) (oi := ⟨some 21, _, _, _, _, _⟩) (v := ?_) rfl (by kernel_rfl) (by kernel_rfl) (by kernel_rfl) (fun _ _ _ h => h) (Or.inl ⟨by rfl, ?_⟩) (by assumption) ?_
          rotate_left
          · (intro w hSw; (try dsimp only at hSw); go_simp; try (with_reducible rfl))
          (try simp only [Act.put, List.setIfInBounds_toArray, List.set_cons_zero, List.set_cons_succ])
          refine wpAnyH_take (i := 4) (oi := ⟨some 22, _, _, _, _, _⟩) (v := ?_) rfl (by kernel_rfl) (by kernel_rfl) (by kernel_rfl) (fun _ _ _ h => h) (Or.inl ⟨by rfl, ?_⟩) (by assumption) ?_
          rotate_left
          · (intro w hSw; (try dsimp only at hSw); go_simp; try (with_reducible rfl))
          (try simp only [Act.put, List.setIfInBounds_toArray, List.set_cons_zero, List.set_cons_succ])
          refine wpAnyH_take (i := 5) (oi := ⟨some 23, _, _, _, _, _⟩) (v := ?_) rfl (by kernel_rfl) (by kernel_rfl) (by kernel_rfl) (fun _ _ _ h => h) (Or.inl ⟨by rfl, ?_⟩) (by assumption) ?_
          rotate_left
          · (intro w hSw; (try dsimp only at hSw); go_simp; try (with_reducible rfl))
          (try simp only [Act.put, List.setIfInBounds_toArray, List.set_cons_zero, List.set_cons_succ])
          refine wpAnyH_take (i := 6) (oi := ⟨some 24, _, _, _, _, _⟩) (v := ?_) rfl (by kernel_rfl) (by kernel_rfl) (by kernel_rfl) (fun _ _ _ h => h) (Or.inl ⟨by rfl, ?_⟩) (by assumption) ?_
          rotate_left
          · (intro w hSw; (try dsimp only at hSw); go_simp; try (with_reducible rfl))
          (try simp only [Act.put, List.setIfInBounds_toArray, List.set_cons_zero, List.set_cons_succ])
          refine wpAnyH_done (by kernel_rfl) ?_ _
          have hbf := hHeld
          clear hHeld
          go_wp2
          refine wp_region_held_drew (S := (fun W => Below w.heap.size w W)) (by kernel_rfl) ?_ (fun hHeld => ?_)
          · exact hbf.drew
          change wpAnyH _ .any _ _ _ 8 (Array.replicate 8 false) _ _
          refine wpAnyH_take (i := 0) (oi := ⟨some 25, _, _, _, _, _⟩) (v := ?_) rfl (by kernel_rfl) (by kernel_rfl) (by kernel_rfl) (fun _ _ _ h => h) (Or.inl ⟨by rfl, ?_⟩) (by assumption) ?_
          rotate_left
          · (intro w hSw; (try dsimp only at hSw); go_simp; try (with_reducible rfl))
          (try simp only [Act.put, List.setIfInBounds_toArray, List.set_cons_zero, List.set_cons_succ])
          refine wpAnyH_take (i := 1) (oi := ⟨some 26, _, _, _, _, _⟩) (v := ?_) rfl (by kernel_rfl) (by kernel_rfl) (by kernel_rfl) (fun _ _ _ h => h) (Or.inl ⟨by rfl, ?_⟩) (by assumption) ?_
          rotate_left
          · (intro w hSw; (try dsimp only at hSw); go_simp; try (with_reducible rfl))
          (try simp only [Act.put, List.setIfInBounds_toArray, List.set_cons_zero, List.set_cons_succ])
          refine wpAnyH_take (i := 2) (oi := ⟨some 27, _, _, _, _, _⟩) (v := ?_) rfl (by kernel_rfl) (by kernel_rfl) (by kernel_rfl) (fun _ _ _ h => h) (Or.inl ⟨by rfl, ?_⟩) (by assumption) ?_
          rotate_left
          · (intro w hSw; (try dsimp only at hSw); go_simp; try (with_reducible rfl))
          (try simp only [Act.put, List.setIfInBounds_toArray, List.set_cons_zero, List.set_cons_succ])
          refine wpAnyH_take (i := 3) (oi := ⟨some 28, _, _, _, _, _⟩) (v := ?_) rfl (by kernel_rfl) (by kernel_rfl) (by kernel_rfl) (fun _ _ _ h => h) (Or.inl ⟨by rfl, ?_⟩) (by assumption) ?_
          rotate_left
          · (intro w hSw; (try dsimp only at hSw); go_simp; try (with_reducible rfl))
          (try simp only [Act.put, List.setIfInBounds_toArray, List.set_cons_zero, List.set_cons_succ])
          refine wpAnyH_take (i := 4) (oi := ⟨some 29, _, _, _, _, _⟩) (v := ?_) rfl (by kernel_rfl) (by kernel_rfl) (by kernel_rfl) (fun _ _ _ h => h) (Or.inl ⟨by rfl, ?_⟩) (by assumption) ?_
          rotate_left
          · (intro w hSw; (try dsimp only at hSw); go_simp; try (with_reducible rfl))
          (try simp only [Act.put, List.setIfInBounds_toArray, List.set_cons_zero, List.set_cons_succ])
          refine wpAnyH_take (i := 5) (oi := ⟨some 30, _, _, _, _, _⟩) (v := ?_) rfl (by kernel_rfl) (by kernel_rfl) (by kernel_rfl) (fun _ _ _ h => h) (Or.inl ⟨by rfl, ?_⟩) (by assumption) ?_
          rotate_left
          · (intro w hSw; (try dsimp only at hSw); go_simp; try (with_reducible rfl))
          (try simp only [Act.put, List.setIfInBounds_toArray, List.set_cons_zero, List.set_cons_succ])
          refine wpAnyH_take (i := 6) (oi := ⟨some 31, _, _, _, _, _⟩) (v := ?_) rfl (by kernel_rfl) (by kernel_rfl) (by kernel_rfl) (fun _ _ _ h => h) (Or.inl ⟨by rfl, ?_⟩) (by assumption) ?_
          rotate_left
          · (intro w hSw; (try dsimp only at hSw); go_simp; try (with_reducible rfl))
          (try simp only [Act.put, List.setIfInBounds_toArray, List.set_cons_zero, List.set_cons_succ])
          refine wpAnyH_take (i := 7) (oi := ⟨some 4, _, _, _, _, _⟩) (v := ?_) rfl (by kernel_rfl) (by kernel_rfl) (by kernel_rfl) (fun _ _ _ h => h) (Or.inl ⟨by rfl, ?_⟩) (by assumption) ?_
          rotate_left
          · (intro w hSw; (try dsimp only at hSw); go_simp; try (with_reducible rfl))
          (try simp only [Act.put, List.setIfInBounds_toArray, List.set_cons_zero, List.set_cons_succ])
          refine wpAnyH_done (by kernel_rfl) ?_ _
          go_wp2
          go_ret
          exact ⟨ret_bool (by rw [HS.out]; split <;> simp <;> omega), hHeld⟩
      · have hlt2 : decide ((j : Int) < b.size) = false := by simp; omega
        have hlt1 : (j : Int) < a.size := by omega
        have hlt3 : ¬ (j : Int) < b.size := by omega
        have HS := Lib.hid (cmpS_end (fun i h1 h2 => hn.out i (by omega) h1 h2))
        clear hn
        go_wp2
        go_ret
        exact ⟨ret_bool (by rw [HS.out]; unfold cmpI; (repeat' split) <;> simp <;> omega), hbe⟩
    · have HS := Lib.hid (cmpS_end (fun i h1 h2 => hn.out i (by omega) h1 h2))
      have hlt1 : ¬ (j : Int) < a.size := by omega
      clear hn
      go_wp2
      go_ret
      exact ⟨ret_bool (by rw [HS.out]; unfold cmpI; (repeat' split) <;> simp <;> omega), hbe⟩
theorem ord_neg (x y : Cs) : decide (ordC x y < 0) = if x.k ≠ y.k then decide (x.k < y.k) else if x.s ≠ y.s then decide (cmpS x.s y.s < 0) else decide (x.n < y.n) := by
  have e : ordC x y = if cmpI x.k y.k ≠ 0 then cmpI x.k y.k else if cmpS x.s y.s ≠ 0 then cmpS x.s y.s else if cmpI x.n y.n ≠ 0 then cmpI x.n y.n else 0 := rfl
  by_cases hk : x.k = y.k
  · have h1 : cmpI x.k y.k = 0 := by rw [hk]; simp [cmpI]
    rw [if_neg (by simpa using h1)] at e
    rw [if_neg (by simpa using hk)]
    by_cases hs : x.s = y.s
    · have h2 : cmpS x.s y.s = 0 := by
        rw [hs, cmpS_end (fun i h1 h2 => rfl)]; simp [cmpI]
      rw [if_neg (by simpa using h2)] at e
      rw [if_neg (by simpa using hs), e, decide_eq_decide]
      unfold cmpI
      (repeat' split) <;> omega
    · have h2 : cmpS x.s y.s ≠ 0 := by
        unfold cmpS; rw [if_neg hs]; split <;> decide
      rw [if_pos h2] at e
      rw [if_pos hs, e]
  · have h1 : cmpI x.k y.k ≠ 0 := by unfold cmpI; (repeat' split) <;> omega
    rw [if_pos h1] at e
    rw [if_pos hk, e, decide_eq_decide]
    unfold cmpI
    (repeat' split) <;> omega
set_option maxHeartbeats 1600000 in
theorem ahead_c (x y : Cs) (w : World) (hx : x.s.size ≤ 140737488351232) (hy : y.s.size ≤ 140737488351232) : Calls Try.prog 144 #[.agg #[.int .u8 x.k, .string x.s, .int .i64 x.n, .int .i64 x.to], .agg #[.int .u8 y.k, .string y.s, .int .i64 y.n, .int .i64 y.to]] w fun e w' => e = .returned (.bool (decide (ordC x y < 0))) ∧ Below w.heap.size w w' := by
  have hb : Below w.heap.size w ((w.alloc (.cells #[.int .u8 x.k, .string x.s, .int .i64 x.n, .int .i64 x.to] 130)).alloc (.cells #[.int .u8 y.k, .string y.s, .int .i64 y.n, .int .i64 y.to] 130)) := ((Below.refl _ w).alloc (Nat.le_refl _) _).alloc (by simp) _
  have HT := Lib.hid (fun W => texts22_c x.s y.s W hx hy)
  have HO : Hid (decide (ordC x y < 0) = if x.k ≠ y.k then decide (x.k < y.k) else if x.s ≠ y.s then decide (cmpS x.s y.s < 0) else decide (x.n < y.n)) := Lib.hid (ord_neg x y)
  have hst : (x.s.toList == y.s.toList) = decide (x.s = y.s) := by
    rw [Bool.eq_iff_iff]; simp only [beq_iff_eq, decide_eq_true_eq]
    exact ⟨toList_inj, fun h => by rw [h]⟩
  have HST := Lib.hid hst
  generalize decide (ordC x y < 0) = R at HO
  generalize decide (cmpS x.s y.s < 0) = q at HT HO
  clear hx hy hst
  by_cases hk : x.k = y.k
  · have hk' : (x.k != y.k) = false := by simpa using hk
    rw [if_neg (by simpa using hk)] at HO
    by_cases hs : x.s = y.s
    · have hs1 : (!x.s.toList == y.s.toList) = false := by rw [HST.out]; simp [hs]
      rw [if_neg (by simpa using hs)] at HO
      clear hk hs HST HT
      go_enter Try.func144, Try.ntmps144
      go_wp2
      go_ret
      exact ⟨ret_bool HO.out.symm, hb⟩
    · have hs1 : (!x.s.toList == y.s.toList) = true := by rw [HST.out]; simp [hs]
      rw [if_pos (by simpa using hs)] at HO
      clear hk hs HST
      go_enter Try.func144, Try.ntmps144
      go_wp2_with (go_at_call 156; refine (HT.out _).mono ?_; clear HT; rintro e w1 ⟨rfl, hb1⟩)
      go_ret
      exact ⟨ret_bool HO.out.symm, below_then hb hb.size hb1⟩
  · have hk' : (x.k != y.k) = true := by simpa using hk
    rw [if_pos (by simpa using hk)] at HO
    clear hk HST HT
    go_enter Try.func144, Try.ntmps144
    go_wp2
    go_ret
    exact ⟨ret_bool HO.out.symm, hb⟩
end Go.Proofs.Ytdflckjnpgbjlaa

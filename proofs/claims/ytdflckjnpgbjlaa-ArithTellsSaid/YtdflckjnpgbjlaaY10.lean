/- Layer 13's reference: products; an operator's, walked. Conditions: numbers of 64 bits. -/
import Derived.Test.YtdflckjnpgbjlaaY9
import Derived.Deep.DeepCutAuto
set_option linter.unusedVariables false
set_option maxRecDepth 20000
set_option linter.unusedSimpArgs false
namespace Go.Proofs.Ytdflckjnpgbjlaa
open Go.RowKit

theorem times_lo (x y : Nat) : ((x % 4294967296 * (y / 4294967296) + (x / 4294967296 * (y % 4294967296) + x % 4294967296 * (y % 4294967296) / 4294967296) % 4294967296) * 4294967296 % 18446744073709551616 ||| (x % 4294967296 * (y % 4294967296)) % 4294967296) = x * y % 18446744073709551616 := by
  have e : x * y = (x / 4294967296) * (y / 4294967296) * (4294967296 * 4294967296) + ((x / 4294967296) * (y % 4294967296) + (x % 4294967296) * (y / 4294967296)) * 4294967296 + (x % 4294967296) * (y % 4294967296) := by
    rw [← Lib.split_mul, Nat.div_add_mod' x 4294967296, Nat.div_add_mod' y 4294967296]
  rw [e]
  generalize (x / 4294967296) * (y / 4294967296) = a at *
  generalize (x / 4294967296) * (y % 4294967296) = b at *
  generalize (x % 4294967296) * (y / 4294967296) = c at *
  generalize (x % 4294967296) * (y % 4294967296) = d at *
  obtain ⟨q, hq⟩ : ∃ q, (c + (b + d / 4294967296) % 4294967296) * 4294967296 % 18446744073709551616 = 2 ^ 32 * q := ⟨(c + (b + d / 4294967296) % 4294967296) % 4294967296, by omega⟩
  rw [hq, ← Nat.two_pow_add_eq_or_of_lt (show d % 4294967296 < 2 ^ 32 by omega)]
  omega
theorem mulW (a : Nat) : IntKind.u64.wrap ((a : Int) * 4294967296) = ((a * 4294967296 % 18446744073709551616 : Nat) : Int) := by rw [IntKind.wrap_u64]; omega
theorem orN (a b : Nat) (ha : a < 18446744073709551616) (hb : b < 18446744073709551616) : bits .or .u64 (a : Int) (b : Int) = ((a ||| b : Nat) : Int) := bits_or_u64_nat a b ha hb
theorem boxn3 {w : World} {B : Nat} {t : TypeId} {a b c : Value} (h : w.heap[B]? = some (.cells #[a, b, c] t (0, 0))) :
    w.cell? ⟨B, 0, none⟩ = some a ∧ w.cell? ⟨B, 1, none⟩ = some b ∧ w.cell? ⟨B, 2, none⟩ = some c ∧ w.frozen? ⟨B, 0, none⟩ = false ∧ w.frozen? ⟨B, 1, none⟩ = false ∧ w.frozen? ⟨B, 2, none⟩ = false := by simp [World.cell?, World.frozen?, h]
set_option maxRecDepth 100000 in
set_option maxHeartbeats 8000000 in
theorem times_c (s : Bool) (x : Nat) (t : Bool) (y : Nat) (hx : x < 18446744073709551616) (hy : y < 18446744073709551616) (w : World) :
    Calls Try.prog 133 #[.agg #[.bool s, .int .u64 0, .int .u64 (x : Int)], .agg #[.bool t, .int .u64 0, .int .u64 (y : Int)]] w fun e w' => e = .returned (nmV (s != t) (x * y)) ∧ Below w.heap.size w w' := by
  obtain ⟨W3, hW3⟩ : ∃ W3, W3 = (((w.alloc (.cells #[.bool s, .int .u64 0, .int .u64 (x : Int)] 170)).alloc (.cells #[.bool t, .int .u64 0, .int .u64 (y : Int)] 170)).alloc (.cells #[.bool false, .int .u64 0, .int .u64 0] 170)) := ⟨_, rfl⟩
  have hB : Below w.heap.size w W3 := by rw [hW3]; exact (((Below.refl _ w).alloc (Nat.le_refl _) _).alloc (by simp) _).alloc (by simp; omega) _
  have h0 : W3.heap[w.heap.size]? = some (.cells #[.bool s, .int .u64 0, .int .u64 (x : Int)] 170 (0, 0)) := by rw [hW3]; exact (Below.heap_alloc _ _ _ (by simp; omega)).trans ((Below.heap_alloc _ _ _ (by simp)).trans (heap_new w _))
  have h1 : W3.heap[w.heap.size + 1]? = some (.cells #[.bool t, .int .u64 0, .int .u64 (y : Int)] 170 (0, 0)) := by rw [hW3]; exact (Below.heap_alloc _ _ _ (by simp)).trans (heap_at _ _ _ (by simp))
  have h2 : W3.heap[w.heap.size + 1 + 1]? = some (.cells #[.bool false, .int .u64 0, .int .u64 0] 170 (0, 0)) := by rw [hW3]; exact heap_at _ _ _ (by simp)
  obtain ⟨e0, e1, e2, -, -, -⟩ := boxn3 h0
  obtain ⟨f0, f1, f2, -, -, -⟩ := boxn3 h1
  obtain ⟨k0, k1, k2, r0, r1, r2⟩ := boxn3 h2
  have HW3 := Lib.hid hW3
  have HB := Lib.hid hB
  have HH := Lib.hid h2
  clear hW3 hB h0 h1 h2
  go_enter Try.func133, Try.ntmps133
  go_wp2
  rw [← HW3.out]
  refine wp_region_held_drew (S := (fun W => W.cell? ⟨w.heap.size, 2, none⟩ = some (.int .u64 (x : Int)) ∧ W.cell? ⟨w.heap.size + 1, 2, none⟩ = some (.int .u64 (y : Int)))) (by kernel_rfl) ?_ (fun hHeld => ?_)
  · exact ⟨e2, f2⟩
  change wpAnyH _ .any _ _ _ 16 (Array.replicate 16 false) _ _
  refine wpAnyH_take (i := 0) (oi := ⟨some 12, _, _, _, _, _⟩) (v := ?_) rfl (by kernel_rfl) (by kernel_rfl) (by kernel_rfl) (fun _ _ _ h => h) (Or.inl ⟨by rfl, ?_⟩) (by assumption) ?_
  rotate_left
  · (intro w hSw; (try dsimp only at hSw); go_simp; try (with_reducible rfl))
  (try simp only [Act.put, List.setIfInBounds_toArray, List.set_cons_zero, List.set_cons_succ])
  refine wpAnyH_take (i := 1) (oi := ⟨some 13, _, _, _, _, _⟩) (v := ?_) rfl (by kernel_rfl) (by kernel_rfl) (by kernel_rfl) (fun _ _ _ h => h) (Or.inl ⟨by rfl, ?_⟩) (by assumption) ?_
  rotate_left
  · (intro w hSw; (try dsimp only at hSw); go_simp; try (with_reducible rfl))
  (try simp only [Act.put, List.setIfInBounds_toArray, List.set_cons_zero, List.set_cons_succ])
  refine wpAnyH_take (i := 2) (oi := ⟨some 14, _, _, _, _, _⟩) (v := ?_) rfl (by kernel_rfl) (by kernel_rfl) (by kernel_rfl) (fun _ _ _ h => h) (Or.inl ⟨by rfl, ?_⟩) (by assumption) ?_
  rotate_left
  · (intro w hSw; (try dsimp only at hSw); go_simp; try (with_reducible rfl))
  (try simp only [Act.put, List.setIfInBounds_toArray, List.set_cons_zero, List.set_cons_succ])
  refine wpAnyH_take (i := 3) (oi := ⟨some 15, _, _, _, _, _⟩) (v := ?_) rfl (by kernel_rfl) (by kernel_rfl) (by kernel_rfl) (fun _ _ _ h => h) (Or.inl ⟨by rfl, ?_⟩) (by assumption) ?_
  rotate_left
  · (intro w hSw; (try dsimp only at hSw); go_simp; try (with_reducible rfl))
  (try simp only [Act.put, List.setIfInBounds_toArray, List.set_cons_zero, List.set_cons_succ])
  refine wpAnyH_take (i := 4) (oi := ⟨some 16, _, _, _, _, _⟩) (v := ?_) rfl (by kernel_rfl) (by kernel_rfl) (by kernel_rfl) (fun _ _ _ h => h) (Or.inl ⟨by rfl, ?_⟩) (by assumption) ?_
  rotate_left
  · (intro w hSw; (try dsimp only at hSw); go_simp; try (with_reducible rfl))
  (try simp only [Act.put, List.setIfInBounds_toArray, List.set_cons_zero, List.set_cons_succ])
  refine wpAnyH_take (i := 5) (oi := ⟨some 17, _, _, _, _, _⟩) (v := ?_) rfl (by kernel_rfl) (by kernel_rfl) (by kernel_rfl) (fun _ _ _ h => h) (Or.inl ⟨by rfl, ?_⟩) (by assumption) ?_
  rotate_left
  · (intro w hSw; (try dsimp only at hSw); go_simp; try (with_reducible rfl))
  (try simp only [Act.put, List.setIfInBounds_toArray, List.set_cons_zero, List.set_cons_succ])
  refine wpAnyH_take (i := 6) (oi := ⟨some 18, _, _, _, _, _⟩) (v := ?_) rfl (by kernel_rfl) (by kernel_rfl) (by kernel_rfl) (fun _ _ _ h => h) (Or.inl ⟨by rfl, ?_⟩) (by assumption) ?_
  rotate_left
  · (intro w hSw; (try dsimp only at hSw); go_simp; try (with_reducible rfl))
  (try simp only [Act.put, List.setIfInBounds_toArray, List.set_cons_zero, List.set_cons_succ])
  refine wpAnyH_take (i := 7) (oi := ⟨some 19, _, _, _, _, _⟩) (v := ?_) rfl (by kernel_rfl) (by kernel_rfl) (by kernel_rfl) (fun _ _ _ h => h) (Or.inl ⟨by rfl, ?_⟩) (by assumption) ?_
  rotate_left
  · (intro w hSw; (try dsimp only at hSw); go_simp; try (with_reducible rfl))
  (try simp only [Act.put, List.setIfInBounds_toArray, List.set_cons_zero, List.set_cons_succ])
  refine wpAnyH_take (i := 8) (oi := ⟨some 20, _, _, _, _, _⟩) (v := ?_) rfl (by kernel_rfl) (by kernel_rfl) (by kernel_rfl) (fun _ _ _ h => h) (Or.inl ⟨by rfl, ?_⟩) (by assumption) ?_
  rotate_left
  · (intro w hSw; (try dsimp only at hSw); go_simp; try (with_reducible rfl))
  (try simp only [Act.put, List.setIfInBounds_toArray, List.set_cons_zero, List.set_cons_succ])
  refine wpAnyH_take (i := 9) (oi := ⟨some 21, _, _, _, _, _⟩) (v := ?_) rfl (by kernel_rfl) (by kernel_rfl) (by kernel_rfl) (fun _ _ _ h => h) (Or.inl ⟨by rfl, ?_⟩) (by assumption) ?_
  rotate_left
  · (intro w hSw; (try dsimp only at hSw); go_simp; try (with_reducible rfl))
  (try simp only [Act.put, List.setIfInBounds_toArray, List.set_cons_zero, List.set_cons_succ])
  refine wpAnyH_take (i := 10) (oi := ⟨some 22, _, _, _, _, _⟩) (v := ?_) rfl (by kernel_rfl) (by kernel_rfl) (by kernel_rfl) (fun _ _ _ h => h) (Or.inl ⟨by rfl, ?_⟩) (by assumption) ?_
  rotate_left
  · (intro w hSw; (try dsimp only at hSw); go_simp; try (with_reducible rfl))
  (try simp only [Act.put, List.setIfInBounds_toArray, List.set_cons_zero, List.set_cons_succ])
  refine wpAnyH_take (i := 11) (oi := ⟨some 23, _, _, _, _, _⟩) (v := ?_) rfl (by kernel_rfl) (by kernel_rfl) (by kernel_rfl) (fun _ _ _ h => h) (Or.inl ⟨by rfl, ?_⟩) (by assumption) ?_
  rotate_left
  · (intro w hSw; (try dsimp only at hSw); go_simp; try (with_reducible rfl))
  (try simp only [Act.put, List.setIfInBounds_toArray, List.set_cons_zero, List.set_cons_succ])
  refine wpAnyH_take (i := 12) (oi := ⟨some 5, _, _, _, _, _⟩) (v := ?_) rfl (by kernel_rfl) (by kernel_rfl) (by kernel_rfl) (fun _ _ _ h => h) (Or.inl ⟨by rfl, ?_⟩) (by assumption) ?_
  rotate_left
  · (intro w hSw; (try dsimp only at hSw); go_simp; try (with_reducible rfl))
  (try simp only [Act.put, List.setIfInBounds_toArray, List.set_cons_zero, List.set_cons_succ])
  refine wpAnyH_take (i := 13) (oi := ⟨some 6, _, _, _, _, _⟩) (v := ?_) rfl (by kernel_rfl) (by kernel_rfl) (by kernel_rfl) (fun _ _ _ h => h) (Or.inl ⟨by rfl, ?_⟩) (by assumption) ?_
  rotate_left
  · (intro w hSw; (try dsimp only at hSw); go_simp; try (with_reducible rfl))
  (try simp only [Act.put, List.setIfInBounds_toArray, List.set_cons_zero, List.set_cons_succ])
  refine wpAnyH_take (i := 14) (oi := ⟨some 7, _, _, _, _, _⟩) (v := ?_) rfl (by kernel_rfl) (by kernel_rfl) (by kernel_rfl) (fun _ _ _ h => h) (Or.inl ⟨by rfl, ?_⟩) (by assumption) ?_
  rotate_left
  · (intro w hSw; (try dsimp only at hSw); go_simp; try (with_reducible rfl))
  (try simp only [Act.put, List.setIfInBounds_toArray, List.set_cons_zero, List.set_cons_succ])
  refine wpAnyH_take (i := 15) (oi := ⟨some 8, _, _, _, _, _⟩) (v := ?_) rfl (by kernel_rfl) (by kernel_rfl) (by kernel_rfl) (fun _ _ _ h => h) (Or.inl ⟨by rfl, ?_⟩) (by assumption) ?_
  rotate_left
  · (intro w hSw; (try dsimp only at hSw); go_simp; try (with_reducible rfl))
  (try simp only [Act.put, List.setIfInBounds_toArray, List.set_cons_zero, List.set_cons_succ])
  refine wpAnyH_done (by kernel_rfl) ?_ _
  clear hHeld
  obtain ⟨bd, bt, bw, hhi⟩ := Lib.mul64_hi x y hx hy
  have ba := Lib.half_mul_le (a := x / 4294967296) (b := y / 4294967296) (by omega) (by omega)
  have bb := Lib.half_mul_le (a := x / 4294967296) (b := y % 4294967296) (by omega) (by omega)
  have bc := Lib.half_mul_le (a := x % 4294967296) (b := y / 4294967296) (by omega) (by omega)
  have ba' : x / 4294967296 * (y / 4294967296) < 18446744073709551616 := by omega
  have bb' : x / 4294967296 * (y % 4294967296) < 18446744073709551616 := by omega
  have bc' : x % 4294967296 * (y / 4294967296) < 18446744073709551616 := by omega
  have bh1 : x / 4294967296 * (y / 4294967296) + (x / 4294967296 * (y % 4294967296) + x % 4294967296 * (y % 4294967296) / 4294967296) / 4294967296 < 18446744073709551616 := by omega
  have bh : x / 4294967296 * (y / 4294967296) + (x / 4294967296 * (y % 4294967296) + x % 4294967296 * (y % 4294967296) / 4294967296) / 4294967296 + ((x / 4294967296 * (y % 4294967296) + x % 4294967296 * (y % 4294967296) / 4294967296) % 4294967296 + x % 4294967296 * (y / 4294967296)) / 4294967296 < 18446744073709551616 := by omega
  have bw' : x % 4294967296 * (y / 4294967296) + (x / 4294967296 * (y % 4294967296) + x % 4294967296 * (y % 4294967296) / 4294967296) % 4294967296 < 18446744073709551616 := by omega
  have hhi' : x / 4294967296 * (y / 4294967296) + (x / 4294967296 * (y % 4294967296) + x % 4294967296 * (y % 4294967296) / 4294967296) / 4294967296 + (x % 4294967296 * (y / 4294967296) + (x / 4294967296 * (y % 4294967296) + x % 4294967296 * (y % 4294967296) / 4294967296) % 4294967296) / 4294967296 = x * y / 18446744073709551616 := by
    rw [← hhi, Nat.add_comm (x % 4294967296 * (y / 4294967296))]
  have bh' : x / 4294967296 * (y / 4294967296) + (x / 4294967296 * (y % 4294967296) + x % 4294967296 * (y % 4294967296) / 4294967296) / 4294967296 + (x % 4294967296 * (y / 4294967296) + (x / 4294967296 * (y % 4294967296) + x % 4294967296 * (y % 4294967296) / 4294967296) % 4294967296) / 4294967296 < 18446744073709551616 := by omega
  have bo1 : (x % 4294967296 * (y / 4294967296) + (x / 4294967296 * (y % 4294967296) + x % 4294967296 * (y % 4294967296) / 4294967296) % 4294967296) * 4294967296 % 18446744073709551616 < 18446744073709551616 := Nat.mod_lt _ (by omega)
  have bo2 : x % 4294967296 * (y % 4294967296) % 4294967296 < 18446744073709551616 := by omega
  have bq : x * y / 18446744073709551616 < 18446744073709551616 := by rw [← hhi']; exact bh'
  cases s <;> cases t
  all_goals
    rw [HW3.out]
    clear e0 e1 e2 f0 f1 f2 k0 k1 k2 r0 r1 r2
    go_wp2
    simp only [Mul64.maskN x hx, Mul64.maskN y hy, Mul64.divN, Mul64.mulN, Mul64.addN, Mul64.wrapN _ bd, Mul64.wrapN _ bb', Mul64.wrapN _ bt, Mul64.maskN _ bt, Mul64.wrapN _ bc', Mul64.wrapN _ bw', Mul64.maskN _ bd, Mul64.wrapN _ ba', Mul64.wrapN _ bh1, Mul64.wrapN _ bh', Mul64.wrapN _ bq, mulW, orN _ _ bo1 bo2, times_lo, hhi']
    refine bodyPost_ret (v := nmV _ (x * y)) (by simp [results, Try.results133, go_sem, nmV]) rfl ⟨rfl, ?_⟩
    exact ((((Below.refl _ w).alloc (Nat.le_refl _) _).alloc (by simp) _).alloc (by simp; omega) _).drew
theorem below_set3 {w W : World} {B : Nat} {a b c : Value} (h : Below w.heap.size w W) (hB : w.heap.size ≤ B) : Below w.heap.size w (((W.setCell ⟨B, 0, none⟩ a).setCell ⟨B, 1, none⟩ b).setCell ⟨B, 2, none⟩ c) :=
  below_of_grown (gfresh (r := none) (gfresh (r := none) (gfresh (r := none) (gnone h) (grown_set W B 0 a) hB) (grown_set _ B 1 b) hB) (grown_set _ B 2 c) hB)
theorem ba2 {w w2 w3 : World} {O O' : Obj} (h : Below w.heap.size w w2) (k : Below ((w2.alloc O).alloc O').heap.size ((w2.alloc O).alloc O') w3) : Below w.heap.size w w3 :=
  below_then ((h.alloc h.size O).alloc (by have := h.size; simp; omega) O') (by have := h.size; simp; omega) k
theorem tdiv_sgn (s : Bool) (x : Nat) (t : Bool) (y : Nat) : sgn (s != t) (x / y) = (sgn s x).tdiv (sgn t y) := by
  unfold sgn
  cases s <;> cases t <;> simp [Int.neg_tdiv, Int.tdiv_neg, Int.ofNat_tdiv]
theorem tmod_sgn (s : Bool) (x : Nat) (t : Bool) (y : Nat) : sgn s (x % y) = (sgn s x).tmod (sgn t y) := by
  have e : ((x % y : Nat) : Int) = (x : Int).tmod (y : Int) := rfl
  unfold sgn
  cases s <;> cases t <;> simp only [Bool.false_eq_true, if_true, if_false, Int.neg_tmod, Int.tmod_neg, e]
set_option maxRecDepth 100000 in
set_option maxHeartbeats 8000000 in
theorem together_c (s : ByteArray) (a b : Int) (hs : isOp s = true) (ha : in64 a) (hb : in64 b) (w : World) :
    Calls Try.prog 80 #[.string s, .int .i64 a, .int .i64 b] w fun e w' => e = .returned (.tuple #[.int .i64 (opI s a b).val, .int .i64 (opI s a b).err]) ∧ Below w.heap.size w w' := by
  have HOA := Lib.hid (of_c a ha)
  have HOB := Lib.hid (of_c b hb)
  have hxa : a.natAbs ≤ 9223372036854775808 := by unfold in64 at ha; omega
  have hxb : b.natAbs ≤ 9223372036854775808 := by unfold in64 at hb; omega
  have hsa := sgn_of a
  have hsb := sgn_of b
  have HA := Lib.hid ha
  have HB := Lib.hid hb
  unfold isOp at hs
  simp only [Bool.or_eq_true, decide_eq_true_eq] at hs
  obtain ⟨sa, HSA⟩ : ∃ q, Hid (decide (a < 0) = q) := ⟨_, Lib.hid rfl⟩
  obtain ⟨sb, HSB⟩ : ∃ q, Hid (decide (b < 0) = q) := ⟨_, Lib.hid rfl⟩
  obtain ⟨xa, HXA⟩ : ∃ q, Hid (a.natAbs = q) := ⟨_, Lib.hid rfl⟩
  obtain ⟨xb, HXB⟩ : ∃ q, Hid (b.natAbs = q) := ⟨_, Lib.hid rfl⟩
  rw [HSA.out, HXA.out] at HOA hsa
  rw [HSB.out, HXB.out] at HOB hsb
  rw [HXA.out] at hxa
  rw [HXB.out] at hxb
  have HSGA := Lib.hid hsa
  have HSGB := Lib.hid hsb
  clear ha hb hsa hsb
  have hb0 := Below.refl w.heap.size w
  rcases hs with ((((h | h) | h) | h) | h) | h
  · subst h
    have HP := Lib.hid (plus_c sa xa sb xb hxa hxb)
    have HQ := Lib.hid (plM_sgn sa xa sb xb)
    rw [show opI ⟨#[43]⟩ a b = fitR (a + b) from rfl]
    have HV : Hid (signR (plM sa xa sb xb).1 (plM sa xa sb xb).2 = fitR (a + b)) := Lib.hid (by rw [← HSGA.out, ← HSGB.out, ← HQ.out]; rfl)
    have HK := Lib.hid (back_c (plM sa xa sb xb).1 (plM sa xa sb xb).2)
    rw [HV.out] at HK
    clear hxa hxb HQ HV
    generalize fitR (a + b) = O at HK ⊢
    generalize nmV (plM sa xa sb xb).1 (plM sa xa sb xb).2 = nv at HP HK
    go_enter Try.func80, Try.ntmps80
    go_wp2_with (first
      | (go_at_call_has 130 (Value.int .i64 a); refine (HOA.out _).mono ?_; rintro e w1 ⟨rfl, hb1⟩; replace hb0 := below_then hb0 hb0.size hb1; clear hb1) | (go_at_call_has 130 (Value.int .i64 b); refine (HOB.out _).mono ?_; rintro e w2 ⟨rfl, hb1⟩; replace hb0 := below_then hb0 hb0.size hb1; clear hb1)
      | (go_at_call 131; refine (HP.out _).mono ?_; rintro e w3 ⟨rfl, hb3⟩)
      | (go_at_call 132; refine (HK.out _).mono ?_; rintro e w4 ⟨rfl, hb4⟩))
    go_ret2
    exact ⟨rfl, below_then (ba2 hb0 hb3) (ba2 hb0 hb3).size hb4⟩
  · subst h
    rw [show opI ⟨#[45]⟩ a b = fitR (a - b) from rfl]
    have HP := Lib.hid (plus_c sa xa (!sb) xb hxa hxb)
    have HQ := Lib.hid (plM_sgn sa xa (!sb) xb)
    have HN : Hid (sgn (!sb) xb = -b) := Lib.hid (by rw [← HSGB.out]; unfold sgn; cases sb <;> simp)
    have HV : Hid (signR (plM sa xa (!sb) xb).1 (plM sa xa (!sb) xb).2 = fitR (a - b)) := Lib.hid (by rw [show a - b = a + -b by omega, ← HN.out, ← HSGA.out, ← HQ.out]; rfl)
    have HK := Lib.hid (back_c (plM sa xa (!sb) xb).1 (plM sa xa (!sb) xb).2)
    rw [HV.out] at HK
    clear hxa hxb HQ HV HN
    generalize fitR (a - b) = O at HK ⊢
    generalize nmV (plM sa xa (!sb) xb).1 (plM sa xa (!sb) xb).2 = nv at HP HK
    have HPP : Hid (∀ w, Calls Try.prog 131 #[.agg #[.bool sa, .int .u64 0, .int .u64 (xa : Int)], .agg #[.bool (!sb), .int .u64 0, .int .u64 (xb : Int)]] w fun e w' => e = .returned nv ∧ Below w.heap.size w w') := HP
    clear HP
    have HP := HPP
    clear HPP
    go_enter Try.func80, Try.ntmps80
    go_wp2_with (first
      | (go_at_call_has 130 (Value.int .i64 a); refine (HOA.out _).mono ?_; rintro e w1 ⟨rfl, hb1⟩; replace hb0 := below_then hb0 hb0.size hb1; clear hb1) | (go_at_call_has 130 (Value.int .i64 b); refine (HOB.out _).mono ?_; rintro e w2 ⟨rfl, hb1⟩; replace hb0 := below_then hb0 hb0.size hb1; clear hb1)
      | (go_at_call 131; refine (HP.out _).mono ?_; rintro e w3 ⟨rfl, hb3⟩)
      | (go_at_call 132; refine (HK.out _).mono ?_; rintro e w4 ⟨rfl, hb4⟩))
    go_ret2
    exact ⟨rfl, below_then (ba2 hb0 hb3) (ba2 hb0 hb3).size hb4⟩
  · subst h
    rw [show opI ⟨#[42]⟩ a b = mulR a b from rfl]
    have HP := Lib.hid (times_c sa xa sb xb (by omega) (by omega))
    have HV : Hid (signR (sa != sb) (xa * xb) = mulR a b) := Lib.hid (by rw [mulR_sign, HSA.out, HSB.out, HXA.out, HXB.out])
    have HK := Lib.hid (back_c (sa != sb) (xa * xb))
    rw [HV.out] at HK
    clear hxa hxb HV
    generalize mulR a b = O at HK ⊢
    generalize nmV (sa != sb) (xa * xb) = nv at HP HK
    go_enter Try.func80, Try.ntmps80
    go_wp2_with (first
      | (go_at_call_has 130 (Value.int .i64 a); refine (HOA.out _).mono ?_; rintro e w1 ⟨rfl, hb1⟩; replace hb0 := below_then hb0 hb0.size hb1; clear hb1) | (go_at_call_has 130 (Value.int .i64 b); refine (HOB.out _).mono ?_; rintro e w2 ⟨rfl, hb1⟩; replace hb0 := below_then hb0 hb0.size hb1; clear hb1)
      | (go_at_call 133; refine (HP.out _).mono ?_; rintro e w3 ⟨rfl, hb3⟩)
      | (go_at_call 132; refine (HK.out _).mono ?_; rintro e w4 ⟨rfl, hb4⟩))
    go_ret2
    exact ⟨rfl, below_then (ba2 hb0 hb3) (ba2 hb0 hb3).size hb4⟩
  · subst h
    rw [show opI ⟨#[47, 47]⟩ a b = divR a b from rfl]
    by_cases hz : b = 0
    · have q0 : (b == 0) = true := by simpa using hz
      rw [show divR a b = .er 23 from if_pos hz]
      simp only [Rk.val, Rk.err]
      clear hz
      go_enter Try.func80, Try.ntmps80
      go_wp2_with (first
        | (go_at_call_has 130 (Value.int .i64 a); refine (HOA.out _).mono ?_; rintro e w1 ⟨rfl, hb1⟩; replace hb0 := below_then hb0 hb0.size hb1; clear hb1) | (go_at_call_has 130 (Value.int .i64 b); refine (HOB.out _).mono ?_; rintro e w2 ⟨rfl, hb1⟩; replace hb0 := below_then hb0 hb0.size hb1; clear hb1))
      go_ret2
      exact ⟨rfl, (hb0.alloc hb0.size _).alloc (by have := hb0.size; simp; omega) _⟩
    · have q0 : (b == 0) = false := by simpa using hz
      have hxz : xb ≠ 0 := by rw [← HXB.out]; omega
      have hxz' : ((xb : Int) == 0) = false := by simp; exact hxz
      have HV : Hid (signR (sa != sb) (xa / xb) = divR a b) := Lib.hid (by
        unfold divR
        rw [if_neg hz, ← HSGA.out, ← HSGB.out, ← tdiv_sgn]
        rfl)
      have HK := Lib.hid (back_c (sa != sb) (xa / xb))
      rw [HV.out, nmV_small _ (Nat.lt_of_le_of_lt (Nat.div_le_self _ _) (by omega))] at HK
      clear HV hz
      generalize divR a b = O at HK ⊢
      go_enter Try.func80, Try.ntmps80
      go_wp2_with (first
        | (go_at_call_has 130 (Value.int .i64 a); refine (HOA.out _).mono ?_; rintro e w1 ⟨rfl, hb1⟩; replace hb0 := below_then hb0 hb0.size hb1; clear hb1) | (go_at_call_has 130 (Value.int .i64 b); refine (HOB.out _).mono ?_; rintro e w2 ⟨rfl, hb1⟩; replace hb0 := below_then hb0 hb0.size hb1; clear hb1))
      have g1 : ((w2.alloc (.cells #[.bool sa, .int .u64 0, .int .u64 (xa : Int)] 170)).alloc (.cells #[.bool sb, .int .u64 0, .int .u64 (xb : Int)] 170)).heap[w2.heap.size]? = some (.cells #[.bool sa, .int .u64 0, .int .u64 (xa : Int)] 170 (0, 0)) := (Below.heap_alloc _ _ _ (by simp)).trans (heap_new w2 _)
      have g2 : ((w2.alloc (.cells #[.bool sa, .int .u64 0, .int .u64 (xa : Int)] 170)).alloc (.cells #[.bool sb, .int .u64 0, .int .u64 (xb : Int)] 170)).heap[w2.heap.size + 1]? = some (.cells #[.bool sb, .int .u64 0, .int .u64 (xb : Int)] 170 (0, 0)) := heap_at _ _ _ (by simp)
      have hbW := (hb0.alloc hb0.size (.cells #[.bool sa, .int .u64 0, .int .u64 (xa : Int)] 170)).alloc (by have := hb0.size; simp; omega) (.cells #[.bool sb, .int .u64 0, .int .u64 (xb : Int)] 170)
      generalize ((w2.alloc (.cells #[.bool sa, .int .u64 0, .int .u64 (xa : Int)] 170)).alloc (.cells #[.bool sb, .int .u64 0, .int .u64 (xb : Int)] 170)) = W4 at g1 g2 hbW ⊢
      have HS : Hid (∀ W, Below W4.heap.size W4 W → W.cell? ⟨w2.heap.size, 0, none⟩ = some (.bool sa) ∧ W.cell? ⟨w2.heap.size, 2, none⟩ = some (.int .u64 (xa : Int)) ∧ W.cell? ⟨w2.heap.size + 1, 0, none⟩ = some (.bool sb) ∧ W.cell? ⟨w2.heap.size + 1, 2, none⟩ = some (.int .u64 (xb : Int))) := Lib.hid (fun W hb => by
        obtain ⟨a0, a1, a2, -, -, -⟩ := boxn3 (block_below hb (Array.getElem?_eq_some_iff.1 g1).1 g1)
        obtain ⟨b0, b1, b2, -, -, -⟩ := boxn3 (block_below hb (Array.getElem?_eq_some_iff.1 g2).1 g2)
        exact ⟨a0, a2, b0, b2⟩)
      have HBW := Lib.hid hbW
      have HG2 := Lib.hid g2
      clear g1 g2 hbW hb0
      have hqw : IntKind.u64.wrap ((xa : Int) / (xb : Int)) = ((xa / xb : Nat) : Int) := by
        have h1 : ∀ q : Nat, q ≤ xa → IntKind.u64.wrap (q : Int) = q := fun q h => by rw [IntKind.wrap_u64]; omega
        exact h1 _ (Nat.div_le_self _ _)
      have hrw : (xa : Int).tmod (xb : Int) = ((xa % xb : Nat) : Int) := rfl
      generalize hqd : ((xa / xb : Nat) : Int) = qv at hqw
      generalize hrd : ((xa % xb : Nat) : Int) = rv at hrw
      have HQD := Lib.hid hqd
      have HRD := Lib.hid hrd
      clear hqd hrd
      go_cut [10, 11] (fun u v wx => ∃ p q, u = .pointer (some ⟨p, 0, none⟩) ∧ v = .pointer (some ⟨q, 0, none⟩) ∧ Hid (wx.heap[p]? = some (.cells #[.bool (sa != sb), .int .u64 0, .int .u64 qv] 170 (0, 0))) ∧ Hid (wx.heap[q]? = some (.cells #[.bool sa, .int .u64 0, .int .u64 rv] 170 (0, 0))) ∧ Below W4.heap.size W4 wx ∧ W4.heap.size ≤ q)
      case first =>
        refine wp_region_held_drew (S := (fun W => W.cell? ⟨w2.heap.size, 0, none⟩ = some (.bool sa) ∧ W.cell? ⟨w2.heap.size, 2, none⟩ = some (.int .u64 (xa : Int)) ∧ W.cell? ⟨w2.heap.size + 1, 0, none⟩ = some (.bool sb) ∧ W.cell? ⟨w2.heap.size + 1, 2, none⟩ = some (.int .u64 (xb : Int)))) (by kernel_rfl) ?_ (fun hHeld => ?_)
        · exact HS.out _ (Below.refl _ W4).drew
        change wpAnyH _ .any _ _ _ 23 (Array.replicate 23 false) _ _
        refine wpAnyH_take (i := 0) (oi := ⟨some 47, _, _, _, _, _⟩) (v := ?_) rfl (by kernel_rfl) (by kernel_rfl) (by kernel_rfl) (fun _ _ _ h => h) (Or.inl ⟨by rfl, ?_⟩) (by assumption) ?_
        rotate_left
        · (intro w hSw; (try dsimp only at hSw); go_simp; try (with_reducible rfl))
        (try simp only [Act.put, List.setIfInBounds_toArray, List.set_cons_zero, List.set_cons_succ])
        refine wpAnyH_take (i := 1) (oi := ⟨some 48, _, _, _, _, _⟩) (v := ?_) rfl (by kernel_rfl) (by kernel_rfl) (by kernel_rfl) (fun _ _ _ h => h) (Or.inl ⟨by rfl, ?_⟩) (by assumption) ?_
        rotate_left
        · (intro w hSw; (try dsimp only at hSw); go_simp; try (with_reducible rfl))
        (try simp only [Act.put, List.setIfInBounds_toArray, List.set_cons_zero, List.set_cons_succ])
        refine wpAnyH_take (i := 2) (oi := ⟨some 49, _, _, _, _, _⟩) (v := ?_) rfl (by kernel_rfl) (by kernel_rfl) (by kernel_rfl) (fun _ _ _ h => h) (Or.inl ⟨by rfl, ?_⟩) (by assumption) ?_
        rotate_left
        · (intro w hSw; (try dsimp only at hSw); go_simp; try (with_reducible rfl))
        (try simp only [Act.put, List.setIfInBounds_toArray, List.set_cons_zero, List.set_cons_succ])
        refine wpAnyH_take (i := 3) (oi := ⟨some 50, _, _, _, _, _⟩) (v := ?_) rfl (by kernel_rfl) (by kernel_rfl) (by kernel_rfl) (fun _ _ _ h => h) (Or.inl ⟨by rfl, ?_⟩) (by assumption) ?_
        rotate_left
        · (intro w hSw; (try dsimp only at hSw); go_simp; try (with_reducible rfl))
        (try simp only [Act.put, List.setIfInBounds_toArray, List.set_cons_zero, List.set_cons_succ])
        refine wpAnyH_take (i := 4) (oi := ⟨some 51, _, _, _, _, _⟩) (v := ?_) rfl (by kernel_rfl) (by kernel_rfl) (by kernel_rfl) (fun _ _ _ h => h) (Or.inl ⟨by rfl, ?_⟩) (by assumption) ?_
        rotate_left
        · (intro w hSw; (try dsimp only at hSw); go_simp; try (with_reducible rfl))
        (try simp only [Act.put, List.setIfInBounds_toArray, List.set_cons_zero, List.set_cons_succ])
        refine wpAnyH_take (i := 5) (oi := ⟨some 52, _, _, _, _, _⟩) (v := ?_) rfl (by kernel_rfl) (by kernel_rfl) (by kernel_rfl) (fun _ _ _ h => h) (Or.inl ⟨by rfl, ?_⟩) (by assumption) ?_
        rotate_left
        · (intro w hSw; (try dsimp only at hSw); go_simp; try (with_reducible rfl))
        (try simp only [Act.put, List.setIfInBounds_toArray, List.set_cons_zero, List.set_cons_succ])
        refine wpAnyH_take (i := 6) (oi := ⟨some 53, _, _, _, _, _⟩) (v := ?_) rfl (by kernel_rfl) (by kernel_rfl) (by kernel_rfl) (fun _ _ _ h => h) (Or.inl ⟨by rfl, ?_⟩) (by assumption) ?_
        rotate_left
        · (intro w hSw; (try dsimp only at hSw); go_simp; try (with_reducible rfl))
        (try simp only [Act.put, List.setIfInBounds_toArray, List.set_cons_zero, List.set_cons_succ])
        refine wpAnyH_take (i := 7) (oi := ⟨some 54, _, _, _, _, _⟩) (v := ?_) rfl (by kernel_rfl) (by kernel_rfl) (by kernel_rfl) (fun _ _ _ h => h) (Or.inl ⟨by rfl, ?_⟩) (by assumption) ?_
        rotate_left
        · (intro w hSw; (try dsimp only at hSw); go_simp; try (with_reducible rfl))
        (try simp only [Act.put, List.setIfInBounds_toArray, List.set_cons_zero, List.set_cons_succ])
        refine wpAnyH_take (i := 8) (oi := ⟨some 55, _, _, _, _, _⟩) (v := ?_) rfl (by kernel_rfl) (by kernel_rfl) (by kernel_rfl) (fun _ _ _ h => h) (Or.inl ⟨by rfl, ?_⟩) (by assumption) ?_
        rotate_left
        · (intro w hSw; (try dsimp only at hSw); go_simp; try (with_reducible rfl))
        (try simp only [Act.put, List.setIfInBounds_toArray, List.set_cons_zero, List.set_cons_succ])
        refine wpAnyH_take (i := 9) (oi := ⟨some 56, _, _, _, _, _⟩) (v := ?_) rfl (by kernel_rfl) (by kernel_rfl) (by kernel_rfl) (fun _ _ _ h => h) (Or.inl ⟨by rfl, ?_⟩) (by assumption) ?_
        rotate_left
        · (intro w hSw; (try dsimp only at hSw); go_simp; try (with_reducible rfl))
        (try simp only [Act.put, List.setIfInBounds_toArray, List.set_cons_zero, List.set_cons_succ])
        refine wpAnyH_take (i := 10) (oi := ⟨some 57, _, _, _, _, _⟩) (v := ?_) rfl (by kernel_rfl) (by kernel_rfl) (by kernel_rfl) (fun _ _ _ h => h) (Or.inl ⟨by rfl, ?_⟩) (by assumption) ?_
        rotate_left
        · (intro w hSw; (try dsimp only at hSw); go_simp; try (with_reducible rfl))
        (try simp only [Act.put, List.setIfInBounds_toArray, List.set_cons_zero, List.set_cons_succ])
        refine wpAnyH_take (i := 11) (oi := ⟨some 58, _, _, _, _, _⟩) (v := ?_) rfl (by kernel_rfl) (by kernel_rfl) (by kernel_rfl) (fun _ _ _ h => h) (Or.inl ⟨by rfl, ?_⟩) (by assumption) ?_
        rotate_left
        · (intro w hSw; (try dsimp only at hSw); go_simp; try (with_reducible rfl))
        (try simp only [Act.put, List.setIfInBounds_toArray, List.set_cons_zero, List.set_cons_succ])
        refine wpAnyH_take (i := 12) (oi := ⟨some 59, _, _, _, _, _⟩) (v := ?_) rfl (by kernel_rfl) (by kernel_rfl) (by kernel_rfl) (fun _ _ _ h => h) (Or.inl ⟨by rfl, ?_⟩) (by assumption) ?_
        rotate_left
        · (intro w hSw; (try dsimp only at hSw); go_simp; try (with_reducible rfl))
        (try simp only [Act.put, List.setIfInBounds_toArray, List.set_cons_zero, List.set_cons_succ])
        refine wpAnyH_take (i := 13) (oi := ⟨some 60, _, _, _, _, _⟩) (v := ?_) rfl (by kernel_rfl) (by kernel_rfl) (by kernel_rfl) (fun _ _ _ h => h) (Or.inl ⟨by rfl, ?_⟩) (by assumption) ?_
        rotate_left
        · (intro w hSw; (try dsimp only at hSw); go_simp; try (with_reducible rfl))
        (try simp only [Act.put, List.setIfInBounds_toArray, List.set_cons_zero, List.set_cons_succ])
        refine wpAnyH_take (i := 14) (oi := ⟨some 61, _, _, _, _, _⟩) (v := ?_) rfl (by kernel_rfl) (by kernel_rfl) (by kernel_rfl) (fun _ _ _ h => h) (Or.inl ⟨by rfl, ?_⟩) (by assumption) ?_
        rotate_left
        · (intro w hSw; (try dsimp only at hSw); go_simp; try (with_reducible rfl))
        (try simp only [Act.put, List.setIfInBounds_toArray, List.set_cons_zero, List.set_cons_succ])
        refine wpAnyH_take (i := 15) (oi := ⟨some 62, _, _, _, _, _⟩) (v := ?_) rfl (by kernel_rfl) (by kernel_rfl) (by kernel_rfl) (fun _ _ _ h => h) (Or.inl ⟨by rfl, ?_⟩) (by assumption) ?_
        rotate_left
        · (intro w hSw; (try dsimp only at hSw); go_simp; try (with_reducible rfl))
        (try simp only [Act.put, List.setIfInBounds_toArray, List.set_cons_zero, List.set_cons_succ])
        refine wpAnyH_take (i := 16) (oi := ⟨some 63, _, _, _, _, _⟩) (v := ?_) rfl (by kernel_rfl) (by kernel_rfl) (by kernel_rfl) (fun _ _ _ h => h) (Or.inl ⟨by rfl, ?_⟩) (by assumption) ?_
        rotate_left
        · (intro w hSw; (try dsimp only at hSw); go_simp; try (with_reducible rfl))
        (try simp only [Act.put, List.setIfInBounds_toArray, List.set_cons_zero, List.set_cons_succ])
        refine wpAnyH_take (i := 17) (oi := ⟨some 64, _, _, _, _, _⟩) (v := ?_) rfl (by kernel_rfl) (by kernel_rfl) (by kernel_rfl) (fun _ _ _ h => h) (Or.inl ⟨by rfl, ?_⟩) (by assumption) ?_
        rotate_left
        · (intro w hSw; (try dsimp only at hSw); go_simp; try (with_reducible rfl))
        (try simp only [Act.put, List.setIfInBounds_toArray, List.set_cons_zero, List.set_cons_succ])
        refine wpAnyH_take (i := 18) (oi := ⟨some 65, _, _, _, _, _⟩) (v := ?_) rfl (by kernel_rfl) (by kernel_rfl) (by kernel_rfl) (fun _ _ _ h => h) (Or.inl ⟨by rfl, ?_⟩) (by assumption) ?_
        rotate_left
        · (intro w hSw; (try dsimp only at hSw); go_simp; try (with_reducible rfl))
        (try simp only [Act.put, List.setIfInBounds_toArray, List.set_cons_zero, List.set_cons_succ])
        refine wpAnyH_ready (rs := [19, 20]) (by kernel_rfl) (by simp) ?_
        refine AllReadyH.cons (o := ⟨some 10, _, _, _, _, _⟩) rfl (fun K hK => ?_) ?_
        · skip
          go_simp
          refine hK.out _ _ (HS.out _ (by first | exact ((Below.refl _ W4).alloc (Nat.le_refl _) _).drew | exact ((Below.refl _ W4).drew.alloc (Nat.le_refl _) _))) (fun hHeld => ?_)
          clear hK K
          (try simp only [Act.put, List.setIfInBounds_toArray, List.set_cons_zero, List.set_cons_succ])
          refine wpAnyH_ready (rs := [20]) (by kernel_rfl) (by simp) ?_
          refine AllReadyH.cons (o := ⟨some 11, _, _, _, _, _⟩) rfl (fun K hK => ?_) AllReadyH.nil
          go_simp
          refine hK.out _ _ (HS.out _ (by first | exact (((Below.refl _ W4).alloc (Nat.le_refl _) _).alloc (by simp) _).drew | exact (((Below.refl _ W4).drew.alloc (Nat.le_refl _) _).alloc (by simp) _))) (fun hHeld => ?_)
          clear hK K
          (try simp only [Act.put, List.setIfInBounds_toArray, List.set_cons_zero, List.set_cons_succ])
          refine wpAnyH_ready (rs := [21]) (by kernel_rfl) (by simp) ?_
          refine AllReadyH.cons (o := ⟨none, _, _, _, _, _⟩) rfl (fun K hK => ?_) AllReadyH.nil
          go_simp
          refine hK.out _ _ (HS.out _ (by first | exact (((Below.refl _ W4).alloc (Nat.le_refl _) _).alloc (by simp) _).drew | exact (((Below.refl _ W4).drew.alloc (Nat.le_refl _) _).alloc (by simp) _))) (fun hHeld => ?_)
          clear hK K
          (try simp only [Act.put, List.setIfInBounds_toArray, List.set_cons_zero, List.set_cons_succ])
          refine wpAnyH_ready (rs := [22]) (by kernel_rfl) (by simp) ?_
          refine AllReadyH.cons (o := ⟨none, _, _, _, _, _⟩) rfl (fun K hK => ?_) AllReadyH.nil
          go_simp
          refine hK.out _ _ (HS.out _ (by first | exact (((Below.refl _ W4).alloc (Nat.le_refl _) _).alloc (by simp) _).drew | exact (((Below.refl _ W4).drew.alloc (Nat.le_refl _) _).alloc (by simp) _))) (fun hHeld => ?_)
          clear hK K
          (try simp only [Act.put, List.setIfInBounds_toArray, List.set_cons_zero, List.set_cons_succ])
          refine wpAnyH_done (by kernel_rfl) ?_ _
          go_wp2_with fail
          go_meet
          case rel => exact ⟨_, _, rfl, rfl, Lib.hid ((Below.heap_alloc _ _ _ (by simp)).trans (heap_new W4 _)), Lib.hid (heap_at _ _ _ (by simp)), (((Below.refl _ W4).alloc (Nat.le_refl _) _).alloc (by simp) _).drew, by omega⟩
        refine AllReadyH.cons (o := ⟨some 11, _, _, _, _, _⟩) rfl (fun K hK => ?_) AllReadyH.nil
        go_simp
        refine hK.out _ _ (HS.out _ (by first | exact ((Below.refl _ W4).alloc (Nat.le_refl _) _).drew | exact ((Below.refl _ W4).drew.alloc (Nat.le_refl _) _))) (fun hHeld => ?_)
        clear hK K
        (try simp only [Act.put, List.setIfInBounds_toArray, List.set_cons_zero, List.set_cons_succ])
        refine wpAnyH_ready (rs := [19]) (by kernel_rfl) (by simp) ?_
        refine AllReadyH.cons (o := ⟨some 10, _, _, _, _, _⟩) rfl (fun K hK => ?_) AllReadyH.nil
        go_simp
        refine hK.out _ _ (HS.out _ (by first | exact (((Below.refl _ W4).alloc (Nat.le_refl _) _).alloc (by simp) _).drew | exact (((Below.refl _ W4).drew.alloc (Nat.le_refl _) _).alloc (by simp) _))) (fun hHeld => ?_)
        clear hK K
        (try simp only [Act.put, List.setIfInBounds_toArray, List.set_cons_zero, List.set_cons_succ])
        refine wpAnyH_ready (rs := [21]) (by kernel_rfl) (by simp) ?_
        refine AllReadyH.cons (o := ⟨none, _, _, _, _, _⟩) rfl (fun K hK => ?_) AllReadyH.nil
        go_simp
        refine hK.out _ _ (HS.out _ (by first | exact (((Below.refl _ W4).alloc (Nat.le_refl _) _).alloc (by simp) _).drew | exact (((Below.refl _ W4).drew.alloc (Nat.le_refl _) _).alloc (by simp) _))) (fun hHeld => ?_)
        clear hK K
        (try simp only [Act.put, List.setIfInBounds_toArray, List.set_cons_zero, List.set_cons_succ])
        refine wpAnyH_ready (rs := [22]) (by kernel_rfl) (by simp) ?_
        refine AllReadyH.cons (o := ⟨none, _, _, _, _, _⟩) rfl (fun K hK => ?_) AllReadyH.nil
        go_simp
        refine hK.out _ _ (HS.out _ (by first | exact (((Below.refl _ W4).alloc (Nat.le_refl _) _).alloc (by simp) _).drew | exact (((Below.refl _ W4).drew.alloc (Nat.le_refl _) _).alloc (by simp) _))) (fun hHeld => ?_)
        clear hK K
        (try simp only [Act.put, List.setIfInBounds_toArray, List.set_cons_zero, List.set_cons_succ])
        refine wpAnyH_done (by kernel_rfl) ?_ _
        go_wp2_with fail
        go_meet
        case rel => exact ⟨_, _, rfl, rfl, Lib.hid (heap_at _ _ _ (by simp)), Lib.hid ((Below.heap_alloc _ _ _ (by simp)).trans (heap_new W4 _)), (((Below.refl _ W4).alloc (Nat.le_refl _) _).alloc (by simp) _).drew, Nat.le_refl _⟩
      case rest =>
        obtain ⟨pq, pr, rfl, rfl, HP, HR, hb4, hprw⟩ := hcut
        obtain ⟨a0, a1, a2, -, -, -⟩ := boxn3 HP.out
        obtain ⟨b0, b1, b2, -, -, -⟩ := boxn3 HR.out
        rw [HQD.out] at HK
        go_wp2_with (go_at_call 132; refine (HK.out _).mono ?_; rintro e w4 ⟨rfl, hb5⟩)
        go_ret2
        exact ⟨rfl, (HBW.out.trans (hb4.mono HBW.out.size)).trans (hb5.mono (by have := HBW.out.size; have := hb4.size; omega))⟩
  · subst h
    rw [show opI ⟨#[114, 101, 109]⟩ a b = remR a b from rfl]
    by_cases hz : b = 0
    · have q0 : (b == 0) = true := by simpa using hz
      rw [show remR a b = .er 23 from if_pos hz]
      simp only [Rk.val, Rk.err]
      clear hz
      go_enter Try.func80, Try.ntmps80
      go_wp2_with (first
        | (go_at_call_has 130 (Value.int .i64 a); refine (HOA.out _).mono ?_; rintro e w1 ⟨rfl, hb1⟩; replace hb0 := below_then hb0 hb0.size hb1; clear hb1) | (go_at_call_has 130 (Value.int .i64 b); refine (HOB.out _).mono ?_; rintro e w2 ⟨rfl, hb1⟩; replace hb0 := below_then hb0 hb0.size hb1; clear hb1))
      go_ret2
      exact ⟨rfl, (hb0.alloc hb0.size _).alloc (by have := hb0.size; simp; omega) _⟩
    · have q0 : (b == 0) = false := by simpa using hz
      have hxz : xb ≠ 0 := by rw [← HXB.out]; omega
      have hxz' : ((xb : Int) == 0) = false := by simp; exact hxz
      have HV : Hid (signR sa (xa % xb) = remR a b) := Lib.hid (by
        unfold remR
        rw [if_neg hz, ← fitR_in (tmod_in (a := a) HB.out hz), ← HSGA.out, ← HSGB.out, ← tmod_sgn]
        rfl)
      have HK := Lib.hid (back_c sa (xa % xb))
      rw [HV.out, nmV_small _ (Nat.lt_of_le_of_lt (Nat.mod_le _ _) (by omega))] at HK
      clear HV hz
      generalize remR a b = O at HK ⊢
      go_enter Try.func80, Try.ntmps80
      go_wp2_with (first
        | (go_at_call_has 130 (Value.int .i64 a); refine (HOA.out _).mono ?_; rintro e w1 ⟨rfl, hb1⟩; replace hb0 := below_then hb0 hb0.size hb1; clear hb1) | (go_at_call_has 130 (Value.int .i64 b); refine (HOB.out _).mono ?_; rintro e w2 ⟨rfl, hb1⟩; replace hb0 := below_then hb0 hb0.size hb1; clear hb1))
      have g1 : ((w2.alloc (.cells #[.bool sa, .int .u64 0, .int .u64 (xa : Int)] 170)).alloc (.cells #[.bool sb, .int .u64 0, .int .u64 (xb : Int)] 170)).heap[w2.heap.size]? = some (.cells #[.bool sa, .int .u64 0, .int .u64 (xa : Int)] 170 (0, 0)) := (Below.heap_alloc _ _ _ (by simp)).trans (heap_new w2 _)
      have g2 : ((w2.alloc (.cells #[.bool sa, .int .u64 0, .int .u64 (xa : Int)] 170)).alloc (.cells #[.bool sb, .int .u64 0, .int .u64 (xb : Int)] 170)).heap[w2.heap.size + 1]? = some (.cells #[.bool sb, .int .u64 0, .int .u64 (xb : Int)] 170 (0, 0)) := heap_at _ _ _ (by simp)
      have hbW := (hb0.alloc hb0.size (.cells #[.bool sa, .int .u64 0, .int .u64 (xa : Int)] 170)).alloc (by have := hb0.size; simp; omega) (.cells #[.bool sb, .int .u64 0, .int .u64 (xb : Int)] 170)
      generalize ((w2.alloc (.cells #[.bool sa, .int .u64 0, .int .u64 (xa : Int)] 170)).alloc (.cells #[.bool sb, .int .u64 0, .int .u64 (xb : Int)] 170)) = W4 at g1 g2 hbW ⊢
      have HS : Hid (∀ W, Below W4.heap.size W4 W → W.cell? ⟨w2.heap.size, 0, none⟩ = some (.bool sa) ∧ W.cell? ⟨w2.heap.size, 2, none⟩ = some (.int .u64 (xa : Int)) ∧ W.cell? ⟨w2.heap.size + 1, 0, none⟩ = some (.bool sb) ∧ W.cell? ⟨w2.heap.size + 1, 2, none⟩ = some (.int .u64 (xb : Int))) := Lib.hid (fun W hb => by
        obtain ⟨a0, a1, a2, -, -, -⟩ := boxn3 (block_below hb (Array.getElem?_eq_some_iff.1 g1).1 g1)
        obtain ⟨b0, b1, b2, -, -, -⟩ := boxn3 (block_below hb (Array.getElem?_eq_some_iff.1 g2).1 g2)
        exact ⟨a0, a2, b0, b2⟩)
      have HBW := Lib.hid hbW
      have HG2 := Lib.hid g2
      clear g1 g2 hbW hb0
      have hqw : IntKind.u64.wrap ((xa : Int) / (xb : Int)) = ((xa / xb : Nat) : Int) := by
        have h1 : ∀ q : Nat, q ≤ xa → IntKind.u64.wrap (q : Int) = q := fun q h => by rw [IntKind.wrap_u64]; omega
        exact h1 _ (Nat.div_le_self _ _)
      have hrw : (xa : Int).tmod (xb : Int) = ((xa % xb : Nat) : Int) := rfl
      generalize hqd : ((xa / xb : Nat) : Int) = qv at hqw
      generalize hrd : ((xa % xb : Nat) : Int) = rv at hrw
      have HQD := Lib.hid hqd
      have HRD := Lib.hid hrd
      clear hqd hrd
      go_cut [10, 11] (fun u v wx => ∃ p q, u = .pointer (some ⟨p, 0, none⟩) ∧ v = .pointer (some ⟨q, 0, none⟩) ∧ Hid (wx.heap[p]? = some (.cells #[.bool (sa != sb), .int .u64 0, .int .u64 qv] 170 (0, 0))) ∧ Hid (wx.heap[q]? = some (.cells #[.bool sa, .int .u64 0, .int .u64 rv] 170 (0, 0))) ∧ Below W4.heap.size W4 wx ∧ W4.heap.size ≤ q)
      case first =>
        refine wp_region_held_drew (S := (fun W => W.cell? ⟨w2.heap.size, 0, none⟩ = some (.bool sa) ∧ W.cell? ⟨w2.heap.size, 2, none⟩ = some (.int .u64 (xa : Int)) ∧ W.cell? ⟨w2.heap.size + 1, 0, none⟩ = some (.bool sb) ∧ W.cell? ⟨w2.heap.size + 1, 2, none⟩ = some (.int .u64 (xb : Int)))) (by kernel_rfl) ?_ (fun hHeld => ?_)
        · exact HS.out _ (Below.refl _ W4).drew
        change wpAnyH _ .any _ _ _ 23 (Array.replicate 23 false) _ _
        refine wpAnyH_take (i := 0) (oi := ⟨some 47, _, _, _, _, _⟩) (v := ?_) rfl (by kernel_rfl) (by kernel_rfl) (by kernel_rfl) (fun _ _ _ h => h) (Or.inl ⟨by rfl, ?_⟩) (by assumption) ?_
        rotate_left
        · (intro w hSw; (try dsimp only at hSw); go_simp; try (with_reducible rfl))
        (try simp only [Act.put, List.setIfInBounds_toArray, List.set_cons_zero, List.set_cons_succ])
        refine wpAnyH_take (i := 1) (oi := ⟨some 48, _, _, _, _, _⟩) (v := ?_) rfl (by kernel_rfl) (by kernel_rfl) (by kernel_rfl) (fun _ _ _ h => h) (Or.inl ⟨by rfl, ?_⟩) (by assumption) ?_
        rotate_left
        · (intro w hSw; (try dsimp only at hSw); go_simp; try (with_reducible rfl))
        (try simp only [Act.put, List.setIfInBounds_toArray, List.set_cons_zero, List.set_cons_succ])
        refine wpAnyH_take (i := 2) (oi := ⟨some 49, _, _, _, _, _⟩) (v := ?_) rfl (by kernel_rfl) (by kernel_rfl) (by kernel_rfl) (fun _ _ _ h => h) (Or.inl ⟨by rfl, ?_⟩) (by assumption) ?_
        rotate_left
        · (intro w hSw; (try dsimp only at hSw); go_simp; try (with_reducible rfl))
        (try simp only [Act.put, List.setIfInBounds_toArray, List.set_cons_zero, List.set_cons_succ])
        refine wpAnyH_take (i := 3) (oi := ⟨some 50, _, _, _, _, _⟩) (v := ?_) rfl (by kernel_rfl) (by kernel_rfl) (by kernel_rfl) (fun _ _ _ h => h) (Or.inl ⟨by rfl, ?_⟩) (by assumption) ?_
        rotate_left
        · (intro w hSw; (try dsimp only at hSw); go_simp; try (with_reducible rfl))
        (try simp only [Act.put, List.setIfInBounds_toArray, List.set_cons_zero, List.set_cons_succ])
        refine wpAnyH_take (i := 4) (oi := ⟨some 51, _, _, _, _, _⟩) (v := ?_) rfl (by kernel_rfl) (by kernel_rfl) (by kernel_rfl) (fun _ _ _ h => h) (Or.inl ⟨by rfl, ?_⟩) (by assumption) ?_
        rotate_left
        · (intro w hSw; (try dsimp only at hSw); go_simp; try (with_reducible rfl))
        (try simp only [Act.put, List.setIfInBounds_toArray, List.set_cons_zero, List.set_cons_succ])
        refine wpAnyH_take (i := 5) (oi := ⟨some 52, _, _, _, _, _⟩) (v := ?_) rfl (by kernel_rfl) (by kernel_rfl) (by kernel_rfl) (fun _ _ _ h => h) (Or.inl ⟨by rfl, ?_⟩) (by assumption) ?_
        rotate_left
        · (intro w hSw; (try dsimp only at hSw); go_simp; try (with_reducible rfl))
        (try simp only [Act.put, List.setIfInBounds_toArray, List.set_cons_zero, List.set_cons_succ])
        refine wpAnyH_take (i := 6) (oi := ⟨some 53, _, _, _, _, _⟩) (v := ?_) rfl (by kernel_rfl) (by kernel_rfl) (by kernel_rfl) (fun _ _ _ h => h) (Or.inl ⟨by rfl, ?_⟩) (by assumption) ?_
        rotate_left
        · (intro w hSw; (try dsimp only at hSw); go_simp; try (with_reducible rfl))
        (try simp only [Act.put, List.setIfInBounds_toArray, List.set_cons_zero, List.set_cons_succ])
        refine wpAnyH_take (i := 7) (oi := ⟨some 54, _, _, _, _, _⟩) (v := ?_) rfl (by kernel_rfl) (by kernel_rfl) (by kernel_rfl) (fun _ _ _ h => h) (Or.inl ⟨by rfl, ?_⟩) (by assumption) ?_
        rotate_left
        · (intro w hSw; (try dsimp only at hSw); go_simp; try (with_reducible rfl))
        (try simp only [Act.put, List.setIfInBounds_toArray, List.set_cons_zero, List.set_cons_succ])
        refine wpAnyH_take (i := 8) (oi := ⟨some 55, _, _, _, _, _⟩) (v := ?_) rfl (by kernel_rfl) (by kernel_rfl) (by kernel_rfl) (fun _ _ _ h => h) (Or.inl ⟨by rfl, ?_⟩) (by assumption) ?_
        rotate_left
        · (intro w hSw; (try dsimp only at hSw); go_simp; try (with_reducible rfl))
        (try simp only [Act.put, List.setIfInBounds_toArray, List.set_cons_zero, List.set_cons_succ])
        refine wpAnyH_take (i := 9) (oi := ⟨some 56, _, _, _, _, _⟩) (v := ?_) rfl (by kernel_rfl) (by kernel_rfl) (by kernel_rfl) (fun _ _ _ h => h) (Or.inl ⟨by rfl, ?_⟩) (by assumption) ?_
        rotate_left
        · (intro w hSw; (try dsimp only at hSw); go_simp; try (with_reducible rfl))
        (try simp only [Act.put, List.setIfInBounds_toArray, List.set_cons_zero, List.set_cons_succ])
        refine wpAnyH_take (i := 10) (oi := ⟨some 57, _, _, _, _, _⟩) (v := ?_) rfl (by kernel_rfl) (by kernel_rfl) (by kernel_rfl) (fun _ _ _ h => h) (Or.inl ⟨by rfl, ?_⟩) (by assumption) ?_
        rotate_left
        · (intro w hSw; (try dsimp only at hSw); go_simp; try (with_reducible rfl))
        (try simp only [Act.put, List.setIfInBounds_toArray, List.set_cons_zero, List.set_cons_succ])
        refine wpAnyH_take (i := 11) (oi := ⟨some 58, _, _, _, _, _⟩) (v := ?_) rfl (by kernel_rfl) (by kernel_rfl) (by kernel_rfl) (fun _ _ _ h => h) (Or.inl ⟨by rfl, ?_⟩) (by assumption) ?_
        rotate_left
        · (intro w hSw; (try dsimp only at hSw); go_simp; try (with_reducible rfl))
        (try simp only [Act.put, List.setIfInBounds_toArray, List.set_cons_zero, List.set_cons_succ])
        refine wpAnyH_take (i := 12) (oi := ⟨some 59, _, _, _, _, _⟩) (v := ?_) rfl (by kernel_rfl) (by kernel_rfl) (by kernel_rfl) (fun _ _ _ h => h) (Or.inl ⟨by rfl, ?_⟩) (by assumption) ?_
        rotate_left
        · (intro w hSw; (try dsimp only at hSw); go_simp; try (with_reducible rfl))
        (try simp only [Act.put, List.setIfInBounds_toArray, List.set_cons_zero, List.set_cons_succ])
        refine wpAnyH_take (i := 13) (oi := ⟨some 60, _, _, _, _, _⟩) (v := ?_) rfl (by kernel_rfl) (by kernel_rfl) (by kernel_rfl) (fun _ _ _ h => h) (Or.inl ⟨by rfl, ?_⟩) (by assumption) ?_
        rotate_left
        · (intro w hSw; (try dsimp only at hSw); go_simp; try (with_reducible rfl))
        (try simp only [Act.put, List.setIfInBounds_toArray, List.set_cons_zero, List.set_cons_succ])
        refine wpAnyH_take (i := 14) (oi := ⟨some 61, _, _, _, _, _⟩) (v := ?_) rfl (by kernel_rfl) (by kernel_rfl) (by kernel_rfl) (fun _ _ _ h => h) (Or.inl ⟨by rfl, ?_⟩) (by assumption) ?_
        rotate_left
        · (intro w hSw; (try dsimp only at hSw); go_simp; try (with_reducible rfl))
        (try simp only [Act.put, List.setIfInBounds_toArray, List.set_cons_zero, List.set_cons_succ])
        refine wpAnyH_take (i := 15) (oi := ⟨some 62, _, _, _, _, _⟩) (v := ?_) rfl (by kernel_rfl) (by kernel_rfl) (by kernel_rfl) (fun _ _ _ h => h) (Or.inl ⟨by rfl, ?_⟩) (by assumption) ?_
        rotate_left
        · (intro w hSw; (try dsimp only at hSw); go_simp; try (with_reducible rfl))
        (try simp only [Act.put, List.setIfInBounds_toArray, List.set_cons_zero, List.set_cons_succ])
        refine wpAnyH_take (i := 16) (oi := ⟨some 63, _, _, _, _, _⟩) (v := ?_) rfl (by kernel_rfl) (by kernel_rfl) (by kernel_rfl) (fun _ _ _ h => h) (Or.inl ⟨by rfl, ?_⟩) (by assumption) ?_
        rotate_left
        · (intro w hSw; (try dsimp only at hSw); go_simp; try (with_reducible rfl))
        (try simp only [Act.put, List.setIfInBounds_toArray, List.set_cons_zero, List.set_cons_succ])
        refine wpAnyH_take (i := 17) (oi := ⟨some 64, _, _, _, _, _⟩) (v := ?_) rfl (by kernel_rfl) (by kernel_rfl) (by kernel_rfl) (fun _ _ _ h => h) (Or.inl ⟨by rfl, ?_⟩) (by assumption) ?_
        rotate_left
        · (intro w hSw; (try dsimp only at hSw); go_simp; try (with_reducible rfl))
        (try simp only [Act.put, List.setIfInBounds_toArray, List.set_cons_zero, List.set_cons_succ])
        refine wpAnyH_take (i := 18) (oi := ⟨some 65, _, _, _, _, _⟩) (v := ?_) rfl (by kernel_rfl) (by kernel_rfl) (by kernel_rfl) (fun _ _ _ h => h) (Or.inl ⟨by rfl, ?_⟩) (by assumption) ?_
        rotate_left
        · (intro w hSw; (try dsimp only at hSw); go_simp; try (with_reducible rfl))
        (try simp only [Act.put, List.setIfInBounds_toArray, List.set_cons_zero, List.set_cons_succ])
        refine wpAnyH_ready (rs := [19, 20]) (by kernel_rfl) (by simp) ?_
        refine AllReadyH.cons (o := ⟨some 10, _, _, _, _, _⟩) rfl (fun K hK => ?_) ?_
        · skip
          go_simp
          refine hK.out _ _ (HS.out _ (by first | exact ((Below.refl _ W4).alloc (Nat.le_refl _) _).drew | exact ((Below.refl _ W4).drew.alloc (Nat.le_refl _) _))) (fun hHeld => ?_)
          clear hK K
          (try simp only [Act.put, List.setIfInBounds_toArray, List.set_cons_zero, List.set_cons_succ])
          refine wpAnyH_ready (rs := [20]) (by kernel_rfl) (by simp) ?_
          refine AllReadyH.cons (o := ⟨some 11, _, _, _, _, _⟩) rfl (fun K hK => ?_) AllReadyH.nil
          go_simp
          refine hK.out _ _ (HS.out _ (by first | exact (((Below.refl _ W4).alloc (Nat.le_refl _) _).alloc (by simp) _).drew | exact (((Below.refl _ W4).drew.alloc (Nat.le_refl _) _).alloc (by simp) _))) (fun hHeld => ?_)
          clear hK K
          (try simp only [Act.put, List.setIfInBounds_toArray, List.set_cons_zero, List.set_cons_succ])
          refine wpAnyH_ready (rs := [21]) (by kernel_rfl) (by simp) ?_
          refine AllReadyH.cons (o := ⟨none, _, _, _, _, _⟩) rfl (fun K hK => ?_) AllReadyH.nil
          go_simp
          refine hK.out _ _ (HS.out _ (by first | exact (((Below.refl _ W4).alloc (Nat.le_refl _) _).alloc (by simp) _).drew | exact (((Below.refl _ W4).drew.alloc (Nat.le_refl _) _).alloc (by simp) _))) (fun hHeld => ?_)
          clear hK K
          (try simp only [Act.put, List.setIfInBounds_toArray, List.set_cons_zero, List.set_cons_succ])
          refine wpAnyH_ready (rs := [22]) (by kernel_rfl) (by simp) ?_
          refine AllReadyH.cons (o := ⟨none, _, _, _, _, _⟩) rfl (fun K hK => ?_) AllReadyH.nil
          go_simp
          refine hK.out _ _ (HS.out _ (by first | exact (((Below.refl _ W4).alloc (Nat.le_refl _) _).alloc (by simp) _).drew | exact (((Below.refl _ W4).drew.alloc (Nat.le_refl _) _).alloc (by simp) _))) (fun hHeld => ?_)
          clear hK K
          (try simp only [Act.put, List.setIfInBounds_toArray, List.set_cons_zero, List.set_cons_succ])
          refine wpAnyH_done (by kernel_rfl) ?_ _
          go_wp2_with fail
          go_meet
          case rel => exact ⟨_, _, rfl, rfl, Lib.hid ((Below.heap_alloc _ _ _ (by simp)).trans (heap_new W4 _)), Lib.hid (heap_at _ _ _ (by simp)), (((Below.refl _ W4).alloc (Nat.le_refl _) _).alloc (by simp) _).drew, by omega⟩
        refine AllReadyH.cons (o := ⟨some 11, _, _, _, _, _⟩) rfl (fun K hK => ?_) AllReadyH.nil
        go_simp
        refine hK.out _ _ (HS.out _ (by first | exact ((Below.refl _ W4).alloc (Nat.le_refl _) _).drew | exact ((Below.refl _ W4).drew.alloc (Nat.le_refl _) _))) (fun hHeld => ?_)
        clear hK K
        (try simp only [Act.put, List.setIfInBounds_toArray, List.set_cons_zero, List.set_cons_succ])
        refine wpAnyH_ready (rs := [19]) (by kernel_rfl) (by simp) ?_
        refine AllReadyH.cons (o := ⟨some 10, _, _, _, _, _⟩) rfl (fun K hK => ?_) AllReadyH.nil
        go_simp
        refine hK.out _ _ (HS.out _ (by first | exact (((Below.refl _ W4).alloc (Nat.le_refl _) _).alloc (by simp) _).drew | exact (((Below.refl _ W4).drew.alloc (Nat.le_refl _) _).alloc (by simp) _))) (fun hHeld => ?_)
        clear hK K
        (try simp only [Act.put, List.setIfInBounds_toArray, List.set_cons_zero, List.set_cons_succ])
        refine wpAnyH_ready (rs := [21]) (by kernel_rfl) (by simp) ?_
        refine AllReadyH.cons (o := ⟨none, _, _, _, _, _⟩) rfl (fun K hK => ?_) AllReadyH.nil
        go_simp
        refine hK.out _ _ (HS.out _ (by first | exact (((Below.refl _ W4).alloc (Nat.le_refl _) _).alloc (by simp) _).drew | exact (((Below.refl _ W4).drew.alloc (Nat.le_refl _) _).alloc (by simp) _))) (fun hHeld => ?_)
        clear hK K
        (try simp only [Act.put, List.setIfInBounds_toArray, List.set_cons_zero, List.set_cons_succ])
        refine wpAnyH_ready (rs := [22]) (by kernel_rfl) (by simp) ?_
        refine AllReadyH.cons (o := ⟨none, _, _, _, _, _⟩) rfl (fun K hK => ?_) AllReadyH.nil
        go_simp
        refine hK.out _ _ (HS.out _ (by first | exact (((Below.refl _ W4).alloc (Nat.le_refl _) _).alloc (by simp) _).drew | exact (((Below.refl _ W4).drew.alloc (Nat.le_refl _) _).alloc (by simp) _))) (fun hHeld => ?_)
        clear hK K
        (try simp only [Act.put, List.setIfInBounds_toArray, List.set_cons_zero, List.set_cons_succ])
        refine wpAnyH_done (by kernel_rfl) ?_ _
        go_wp2_with fail
        go_meet
        case rel => exact ⟨_, _, rfl, rfl, Lib.hid (heap_at _ _ _ (by simp)), Lib.hid ((Below.heap_alloc _ _ _ (by simp)).trans (heap_new W4 _)), (((Below.refl _ W4).alloc (Nat.le_refl _) _).alloc (by simp) _).drew, Nat.le_refl _⟩
      case rest =>
        obtain ⟨pq, pr, rfl, rfl, HP, HR, hb4, hprw⟩ := hcut
        obtain ⟨a0, a1, a2, -, -, -⟩ := boxn3 HP.out
        obtain ⟨b0, b1, b2, -, -, -⟩ := boxn3 HR.out
        rw [HRD.out] at HK
        go_wp2_with (go_at_call 132; refine (HK.out _).mono ?_; rintro e w4 ⟨rfl, hb5⟩)
        go_ret2
        exact ⟨rfl, (HBW.out.trans (hb4.mono HBW.out.size)).trans (hb5.mono (by have := HBW.out.size; have := hb4.size; omega))⟩
  · subst h
    rw [show opI ⟨#[109, 111, 100]⟩ a b = modR a b from rfl]
    by_cases hz : b = 0
    · have q0 : (b == 0) = true := by simpa using hz
      rw [show modR a b = .er 23 from if_pos hz]
      simp only [Rk.val, Rk.err]
      clear hz
      go_enter Try.func80, Try.ntmps80
      go_wp2_with (first
        | (go_at_call_has 130 (Value.int .i64 a); refine (HOA.out _).mono ?_; rintro e w1 ⟨rfl, hb1⟩; replace hb0 := below_then hb0 hb0.size hb1; clear hb1) | (go_at_call_has 130 (Value.int .i64 b); refine (HOB.out _).mono ?_; rintro e w2 ⟨rfl, hb1⟩; replace hb0 := below_then hb0 hb0.size hb1; clear hb1))
      go_ret2
      exact ⟨rfl, (hb0.alloc hb0.size _).alloc (by have := hb0.size; simp; omega) _⟩
    · have q0 : (b == 0) = false := by simpa using hz
      have hxz : xb ≠ 0 := by rw [← HXB.out]; omega
      have hxz' : ((xb : Int) == 0) = false := by simp; exact hxz
      have hmlt : xa % xb < xb := Nat.mod_lt _ (by omega)
      have htm : a.tmod b = sgn sa (xa % xb) := by rw [tmod_sgn, HSGA.out, HSGB.out]
      have HV0 : Hid (xa % xb = 0 ∨ sa = sb → signR sa (xa % xb) = modR a b) := Lib.hid (fun hc => by
        have hm : modI a b = a.tmod b := by
          unfold modI
          rw [if_neg]
          rintro ⟨h1, h2⟩
          rcases hc with hc | hc
          · rw [htm, hc] at h1; apply h1; unfold sgn; cases sa <;> rfl
          · have h3 := tmod_sign h1
            apply h2
            have h4 : decide (a.tmod b < 0) = decide (a < 0) := decide_eq_decide.2 (by rw [h3])
            rw [h4, HSA.out, HSB.out, hc]
        unfold modR
        rw [if_neg hz, hm, ← fitR_in (tmod_in (a := a) HB.out hz), htm]
        rfl)
      have HV1 : Hid (xa % xb ≠ 0 → sa ≠ sb → signR sb (xb - xa % xb) = modR a b) := Lib.hid (fun h1 h2 => by
        have hne : a.tmod b ≠ 0 := by rw [htm]; unfold sgn; cases sa <;> simp <;> omega
        have hm : modI a b = a.tmod b + b := by
          unfold modI
          rw [if_pos]
          refine ⟨hne, ?_⟩
          have h3 := tmod_sign hne
          have h4 : decide (a.tmod b < 0) = decide (a < 0) := decide_eq_decide.2 (by rw [h3])
          rw [h4, HSA.out, HSB.out]
          exact h2
        have hin := modI_in HA.out HB.out hz
        have hsg : sgn sb (xb - xa % xb) = a.tmod b + b := by
          rw [htm, ← HSGB.out]
          unfold sgn
          cases sa <;> cases sb <;> simp at h2 ⊢ <;> omega
        unfold modR
        rw [if_neg hz, ← fitR_in hin, hm, ← hsg]
        rfl)
      have HPL := Lib.hid (plus_c sa (xa % xb) sb xb (by omega) hxb)
      have hpl : xa % xb ≠ 0 → sa ≠ sb → plM sa (xa % xb) sb xb = (sb, xb - xa % xb) := fun _ h2 => by
        unfold plM
        rw [if_neg h2, if_neg (by omega)]
      have HPL2 := Lib.hid hpl
      have HK0 := Lib.hid (back_c sa (xa % xb))
      have HK1 := Lib.hid (back_c sb (xb - xa % xb))
      have hs0 : xa % xb < 18446744073709551616 := by omega
      have hs1 : xb - xa % xb < 18446744073709551616 := by omega
      rw [nmV_small _ hs0] at HK0
      rw [nmV_small _ hs1] at HK1
      have HS1 := Lib.hid hs1
      clear hz hs0 hs1 hpl htm
      generalize modR a b = O at HV0 HV1 ⊢
      go_enter Try.func80, Try.ntmps80
      go_wp2_with (first
        | (go_at_call_has 130 (Value.int .i64 a); refine (HOA.out _).mono ?_; rintro e w1 ⟨rfl, hb1⟩; replace hb0 := below_then hb0 hb0.size hb1; clear hb1) | (go_at_call_has 130 (Value.int .i64 b); refine (HOB.out _).mono ?_; rintro e w2 ⟨rfl, hb1⟩; replace hb0 := below_then hb0 hb0.size hb1; clear hb1))
      have g1 : ((w2.alloc (.cells #[.bool sa, .int .u64 0, .int .u64 (xa : Int)] 170)).alloc (.cells #[.bool sb, .int .u64 0, .int .u64 (xb : Int)] 170)).heap[w2.heap.size]? = some (.cells #[.bool sa, .int .u64 0, .int .u64 (xa : Int)] 170 (0, 0)) := (Below.heap_alloc _ _ _ (by simp)).trans (heap_new w2 _)
      have g2 : ((w2.alloc (.cells #[.bool sa, .int .u64 0, .int .u64 (xa : Int)] 170)).alloc (.cells #[.bool sb, .int .u64 0, .int .u64 (xb : Int)] 170)).heap[w2.heap.size + 1]? = some (.cells #[.bool sb, .int .u64 0, .int .u64 (xb : Int)] 170 (0, 0)) := heap_at _ _ _ (by simp)
      have hbW := (hb0.alloc hb0.size (.cells #[.bool sa, .int .u64 0, .int .u64 (xa : Int)] 170)).alloc (by have := hb0.size; simp; omega) (.cells #[.bool sb, .int .u64 0, .int .u64 (xb : Int)] 170)
      generalize ((w2.alloc (.cells #[.bool sa, .int .u64 0, .int .u64 (xa : Int)] 170)).alloc (.cells #[.bool sb, .int .u64 0, .int .u64 (xb : Int)] 170)) = W4 at g1 g2 hbW ⊢
      have HS : Hid (∀ W, Below W4.heap.size W4 W → W.cell? ⟨w2.heap.size, 0, none⟩ = some (.bool sa) ∧ W.cell? ⟨w2.heap.size, 2, none⟩ = some (.int .u64 (xa : Int)) ∧ W.cell? ⟨w2.heap.size + 1, 0, none⟩ = some (.bool sb) ∧ W.cell? ⟨w2.heap.size + 1, 2, none⟩ = some (.int .u64 (xb : Int))) := Lib.hid (fun W hb => by
        obtain ⟨a0, a1, a2, -, -, -⟩ := boxn3 (block_below hb (Array.getElem?_eq_some_iff.1 g1).1 g1)
        obtain ⟨b0, b1, b2, -, -, -⟩ := boxn3 (block_below hb (Array.getElem?_eq_some_iff.1 g2).1 g2)
        exact ⟨a0, a2, b0, b2⟩)
      have HBW := Lib.hid hbW
      have HG2 := Lib.hid g2
      clear g1 g2 hbW hb0
      have hqw : IntKind.u64.wrap ((xa : Int) / (xb : Int)) = ((xa / xb : Nat) : Int) := by
        have h1 : ∀ q : Nat, q ≤ xa → IntKind.u64.wrap (q : Int) = q := fun q h => by rw [IntKind.wrap_u64]; omega
        exact h1 _ (Nat.div_le_self _ _)
      have hrw : (xa : Int).tmod (xb : Int) = ((xa % xb : Nat) : Int) := rfl
      generalize hqd : ((xa / xb : Nat) : Int) = qv at hqw
      generalize hrd : ((xa % xb : Nat) : Int) = rv at hrw
      have HQD := Lib.hid hqd
      have HRD := Lib.hid hrd
      clear hqd hrd
      go_cut [10, 11] (fun u v wx => ∃ p q, u = .pointer (some ⟨p, 0, none⟩) ∧ v = .pointer (some ⟨q, 0, none⟩) ∧ Hid (wx.heap[p]? = some (.cells #[.bool (sa != sb), .int .u64 0, .int .u64 qv] 170 (0, 0))) ∧ Hid (wx.heap[q]? = some (.cells #[.bool sa, .int .u64 0, .int .u64 rv] 170 (0, 0))) ∧ Below W4.heap.size W4 wx ∧ W4.heap.size ≤ q)
      case first =>
        refine wp_region_held_drew (S := (fun W => W.cell? ⟨w2.heap.size, 0, none⟩ = some (.bool sa) ∧ W.cell? ⟨w2.heap.size, 2, none⟩ = some (.int .u64 (xa : Int)) ∧ W.cell? ⟨w2.heap.size + 1, 0, none⟩ = some (.bool sb) ∧ W.cell? ⟨w2.heap.size + 1, 2, none⟩ = some (.int .u64 (xb : Int)))) (by kernel_rfl) ?_ (fun hHeld => ?_)
        · exact HS.out _ (Below.refl _ W4).drew
        change wpAnyH _ .any _ _ _ 23 (Array.replicate 23 false) _ _
        refine wpAnyH_take (i := 0) (oi := ⟨some 47, _, _, _, _, _⟩) (v := ?_) rfl (by kernel_rfl) (by kernel_rfl) (by kernel_rfl) (fun _ _ _ h => h) (Or.inl ⟨by rfl, ?_⟩) (by assumption) ?_
        rotate_left
        · (intro w hSw; (try dsimp only at hSw); go_simp; try (with_reducible rfl))
        (try simp only [Act.put, List.setIfInBounds_toArray, List.set_cons_zero, List.set_cons_succ])
        refine wpAnyH_take (i := 1) (oi := ⟨some 48, _, _, _, _, _⟩) (v := ?_) rfl (by kernel_rfl) (by kernel_rfl) (by kernel_rfl) (fun _ _ _ h => h) (Or.inl ⟨by rfl, ?_⟩) (by assumption) ?_
        rotate_left
        · (intro w hSw; (try dsimp only at hSw); go_simp; try (with_reducible rfl))
        (try simp only [Act.put, List.setIfInBounds_toArray, List.set_cons_zero, List.set_cons_succ])
        refine wpAnyH_take (i := 2) (oi := ⟨some 49, _, _, _, _, _⟩) (v := ?_) rfl (by kernel_rfl) (by kernel_rfl) (by kernel_rfl) (fun _ _ _ h => h) (Or.inl ⟨by rfl, ?_⟩) (by assumption) ?_
        rotate_left
        · (intro w hSw; (try dsimp only at hSw); go_simp; try (with_reducible rfl))
        (try simp only [Act.put, List.setIfInBounds_toArray, List.set_cons_zero, List.set_cons_succ])
        refine wpAnyH_take (i := 3) (oi := ⟨some 50, _, _, _, _, _⟩) (v := ?_) rfl (by kernel_rfl) (by kernel_rfl) (by kernel_rfl) (fun _ _ _ h => h) (Or.inl ⟨by rfl, ?_⟩) (by assumption) ?_
        rotate_left
        · (intro w hSw; (try dsimp only at hSw); go_simp; try (with_reducible rfl))
        (try simp only [Act.put, List.setIfInBounds_toArray, List.set_cons_zero, List.set_cons_succ])
        refine wpAnyH_take (i := 4) (oi := ⟨some 51, _, _, _, _, _⟩) (v := ?_) rfl (by kernel_rfl) (by kernel_rfl) (by kernel_rfl) (fun _ _ _ h => h) (Or.inl ⟨by rfl, ?_⟩) (by assumption) ?_
        rotate_left
        · (intro w hSw; (try dsimp only at hSw); go_simp; try (with_reducible rfl))
        (try simp only [Act.put, List.setIfInBounds_toArray, List.set_cons_zero, List.set_cons_succ])
        refine wpAnyH_take (i := 5) (oi := ⟨some 52, _, _, _, _, _⟩) (v := ?_) rfl (by kernel_rfl) (by kernel_rfl) (by kernel_rfl) (fun _ _ _ h => h) (Or.inl ⟨by rfl, ?_⟩) (by assumption) ?_
        rotate_left
        · (intro w hSw; (try dsimp only at hSw); go_simp; try (with_reducible rfl))
        (try simp only [Act.put, List.setIfInBounds_toArray, List.set_cons_zero, List.set_cons_succ])
        refine wpAnyH_take (i := 6) (oi := ⟨some 53, _, _, _, _, _⟩) (v := ?_) rfl (by kernel_rfl) (by kernel_rfl) (by kernel_rfl) (fun _ _ _ h => h) (Or.inl ⟨by rfl, ?_⟩) (by assumption) ?_
        rotate_left
        · (intro w hSw; (try dsimp only at hSw); go_simp; try (with_reducible rfl))
        (try simp only [Act.put, List.setIfInBounds_toArray, List.set_cons_zero, List.set_cons_succ])
        refine wpAnyH_take (i := 7) (oi := ⟨some 54, _, _, _, _, _⟩) (v := ?_) rfl (by kernel_rfl) (by kernel_rfl) (by kernel_rfl) (fun _ _ _ h => h) (Or.inl ⟨by rfl, ?_⟩) (by assumption) ?_
        rotate_left
        · (intro w hSw; (try dsimp only at hSw); go_simp; try (with_reducible rfl))
        (try simp only [Act.put, List.setIfInBounds_toArray, List.set_cons_zero, List.set_cons_succ])
        refine wpAnyH_take (i := 8) (oi := ⟨some 55, _, _, _, _, _⟩) (v := ?_) rfl (by kernel_rfl) (by kernel_rfl) (by kernel_rfl) (fun _ _ _ h => h) (Or.inl ⟨by rfl, ?_⟩) (by assumption) ?_
        rotate_left
        · (intro w hSw; (try dsimp only at hSw); go_simp; try (with_reducible rfl))
        (try simp only [Act.put, List.setIfInBounds_toArray, List.set_cons_zero, List.set_cons_succ])
        refine wpAnyH_take (i := 9) (oi := ⟨some 56, _, _, _, _, _⟩) (v := ?_) rfl (by kernel_rfl) (by kernel_rfl) (by kernel_rfl) (fun _ _ _ h => h) (Or.inl ⟨by rfl, ?_⟩) (by assumption) ?_
        rotate_left
        · (intro w hSw; (try dsimp only at hSw); go_simp; try (with_reducible rfl))
        (try simp only [Act.put, List.setIfInBounds_toArray, List.set_cons_zero, List.set_cons_succ])
        refine wpAnyH_take (i := 10) (oi := ⟨some 57, _, _, _, _, _⟩) (v := ?_) rfl (by kernel_rfl) (by kernel_rfl) (by kernel_rfl) (fun _ _ _ h => h) (Or.inl ⟨by rfl, ?_⟩) (by assumption) ?_
        rotate_left
        · (intro w hSw; (try dsimp only at hSw); go_simp; try (with_reducible rfl))
        (try simp only [Act.put, List.setIfInBounds_toArray, List.set_cons_zero, List.set_cons_succ])
        refine wpAnyH_take (i := 11) (oi := ⟨some 58, _, _, _, _, _⟩) (v := ?_) rfl (by kernel_rfl) (by kernel_rfl) (by kernel_rfl) (fun _ _ _ h => h) (Or.inl ⟨by rfl, ?_⟩) (by assumption) ?_
        rotate_left
        · (intro w hSw; (try dsimp only at hSw); go_simp; try (with_reducible rfl))
        (try simp only [Act.put, List.setIfInBounds_toArray, List.set_cons_zero, List.set_cons_succ])
        refine wpAnyH_take (i := 12) (oi := ⟨some 59, _, _, _, _, _⟩) (v := ?_) rfl (by kernel_rfl) (by kernel_rfl) (by kernel_rfl) (fun _ _ _ h => h) (Or.inl ⟨by rfl, ?_⟩) (by assumption) ?_
        rotate_left
        · (intro w hSw; (try dsimp only at hSw); go_simp; try (with_reducible rfl))
        (try simp only [Act.put, List.setIfInBounds_toArray, List.set_cons_zero, List.set_cons_succ])
        refine wpAnyH_take (i := 13) (oi := ⟨some 60, _, _, _, _, _⟩) (v := ?_) rfl (by kernel_rfl) (by kernel_rfl) (by kernel_rfl) (fun _ _ _ h => h) (Or.inl ⟨by rfl, ?_⟩) (by assumption) ?_
        rotate_left
        · (intro w hSw; (try dsimp only at hSw); go_simp; try (with_reducible rfl))
        (try simp only [Act.put, List.setIfInBounds_toArray, List.set_cons_zero, List.set_cons_succ])
        refine wpAnyH_take (i := 14) (oi := ⟨some 61, _, _, _, _, _⟩) (v := ?_) rfl (by kernel_rfl) (by kernel_rfl) (by kernel_rfl) (fun _ _ _ h => h) (Or.inl ⟨by rfl, ?_⟩) (by assumption) ?_
        rotate_left
        · (intro w hSw; (try dsimp only at hSw); go_simp; try (with_reducible rfl))
        (try simp only [Act.put, List.setIfInBounds_toArray, List.set_cons_zero, List.set_cons_succ])
        refine wpAnyH_take (i := 15) (oi := ⟨some 62, _, _, _, _, _⟩) (v := ?_) rfl (by kernel_rfl) (by kernel_rfl) (by kernel_rfl) (fun _ _ _ h => h) (Or.inl ⟨by rfl, ?_⟩) (by assumption) ?_
        rotate_left
        · (intro w hSw; (try dsimp only at hSw); go_simp; try (with_reducible rfl))
        (try simp only [Act.put, List.setIfInBounds_toArray, List.set_cons_zero, List.set_cons_succ])
        refine wpAnyH_take (i := 16) (oi := ⟨some 63, _, _, _, _, _⟩) (v := ?_) rfl (by kernel_rfl) (by kernel_rfl) (by kernel_rfl) (fun _ _ _ h => h) (Or.inl ⟨by rfl, ?_⟩) (by assumption) ?_
        rotate_left
        · (intro w hSw; (try dsimp only at hSw); go_simp; try (with_reducible rfl))
        (try simp only [Act.put, List.setIfInBounds_toArray, List.set_cons_zero, List.set_cons_succ])
        refine wpAnyH_take (i := 17) (oi := ⟨some 64, _, _, _, _, _⟩) (v := ?_) rfl (by kernel_rfl) (by kernel_rfl) (by kernel_rfl) (fun _ _ _ h => h) (Or.inl ⟨by rfl, ?_⟩) (by assumption) ?_
        rotate_left
        · (intro w hSw; (try dsimp only at hSw); go_simp; try (with_reducible rfl))
        (try simp only [Act.put, List.setIfInBounds_toArray, List.set_cons_zero, List.set_cons_succ])
        refine wpAnyH_take (i := 18) (oi := ⟨some 65, _, _, _, _, _⟩) (v := ?_) rfl (by kernel_rfl) (by kernel_rfl) (by kernel_rfl) (fun _ _ _ h => h) (Or.inl ⟨by rfl, ?_⟩) (by assumption) ?_
        rotate_left
        · (intro w hSw; (try dsimp only at hSw); go_simp; try (with_reducible rfl))
        (try simp only [Act.put, List.setIfInBounds_toArray, List.set_cons_zero, List.set_cons_succ])
        refine wpAnyH_ready (rs := [19, 20]) (by kernel_rfl) (by simp) ?_
        refine AllReadyH.cons (o := ⟨some 10, _, _, _, _, _⟩) rfl (fun K hK => ?_) ?_
        · skip
          go_simp
          refine hK.out _ _ (HS.out _ (by first | exact ((Below.refl _ W4).alloc (Nat.le_refl _) _).drew | exact ((Below.refl _ W4).drew.alloc (Nat.le_refl _) _))) (fun hHeld => ?_)
          clear hK K
          (try simp only [Act.put, List.setIfInBounds_toArray, List.set_cons_zero, List.set_cons_succ])
          refine wpAnyH_ready (rs := [20]) (by kernel_rfl) (by simp) ?_
          refine AllReadyH.cons (o := ⟨some 11, _, _, _, _, _⟩) rfl (fun K hK => ?_) AllReadyH.nil
          go_simp
          refine hK.out _ _ (HS.out _ (by first | exact (((Below.refl _ W4).alloc (Nat.le_refl _) _).alloc (by simp) _).drew | exact (((Below.refl _ W4).drew.alloc (Nat.le_refl _) _).alloc (by simp) _))) (fun hHeld => ?_)
          clear hK K
          (try simp only [Act.put, List.setIfInBounds_toArray, List.set_cons_zero, List.set_cons_succ])
          refine wpAnyH_ready (rs := [21]) (by kernel_rfl) (by simp) ?_
          refine AllReadyH.cons (o := ⟨none, _, _, _, _, _⟩) rfl (fun K hK => ?_) AllReadyH.nil
          go_simp
          refine hK.out _ _ (HS.out _ (by first | exact (((Below.refl _ W4).alloc (Nat.le_refl _) _).alloc (by simp) _).drew | exact (((Below.refl _ W4).drew.alloc (Nat.le_refl _) _).alloc (by simp) _))) (fun hHeld => ?_)
          clear hK K
          (try simp only [Act.put, List.setIfInBounds_toArray, List.set_cons_zero, List.set_cons_succ])
          refine wpAnyH_ready (rs := [22]) (by kernel_rfl) (by simp) ?_
          refine AllReadyH.cons (o := ⟨none, _, _, _, _, _⟩) rfl (fun K hK => ?_) AllReadyH.nil
          go_simp
          refine hK.out _ _ (HS.out _ (by first | exact (((Below.refl _ W4).alloc (Nat.le_refl _) _).alloc (by simp) _).drew | exact (((Below.refl _ W4).drew.alloc (Nat.le_refl _) _).alloc (by simp) _))) (fun hHeld => ?_)
          clear hK K
          (try simp only [Act.put, List.setIfInBounds_toArray, List.set_cons_zero, List.set_cons_succ])
          refine wpAnyH_done (by kernel_rfl) ?_ _
          go_wp2_with fail
          go_meet
          case rel => exact ⟨_, _, rfl, rfl, Lib.hid ((Below.heap_alloc _ _ _ (by simp)).trans (heap_new W4 _)), Lib.hid (heap_at _ _ _ (by simp)), (((Below.refl _ W4).alloc (Nat.le_refl _) _).alloc (by simp) _).drew, by omega⟩
        refine AllReadyH.cons (o := ⟨some 11, _, _, _, _, _⟩) rfl (fun K hK => ?_) AllReadyH.nil
        go_simp
        refine hK.out _ _ (HS.out _ (by first | exact ((Below.refl _ W4).alloc (Nat.le_refl _) _).drew | exact ((Below.refl _ W4).drew.alloc (Nat.le_refl _) _))) (fun hHeld => ?_)
        clear hK K
        (try simp only [Act.put, List.setIfInBounds_toArray, List.set_cons_zero, List.set_cons_succ])
        refine wpAnyH_ready (rs := [19]) (by kernel_rfl) (by simp) ?_
        refine AllReadyH.cons (o := ⟨some 10, _, _, _, _, _⟩) rfl (fun K hK => ?_) AllReadyH.nil
        go_simp
        refine hK.out _ _ (HS.out _ (by first | exact (((Below.refl _ W4).alloc (Nat.le_refl _) _).alloc (by simp) _).drew | exact (((Below.refl _ W4).drew.alloc (Nat.le_refl _) _).alloc (by simp) _))) (fun hHeld => ?_)
        clear hK K
        (try simp only [Act.put, List.setIfInBounds_toArray, List.set_cons_zero, List.set_cons_succ])
        refine wpAnyH_ready (rs := [21]) (by kernel_rfl) (by simp) ?_
        refine AllReadyH.cons (o := ⟨none, _, _, _, _, _⟩) rfl (fun K hK => ?_) AllReadyH.nil
        go_simp
        refine hK.out _ _ (HS.out _ (by first | exact (((Below.refl _ W4).alloc (Nat.le_refl _) _).alloc (by simp) _).drew | exact (((Below.refl _ W4).drew.alloc (Nat.le_refl _) _).alloc (by simp) _))) (fun hHeld => ?_)
        clear hK K
        (try simp only [Act.put, List.setIfInBounds_toArray, List.set_cons_zero, List.set_cons_succ])
        refine wpAnyH_ready (rs := [22]) (by kernel_rfl) (by simp) ?_
        refine AllReadyH.cons (o := ⟨none, _, _, _, _, _⟩) rfl (fun K hK => ?_) AllReadyH.nil
        go_simp
        refine hK.out _ _ (HS.out _ (by first | exact (((Below.refl _ W4).alloc (Nat.le_refl _) _).alloc (by simp) _).drew | exact (((Below.refl _ W4).drew.alloc (Nat.le_refl _) _).alloc (by simp) _))) (fun hHeld => ?_)
        clear hK K
        (try simp only [Act.put, List.setIfInBounds_toArray, List.set_cons_zero, List.set_cons_succ])
        refine wpAnyH_done (by kernel_rfl) ?_ _
        go_wp2_with fail
        go_meet
        case rel => exact ⟨_, _, rfl, rfl, Lib.hid (heap_at _ _ _ (by simp)), Lib.hid ((Below.heap_alloc _ _ _ (by simp)).trans (heap_new W4 _)), (((Below.refl _ W4).alloc (Nat.le_refl _) _).alloc (by simp) _).drew, Nat.le_refl _⟩
      case rest =>
        obtain ⟨pq, pr, rfl, rfl, HP, HR, hb4, hprw⟩ := hcut
        obtain ⟨a0, a1, a2, -, -, -⟩ := boxn3 HP.out
        obtain ⟨b0, b1, b2, -, -, -⟩ := boxn3 HR.out
        rcases Nat.eq_zero_or_pos (xa % xb) with hr0 | hr0
        · have HK := HK0
          rw [HV0.out (.inl hr0), HRD.out] at HK
          have q1 : (rv != 0) = false := by rw [← HRD.out, hr0]; rfl
          have HMZ := Lib.hid hmlt
          clear hr0 hmlt
          go_wp2_with (go_at_call 132; refine (HK.out _).mono ?_; rintro e w4 ⟨rfl, hb5⟩)
          go_ret2
          exact ⟨rfl, (HBW.out.trans (hb4.mono HBW.out.size)).trans (hb5.mono (by have := HBW.out.size; have := hb4.size; omega))⟩
        · have q1 : (rv != 0) = true := by rw [← HRD.out]; simp; omega
          by_cases hst : sa = sb
          · have HK := HK0
            rw [HV0.out (.inr hst), HRD.out] at HK
            have HMZ := Lib.hid hmlt
            have HY := Lib.hid (HS.out _ hb4)
            obtain ⟨y0, y1, y2, y3⟩ := HY.out
            clear hr0 hmlt
            cases sa <;> cases sb <;> first | (exact absurd hst (by decide)) | skip
            all_goals
              clear hst
              go_wp2_with (go_at_call 132; refine (HK.out _).mono ?_; rintro e w4 ⟨rfl, hb5⟩)
              go_ret2
              exact ⟨rfl, (HBW.out.trans (hb4.mono HBW.out.size)).trans (hb5.mono (by have := HBW.out.size; have := hb4.size; omega))⟩
          · have HK := HK1
            rw [HV1.out (by omega) hst] at HK
            have HP3 := HPL
            rw [HPL2.out (by omega) hst, HRD.out] at HP3
            simp only at HP3
            rw [nmV_small _ HS1.out] at HP3
            have HMZ := Lib.hid hmlt
            obtain ⟨y0, y1, y2⟩ := (boxn3 (block_below hb4 (Array.getElem?_eq_some_iff.1 HG2.out).1 HG2.out)).1 |> fun h => And.intro h (And.intro (boxn3 (block_below hb4 (Array.getElem?_eq_some_iff.1 HG2.out).1 HG2.out)).2.1 (boxn3 (block_below hb4 (Array.getElem?_eq_some_iff.1 HG2.out).1 HG2.out)).2.2.1)
            clear hr0 hmlt
            generalize ((xb - xa % xb : Nat) : Int) = dv at HP3 HK
            cases sa <;> cases sb <;> first | (exact absurd rfl hst) | skip
            all_goals
              clear hst
              go_wp2_with (first
                | (go_at_call 131; refine (HP3.out _).mono ?_; rintro e w3 ⟨rfl, hb3⟩; obtain ⟨z0, z1, z2, zf0, zf1, zf2⟩ := boxn3 (block_below hb3 (Array.getElem?_eq_some_iff.1 HR.out).1 HR.out))
                | (go_at_call 132; refine (HK.out _).mono ?_; rintro e w4 ⟨rfl, hb5⟩))
              go_ret2
              first
                | (exact ⟨rfl, below_then (below_set3 (B := pr) (a := .bool false) (b := .int .u64 0) (c := .int .u64 dv) ((HBW.out.trans (hb4.mono HBW.out.size)).trans (hb3.mono (by have := HBW.out.size; have := hb4.size; omega))) (by have := HBW.out.size; omega)) (below_set3 (B := pr) (a := .bool false) (b := .int .u64 0) (c := .int .u64 dv) ((HBW.out.trans (hb4.mono HBW.out.size)).trans (hb3.mono (by have := HBW.out.size; have := hb4.size; omega))) (by have := HBW.out.size; omega)).size hb5⟩)
                | (exact ⟨rfl, below_then (below_set3 (B := pr) (a := .bool true) (b := .int .u64 0) (c := .int .u64 dv) ((HBW.out.trans (hb4.mono HBW.out.size)).trans (hb3.mono (by have := HBW.out.size; have := hb4.size; omega))) (by have := HBW.out.size; omega)) (below_set3 (B := pr) (a := .bool true) (b := .int .u64 0) (c := .int .u64 dv) ((HBW.out.trans (hb4.mono HBW.out.size)).trans (hb3.mono (by have := HBW.out.size; have := hb4.size; omega))) (by have := HBW.out.size; omega)).size hb5⟩)
end Go.Proofs.Ytdflckjnpgbjlaa

/- Walks of the library's insertion sort over terms. Conditions: the row is the call's own. -/
import Derived.Test.YtdflckjnpgbjlaaWl
import Derived.Deep.RegionHeld3
import Derived.Deep.DrawnRows
set_option linter.unusedVariables false
set_option maxRecDepth 20000
set_option linter.unusedSimpArgs false
namespace Go.Proofs.Ytdflckjnpgbjlaa
open Go.RowKit
attribute [local go_sem ↓] Go.wp_at_zero Go.wp_at_succ

theorem cell_of_cells' {W : World} {B o : Nat} {c : Array Value} {t : TypeId} {v : Value} (h : W.heap[B]? = some (.cells c t (0, 0))) (hv : c[o]? = some v) : W.cell? ⟨B, o, none⟩ = some v := by simp [World.cell?, h, hv]
/-- Block g holds terms from its head on; what they lead to is ok, and not g. -/
structure Rw (g cap : Nat) (ok : Nat → Prop) (xs : List Tm) (W : World) : Prop where
  ng : ¬ ok g
  len : xs.length ≤ cap
  lim : cap ≤ maxLen
  cur : ∃ cur : Array Value, W.heap[g]? = some (.cells cur 24 (0, 0)) ∧ cur.size = cap * 4 ∧ ∀ j x, xs[j]? = some x → ∃ u, cur[j * 4]? = some (.int .u8 x.k) ∧ cur[j * 4 + 1]? = some (.string x.s) ∧ cur[j * 4 + 2]? = some (.int .i64 x.n) ∧ cur[j * 4 + 3]? = some u ∧ Kd.tm.S W ok x.l u
theorem Rw.then {g cap : Nat} {ok : Nat → Prop} {xs : List Tm} {W W' : World} (h : Rw g cap ok xs W) (hb : Below W.heap.size W W') : Rw g cap ok xs W' := by
  obtain ⟨h1, h2, h2', cur, h3, h4, h5⟩ := h
  exact ⟨h1, h2, h2', cur, block_below hb (Array.getElem?_eq_some_iff.1 h3).1 h3, h4, fun j x hx => let ⟨u, q0, q1, q2, q3, q4⟩ := h5 j x hx; ⟨u, q0, q1, q2, q3, q4.below hb⟩⟩
theorem Rw.lt {g cap : Nat} {ok : Nat → Prop} {xs : List Tm} {W : World} (h : Rw g cap ok xs W) : g < W.heap.size := by
  obtain ⟨h1, h2, h2', cur, h3, h4, h5⟩ := h; exact (Array.getElem?_eq_some_iff.1 h3).1
theorem Rw.elem {g cap : Nat} {ok : Nat → Prop} {xs : List Tm} {W : World} (h : Rw g cap ok xs W) {j : Nat} (hj : j < xs.length) :
    ∃ u, W.cell? ⟨g, j * 4, none⟩ = some (.int .u8 xs[j].k) ∧ W.cell? ⟨g, j * 4 + 1, none⟩ = some (.string xs[j].s) ∧ W.cell? ⟨g, j * 4 + 2, none⟩ = some (.int .i64 xs[j].n) ∧ W.cell? ⟨g, j * 4 + 3, none⟩ = some u ∧
      W.frozen? ⟨g, j * 4, none⟩ = false ∧ W.frozen? ⟨g, j * 4 + 1, none⟩ = false ∧ W.frozen? ⟨g, j * 4 + 2, none⟩ = false ∧ W.frozen? ⟨g, j * 4 + 3, none⟩ = false ∧ Kd.tm.S W ok xs[j].l u := by
  obtain ⟨h1, h2, h2', cur, h3, h4, h5⟩ := h
  obtain ⟨u, q0, q1, q2, q3, q4⟩ := h5 j xs[j] (List.getElem?_eq_getElem hj)
  have b0 := (Array.getElem?_eq_some_iff.1 q3).1
  refine ⟨u, cell_of_cells' h3 q0, cell_of_cells' h3 q1, cell_of_cells' h3 q2, cell_of_cells' h3 q3, ?_, ?_, ?_, ?_, q4⟩ <;> simp [World.frozen?, h3] <;> omega
theorem Rw.froz {g cap : Nat} {ok : Nat → Prop} {xs : List Tm} {W : World} (h : Rw g cap ok xs W) {j : Nat} (hj : j < xs.length) :
    W.frozen? ⟨g, j * 4, none⟩ = false ∧ W.frozen? ⟨g, j * 4 + 1, none⟩ = false ∧ W.frozen? ⟨g, j * 4 + 2, none⟩ = false ∧ W.frozen? ⟨g, j * 4 + 3, none⟩ = false :=
  let ⟨_, _, _, _, _, f0, f1, f2, f3, _⟩ := h.elem hj
  ⟨f0, f1, f2, f3⟩
theorem Rw.S {g cap : Nat} {ok : Nat → Prop} {xs : List Tm} {W : World} (h : Rw g cap ok xs W) : Kd.tm.S W (fun _ => True) xs (.slice (some ⟨g, 0, none⟩) xs.length cap) := by
  have hh := h
  obtain ⟨h1, h2, h2', cur, h3, h4, h5⟩ := h
  refine ⟨_, cap, rfl, h2, h2', .inr ⟨g, 0, rfl, trivial, fun j x hx => ?_⟩⟩
  obtain ⟨u, q0, q1, q2, q3, q4⟩ := h5 j x hx
  refine ⟨_, TmK_iff.2 ⟨u, rfl, q4.mono (fun _ _ => trivial)⟩, fun i v hv => ?_⟩
  have e : 0 + j * Kd.tm.sz + i = j * 4 + i := by simp [Kd.tm]
  rw [e]
  match i, hv with
  | 0, hv => simp at hv; subst hv; exact cell_of_cells' h3 q0
  | 1, hv => simp at hv; subst hv; exact cell_of_cells' h3 q1
  | 2, hv => simp at hv; subst hv; exact cell_of_cells' h3 q2
  | 3, hv => simp at hv; subst hv; exact cell_of_cells' h3 q3
  | i + 4, hv => simp at hv
theorem set_block {W : World} {g : Nat} {c : Array Value} {t : TypeId} (h : W.heap[g]? = some (.cells c t (0, 0))) (o : Nat) (v : Value) : (W.setCell ⟨g, o, none⟩ v).heap[g]? = some (.cells (c.setIfInBounds o v) t (0, 0)) := by
  simp [World.setCell, Array.getElem?_modify, h]
/-- Four stores. -/
def set4 (W : World) (g o : Nat) (a b c d : Value) : World := (((W.setCell ⟨g, o, none⟩ a).setCell ⟨g, o + 1, none⟩ b).setCell ⟨g, o + 2, none⟩ c).setCell ⟨g, o + 3, none⟩ d
theorem set4_grown (W : World) (g o : Nat) (a b c d : Value) : W.grownBy (set4 W g o a b c d) (some g) :=
  (((grown_set W g o a).trans (grown_set _ g (o + 1) b)).trans (grown_set _ g (o + 2) c)).trans (grown_set _ g (o + 3) d)
theorem Rw.set {g cap : Nat} {ok : Nat → Prop} {xs : List Tm} {W : World} (h : Rw g cap ok xs W) {i : Nat} (hi : i < xs.length) (x : Tm) (u : Value) (hu : Kd.tm.S W ok x.l u) : Rw g cap ok (xs.set i x) (set4 W g (i * 4) (.int .u8 x.k) (.string x.s) (.int .i64 x.n) u) := by
  have hg := set4_grown W g (i * 4) (.int .u8 x.k) (.string x.s) (.int .i64 x.n) u
  obtain ⟨h1, h2, h2', cur, h3, h4, h5⟩ := h
  have hok : ∀ b, ok b → some b ≠ some g := fun b hb e => by injection e with e; subst e; exact h1 hb
  refine ⟨h1, by simpa using h2, h2', _, set_block (set_block (set_block (set_block h3 _ _) _ _) _ _) _ _, by simpa using h4, fun j y hy => ?_⟩
  rw [List.getElem?_set] at hy
  split at hy
  · rename_i hij
    subst hij
    injection hy with hy
    subst hy
    refine ⟨u, ?_, ?_, ?_, ?_, Kd.S.grown hg hok hu⟩
    all_goals simp only [Array.getElem?_setIfInBounds, Array.size_setIfInBounds]
    · rw [if_neg (by omega), if_neg (by omega), if_neg (by omega), if_pos trivial, if_pos (by omega)]
    · rw [if_neg (by omega), if_neg (by omega), if_pos trivial, if_pos (by omega)]
    · rw [if_neg (by omega), if_pos trivial, if_pos (by omega)]
    · rw [if_pos trivial, if_pos (by omega)]
  · rename_i hij
    obtain ⟨v, q0, q1, q2, q3, q4⟩ := h5 j y hy
    refine ⟨v, ?_, ?_, ?_, ?_, Kd.S.grown hg hok q4⟩
    all_goals simp only [Array.getElem?_setIfInBounds, Array.size_setIfInBounds]
    · rw [if_neg (by omega), if_neg (by omega), if_neg (by omega), if_neg (by omega)]; exact q0
    · rw [if_neg (by omega), if_neg (by omega), if_neg (by omega), if_neg (by omega)]; exact q1
    · rw [if_neg (by omega), if_neg (by omega), if_neg (by omega), if_neg (by omega)]; exact q2
    · rw [if_neg (by omega), if_neg (by omega), if_neg (by omega), if_neg (by omega)]; exact q3
/-- The sort, by steps. -/
def insJ : Nat → List Tm → List Tm
  | 0, xs => xs
  | j + 1, xs => if h : j + 1 < xs.length then (if cmpT xs[j + 1] xs[j] < 0 then insJ j ((xs.set (j + 1) xs[j]).set j xs[j + 1]) else xs) else xs
theorem insJ_length : ∀ (j : Nat) (xs : List Tm), (insJ j xs).length = xs.length
  | 0, xs => rfl
  | j + 1, xs => by
    unfold insJ
    split
    · split
      · rw [insJ_length j]; simp
      · rfl
    · rfl
def srt (n : Nat) (xs : List Tm) : List Tm := (List.range n).foldl (fun xs i => insJ i xs) xs
theorem srt_succ (n : Nat) (xs : List Tm) : srt (n + 1) xs = insJ n (srt n xs) := by simp [srt, List.range_succ, List.foldl_append]
theorem srt_length (n : Nat) (xs : List Tm) : (srt n xs).length = xs.length := by
  induction n with
  | zero => rfl
  | succ n ih => rw [srt_succ, insJ_length, ih]
theorem Keeps.then' {T : Nat → Prop} {a b c : World} (h : Keeps T a b) (k : Keeps T b c) : Keeps T a c := h.trans (k.mono (fun i hi => .inl hi))
set_option maxRecDepth 100000 in
set_option maxHeartbeats 8000000 in
theorem insert_c (g cap : Nat) (ok : Nat → Prop) (xs : List Tm) (w : World) (hR : Rw g cap ok xs w) (hn : xs.length ≤ 1000000) :
    Calls Try.prog 151 #[.slice (some ⟨g, 0, none⟩) xs.length cap, .int .i64 0, .int .i64 xs.length, .func (.func 51) #[] #[]] w fun e w' => e = .returned (.tuple #[]) ∧ Rw g cap ok (srt xs.length xs) w' ∧ Keeps (fun k => k = g) w w' := by
  have HR := Lib.hid hR
  obtain ⟨N, hN⟩ : ∃ N, N = xs.length := ⟨_, rfl⟩
  rw [← hN] at hn ⊢
  have hNc : N ≤ cap := by rw [hN]; exact hR.len
  have HNN := Lib.hid hN
  clear hR hN
  go_enter Try.func151, Try.ntmps151
  go_wp2
  go_loopw [8] (fun i wr => ∃ j : Nat, 1 ≤ j ∧ (j ≤ N ∨ j = 1) ∧ i = .int .i64 j ∧ Rw g cap ok (srt j xs) wr ∧ Keeps (fun k => k = g) w wr) (fun i _ => N - (intOf i).toNat)
  case atStart => exact ⟨1, Nat.le_refl _, .inr rfl, rfl, by have := HR.out; simpa [srt, insJ] using this, Keeps.refl _ _⟩
  case round =>
    obtain ⟨i, hi1, hi, rfl, hR, hK⟩ := hrel
    by_cases hlt : i < N
    · have hil : (i : Int) < N := by omega
      obtain ⟨ys, hys⟩ : ∃ ys, ys = srt i xs := ⟨_, rfl⟩
      have hyl : ys.length = N := by rw [hys, srt_length, HNN.out]
      have hys2 : Hid (srt (i + 1) xs = insJ i ys) := Lib.hid (by rw [hys, srt_succ])
      rw [← hys] at hR
      clear hys HR
      go_wp2
      go_loopw [9] (fun q wq => ∃ (j : Nat) (zs : List Tm), j ≤ i ∧ q = .int .i64 j ∧ Hid (zs.length = N) ∧ Hid (insJ j zs = insJ i ys) ∧ Rw g cap ok zs wq ∧ Keeps (fun k => k = g) w wq) (fun q _ => (intOf q).toNat)
      case atStart => exact ⟨i, ys, Nat.le_refl _, rfl, Lib.hid hyl, Lib.hid rfl, hR, hK⟩
      case round =>
        clear hR hK hyl
        obtain ⟨j, zs, hji, rfl, hzl, hins, hR, hK⟩ := hrel
        cases j with
        | zero =>
          have hins' : Hid (zs = insJ i ys) := Lib.hid hins.out
          have HRb := Lib.hid hR
          have HKb := Lib.hid hK
          clear hins hR hK
          go_wp2
          refine wp_region_held_drew (S := (fun W => Rw g cap ok zs W ∧ Keeps (fun k => k = g) w W)) (by kernel_rfl) ?_ (fun hHeld => ?_)
          · exact ⟨HRb.out.then (Below.refl _ _).drew, HKb.out.drew⟩
          change wpAnyH _ .any _ _ _ 17 (Array.replicate 17 false) _ _
          refine wpAnyH_take (i := 0) (oi := ⟨some 18, _, _, _, _, _⟩) (v := ?_) rfl (by kernel_rfl) (by kernel_rfl) (by kernel_rfl) (fun _ _ _ h => h) (Or.inl ⟨by rfl, ?_⟩) (by assumption) ?_
          rotate_left
          · (intro w hSw; (try dsimp only at hSw); go_simp; try (with_reducible rfl))
          (try simp only [Act.put, List.setIfInBounds_toArray, List.set_cons_zero, List.set_cons_succ])
          refine wpAnyH_take (i := 1) (oi := ⟨some 19, _, _, _, _, _⟩) (v := ?_) rfl (by kernel_rfl) (by kernel_rfl) (by kernel_rfl) (fun _ _ _ h => h) (Or.inl ⟨by rfl, ?_⟩) (by assumption) ?_
          rotate_left
          · (intro w hSw; (try dsimp only at hSw); go_simp; try (with_reducible rfl))
          (try simp only [Act.put, List.setIfInBounds_toArray, List.set_cons_zero, List.set_cons_succ])
          refine wpAnyH_take (i := 2) (oi := ⟨some 20, _, _, _, _, _⟩) (v := ?_) rfl (by kernel_rfl) (by kernel_rfl) (by kernel_rfl) (fun _ _ _ h => h) (Or.inl ⟨by rfl, ?_⟩) (by assumption) ?_
          rotate_left
          · (intro w hSw; (try dsimp only at hSw); go_simp; try (with_reducible rfl))
          (try simp only [Act.put, List.setIfInBounds_toArray, List.set_cons_zero, List.set_cons_succ])
          refine wpAnyH_take (i := 3) (oi := ⟨some 21, _, _, _, _, _⟩) (v := ?_) rfl (by kernel_rfl) (by kernel_rfl) (by kernel_rfl) (fun _ _ _ h => h) (Or.inl ⟨by rfl, ?_⟩) (by assumption) ?_
          rotate_left
          · (intro w hSw; (try dsimp only at hSw); go_simp; try (with_reducible rfl))
          (try simp only [Act.put, List.setIfInBounds_toArray, List.set_cons_zero, List.set_cons_succ])
          refine wpAnyH_take (i := 4) (oi := ⟨some 22, _, _, _, _, _⟩) rfl (by kernel_rfl) (by kernel_rfl) (by kernel_rfl) (fun _ _ _ h => h) (Or.inr ⟨by rfl, rfl⟩) (by assumption) ?_
          (try simp only [Act.put, List.setIfInBounds_toArray, List.set_cons_zero, List.set_cons_succ])
          refine wpAnyH_take (i := 5) (oi := ⟨some 23, _, _, _, _, _⟩) rfl (by kernel_rfl) (by kernel_rfl) (by kernel_rfl) (fun _ _ _ h => h) (Or.inr ⟨by rfl, rfl⟩) (by assumption) ?_
          (try simp only [Act.put, List.setIfInBounds_toArray, List.set_cons_zero, List.set_cons_succ])
          refine wpAnyH_take (i := 6) (oi := ⟨some 24, _, _, _, _, _⟩) rfl (by kernel_rfl) (by kernel_rfl) (by kernel_rfl) (fun _ _ _ h => h) (Or.inr ⟨by rfl, rfl⟩) (by assumption) ?_
          (try simp only [Act.put, List.setIfInBounds_toArray, List.set_cons_zero, List.set_cons_succ])
          refine wpAnyH_take (i := 7) (oi := ⟨some 25, _, _, _, _, _⟩) rfl (by kernel_rfl) (by kernel_rfl) (by kernel_rfl) (fun _ _ _ h => h) (Or.inr ⟨by rfl, rfl⟩) (by assumption) ?_
          (try simp only [Act.put, List.setIfInBounds_toArray, List.set_cons_zero, List.set_cons_succ])
          refine wpAnyH_take (i := 8) (oi := ⟨some 26, _, _, _, _, _⟩) rfl (by kernel_rfl) (by kernel_rfl) (by kernel_rfl) (fun _ _ _ h => h) (Or.inr ⟨by rfl, rfl⟩) (by assumption) ?_
          (try simp only [Act.put, List.setIfInBounds_toArray, List.set_cons_zero, List.set_cons_succ])
          refine wpAnyH_take (i := 9) (oi := ⟨some 27, _, _, _, _, _⟩) rfl (by kernel_rfl) (by kernel_rfl) (by kernel_rfl) (fun _ _ _ h => h) (Or.inr ⟨by rfl, rfl⟩) (by assumption) ?_
          (try simp only [Act.put, List.setIfInBounds_toArray, List.set_cons_zero, List.set_cons_succ])
          refine wpAnyH_take (i := 10) (oi := ⟨some 28, _, _, _, _, _⟩) rfl (by kernel_rfl) (by kernel_rfl) (by kernel_rfl) (fun _ _ _ h => h) (Or.inr ⟨by rfl, rfl⟩) (by assumption) ?_
          (try simp only [Act.put, List.setIfInBounds_toArray, List.set_cons_zero, List.set_cons_succ])
          refine wpAnyH_take (i := 11) (oi := ⟨some 29, _, _, _, _, _⟩) rfl (by kernel_rfl) (by kernel_rfl) (by kernel_rfl) (fun _ _ _ h => h) (Or.inr ⟨by rfl, rfl⟩) (by assumption) ?_
          (try simp only [Act.put, List.setIfInBounds_toArray, List.set_cons_zero, List.set_cons_succ])
          refine wpAnyH_take (i := 12) (oi := ⟨some 30, _, _, _, _, _⟩) rfl (by kernel_rfl) (by kernel_rfl) (by kernel_rfl) (fun _ _ _ h => h) (Or.inr ⟨by rfl, rfl⟩) (by assumption) ?_
          (try simp only [Act.put, List.setIfInBounds_toArray, List.set_cons_zero, List.set_cons_succ])
          refine wpAnyH_take (i := 13) (oi := ⟨some 31, _, _, _, _, _⟩) rfl (by kernel_rfl) (by kernel_rfl) (by kernel_rfl) (fun _ _ _ h => h) (Or.inr ⟨by rfl, rfl⟩) (by assumption) ?_
          (try simp only [Act.put, List.setIfInBounds_toArray, List.set_cons_zero, List.set_cons_succ])
          refine wpAnyH_take (i := 14) (oi := ⟨some 32, _, _, _, _, _⟩) rfl (by kernel_rfl) (by kernel_rfl) (by kernel_rfl) (fun _ _ _ h => h) (Or.inr ⟨by rfl, rfl⟩) (by assumption) ?_
          (try simp only [Act.put, List.setIfInBounds_toArray, List.set_cons_zero, List.set_cons_succ])
          refine wpAnyH_take (i := 15) (oi := ⟨some 33, _, _, _, _, _⟩) rfl (by kernel_rfl) (by kernel_rfl) (by kernel_rfl) (fun _ _ _ h => h) (Or.inr ⟨by rfl, rfl⟩) (by assumption) ?_
          (try simp only [Act.put, List.setIfInBounds_toArray, List.set_cons_zero, List.set_cons_succ])
          refine wpAnyH_take (i := 16) (oi := ⟨some 34, _, _, _, _, _⟩) (v := ?_) rfl (by kernel_rfl) (by kernel_rfl) (by kernel_rfl) (fun _ _ _ h => h) (Or.inl ⟨by rfl, ?_⟩) (by assumption) ?_
          rotate_left
          · (intro w hSw; (try dsimp only at hSw); go_simp; try (with_reducible rfl))
          (try simp only [Act.put, List.setIfInBounds_toArray, List.set_cons_zero, List.set_cons_succ])
          refine wpAnyH_done (by kernel_rfl) ?_ _
          have hH := hHeld
          clear hHeld
          go_wp2
          go_roundw
          case rel => exact ⟨i + 1, by omega, .inl (by omega), by go_num, by rw [hys2.out, ← hins'.out]; exact hH.1, hH.2⟩
          case measure => simp [intOf]; omega
        | succ j =>
          have hzl' := hzl.out
          have hj1 : j + 1 < zs.length := by omega
          have hj0 : j < zs.length := by omega
          obtain ⟨u, k0, k1, k2, k3, fk0, fk1, fk2, fk3, k4⟩ := hR.elem hj1
          obtain ⟨v, n0, n1, n2, n3, fn0, fn1, fn2, fn3, n4⟩ := hR.elem hj0
          obtain ⟨uA, uc, rfl⟩ := k4.form
          obtain ⟨vA, vc, rfl⟩ := n4.form
          have hjw : IntKind.i64.wrap (((j + 1 : Nat) : Int) - 1) = j := by rw [IntKind.wrap_i64]; omega
          have hjw2 : IntKind.i64.wrap ((j : Int) + 1 - 1) = j := by rw [IntKind.wrap_i64]; omega
          have hjw3 : IntKind.i64.wrap (j : Int) = j := by rw [IntKind.wrap_i64]; omega
          have q0 : (0 : Int) < (j : Int) + 1 := by omega
          have q1 : (j : Int) + 1 < N := by omega
          have q5 : (0 : Int) ≤ (j : Int) + 1 := by omega
          have q6 : (0 : Int) ≤ (j : Int) := by omega
          have q2 : (j : Int) < N := by omega
          have q3 : (j : Int) < cap := by omega
          have q4 : (j : Int) + 1 < cap := by omega
          have HRb := Lib.hid hR
          have HKb := Lib.hid hK
          have hglt := hR.lt
          have HSW := Lib.hid (fun W (h : Rw g cap ok zs W) (hk : Kd.tm.S W ok zs[j].l (.slice vA zs[j].l.length vc)) (hk' : Kd.tm.S W ok zs[j + 1].l (.slice uA zs[j + 1].l.length uc)) =>
            (h.set hj1 zs[j] _ hk).set (i := j) (by simpa using hj0) zs[j + 1] (.slice uA zs[j + 1].l.length uc) (Kd.S.grown (set4_grown _ _ _ _ _ _ _) (fun b hb e => by injection e with e; subst e; exact h.ng hb) hk'))
          have HI1 : Hid (cmpT zs[j + 1] zs[j] < 0 → insJ j ((zs.set (j + 1) zs[j]).set j zs[j + 1]) = insJ i ys) := Lib.hid (fun h => by rw [← hins.out, insJ, dif_pos hj1, if_pos h])
          have HI2 : Hid (¬ cmpT zs[j + 1] zs[j] < 0 → zs = insJ i ys) := Lib.hid (fun h => by rw [← hins.out, insJ, dif_pos hj1, if_neg h])
          have HZL : Hid (((zs.set (j + 1) zs[j]).set j zs[j + 1]).length = N) := Lib.hid (by simpa using hzl')
          have HZQ := Lib.hid (fun W (h : Rw g cap ok zs W) => And.intro (h.froz hj1) (h.froz hj0))
          have HC := Lib.hid (fun W (h1 : Kd.tm.S W ok zs[j + 1].l (.slice uA zs[j + 1].l.length uc)) (h2 : Kd.tm.S W ok zs[j].l (.slice vA zs[j].l.length vc)) => Compare_c zs[j + 1] zs[j] W ok ok _ _ ⟨_, rfl, h1⟩ ⟨_, rfl, h2⟩)
          clear hR hK hins hzl'
          generalize hxs : (zs.set (j + 1) zs[j]).set j zs[j + 1] = zz at HSW HI1 HZL
          generalize cmpT zs[j + 1] zs[j] = x at HC HI1 HI2
          generalize zs[j + 1] = t at k0 k1 k2 k3 k4 HSW HC
          generalize zs[j] = u at n0 n1 n2 n3 n4 HSW HC
          clear hxs hj1 hj0
          by_cases hx : x < 0
          · have hx' : decide (x < 0) = true := by simpa using hx
            go_wp2
            refine wp_region_held_drew (S := (fun W => W.cell? ⟨g, (j + 1) * 4, none⟩ = some (.int .u8 t.k) ∧ W.cell? ⟨g, (j + 1) * 4 + 1, none⟩ = some (.string t.s) ∧ W.cell? ⟨g, (j + 1) * 4 + 2, none⟩ = some (.int .i64 t.n) ∧ W.cell? ⟨g, (j + 1) * 4 + 3, none⟩ = some (.slice uA t.l.length uc) ∧ W.cell? ⟨g, j * 4, none⟩ = some (.int .u8 u.k) ∧ W.cell? ⟨g, j * 4 + 1, none⟩ = some (.string u.s) ∧ W.cell? ⟨g, j * 4 + 2, none⟩ = some (.int .i64 u.n) ∧ W.cell? ⟨g, j * 4 + 3, none⟩ = some (.slice vA u.l.length vc) ∧ Kd.tm.S W ok t.l (.slice uA t.l.length uc) ∧ Kd.tm.S W ok u.l (.slice vA u.l.length vc) ∧ Rw g cap ok zs W ∧ Keeps (fun k => k = g) w W)) (by kernel_rfl) ?_ (fun hHeld => ?_)
            · exact ⟨k0, k1, k2, k3, n0, n1, n2, n3, k4.below (Below.refl _ wr).drew, n4.below (Below.refl _ wr).drew, HRb.out.then (Below.refl _ _).drew, HKb.out.drew⟩
            change wpAnyH _ .any _ _ _ 17 (Array.replicate 17 false) _ _
            refine wpAnyH_take (i := 0) (oi := ⟨some 18, _, _, _, _, _⟩) (v := ?_) rfl (by kernel_rfl) (by kernel_rfl) (by kernel_rfl) (fun _ _ _ h => h) (Or.inl ⟨by rfl, ?_⟩) (by assumption) ?_
            rotate_left
            · (intro w hSw; (try dsimp only at hSw); go_simp; try (with_reducible rfl))
            (try simp only [Act.put, List.setIfInBounds_toArray, List.set_cons_zero, List.set_cons_succ])
            refine wpAnyH_take (i := 1) (oi := ⟨some 19, _, _, _, _, _⟩) (v := ?_) rfl (by kernel_rfl) (by kernel_rfl) (by kernel_rfl) (fun _ _ _ h => h) (Or.inl ⟨by rfl, ?_⟩) (by assumption) ?_
            rotate_left
            · (intro w hSw; (try dsimp only at hSw); go_simp; try (with_reducible rfl))
            (try simp only [Act.put, List.setIfInBounds_toArray, List.set_cons_zero, List.set_cons_succ])
            refine wpAnyH_take (i := 2) (oi := ⟨some 20, _, _, _, _, _⟩) (v := ?_) rfl (by kernel_rfl) (by kernel_rfl) (by kernel_rfl) (fun _ _ _ h => h) (Or.inl ⟨by rfl, ?_⟩) (by assumption) ?_
            rotate_left
            · (intro w hSw; (try dsimp only at hSw); go_simp; try (with_reducible rfl))
            (try simp only [Act.put, List.setIfInBounds_toArray, List.set_cons_zero, List.set_cons_succ])
            refine wpAnyH_take (i := 3) (oi := ⟨some 21, _, _, _, _, _⟩) (v := ?_) rfl (by kernel_rfl) (by kernel_rfl) (by kernel_rfl) (fun _ _ _ h => h) (Or.inl ⟨by rfl, ?_⟩) (by assumption) ?_
            rotate_left
            · (intro w hSw; (try dsimp only at hSw); go_simp; try (with_reducible rfl))
            (try simp only [Act.put, List.setIfInBounds_toArray, List.set_cons_zero, List.set_cons_succ])
            refine wpAnyH_take (i := 4) (oi := ⟨some 22, _, _, _, _, _⟩) (v := ?_) rfl (by kernel_rfl) (by kernel_rfl) (by kernel_rfl) (fun _ _ _ h => h) (Or.inl ⟨by rfl, ?_⟩) (by assumption) ?_
            rotate_left
            · (intro w hSw; (try dsimp only at hSw); go_simp; try (with_reducible rfl))
            (try simp only [Act.put, List.setIfInBounds_toArray, List.set_cons_zero, List.set_cons_succ])
            refine wpAnyH_take (i := 5) (oi := ⟨some 23, _, _, _, _, _⟩) (v := ?_) rfl (by kernel_rfl) (by kernel_rfl) (by kernel_rfl) (fun _ _ _ h => h) (Or.inl ⟨by rfl, ?_⟩) (by assumption) ?_
            rotate_left
            · (intro w hSw; (try dsimp only at hSw); go_simp; try (with_reducible rfl))
            (try simp only [Act.put, List.setIfInBounds_toArray, List.set_cons_zero, List.set_cons_succ])
            refine wpAnyH_take (i := 6) (oi := ⟨some 24, _, _, _, _, _⟩) (v := ?_) rfl (by kernel_rfl) (by kernel_rfl) (by kernel_rfl) (fun _ _ _ h => h) (Or.inl ⟨by rfl, ?_⟩) (by assumption) ?_
            rotate_left
            · (intro w hSw; (try dsimp only at hSw); go_simp; try (with_reducible rfl))
            (try simp only [Act.put, List.setIfInBounds_toArray, List.set_cons_zero, List.set_cons_succ])
            refine wpAnyH_take (i := 7) (oi := ⟨some 25, _, _, _, _, _⟩) (v := ?_) rfl (by kernel_rfl) (by kernel_rfl) (by kernel_rfl) (fun _ _ _ h => h) (Or.inl ⟨by rfl, ?_⟩) (by assumption) ?_
            rotate_left
            · (intro w hSw; (try dsimp only at hSw); go_simp; try (with_reducible rfl))
            (try simp only [Act.put, List.setIfInBounds_toArray, List.set_cons_zero, List.set_cons_succ])
            refine wpAnyH_take (i := 8) (oi := ⟨some 26, _, _, _, _, _⟩) (v := ?_) rfl (by kernel_rfl) (by kernel_rfl) (by kernel_rfl) (fun _ _ _ h => h) (Or.inl ⟨by rfl, ?_⟩) (by assumption) ?_
            rotate_left
            · (intro w hSw; (try dsimp only at hSw); go_simp; try (with_reducible rfl))
            (try simp only [Act.put, List.setIfInBounds_toArray, List.set_cons_zero, List.set_cons_succ])
            refine wpAnyH_take (i := 9) (oi := ⟨some 27, _, _, _, _, _⟩) (v := ?_) rfl (by kernel_rfl) (by kernel_rfl) (by kernel_rfl) (fun _ _ _ h => h) (Or.inl ⟨by rfl, ?_⟩) (by assumption) ?_
            rotate_left
            · (intro w hSw; (try dsimp only at hSw); go_simp; try (with_reducible rfl))
            (try simp only [Act.put, List.setIfInBounds_toArray, List.set_cons_zero, List.set_cons_succ])
            refine wpAnyH_take (i := 10) (oi := ⟨some 28, _, _, _, _, _⟩) (v := ?_) rfl (by kernel_rfl) (by kernel_rfl) (by kernel_rfl) (fun _ _ _ h => h) (Or.inl ⟨by rfl, ?_⟩) (by assumption) ?_
            rotate_left
            · (intro w hSw; (try dsimp only at hSw); go_simp; try (with_reducible rfl))
            (try simp only [Act.put, List.setIfInBounds_toArray, List.set_cons_zero, List.set_cons_succ])
            refine wpAnyH_take (i := 11) (oi := ⟨some 29, _, _, _, _, _⟩) (v := ?_) rfl (by kernel_rfl) (by kernel_rfl) (by kernel_rfl) (fun _ _ _ h => h) (Or.inl ⟨by rfl, ?_⟩) (by assumption) ?_
            rotate_left
            · (intro w hSw; (try dsimp only at hSw); go_simp; try (with_reducible rfl))
            (try simp only [Act.put, List.setIfInBounds_toArray, List.set_cons_zero, List.set_cons_succ])
            refine wpAnyH_take (i := 12) (oi := ⟨some 30, _, _, _, _, _⟩) (v := ?_) rfl (by kernel_rfl) (by kernel_rfl) (by kernel_rfl) (fun _ _ _ h => h) (Or.inl ⟨by rfl, ?_⟩) (by assumption) ?_
            rotate_left
            · (intro w hSw; (try dsimp only at hSw); go_simp; try (with_reducible rfl))
            (try simp only [Act.put, List.setIfInBounds_toArray, List.set_cons_zero, List.set_cons_succ])
            refine wpAnyH_take (i := 13) (oi := ⟨some 31, _, _, _, _, _⟩) (v := ?_) rfl (by kernel_rfl) (by kernel_rfl) (by kernel_rfl) (fun _ _ _ h => h) (Or.inl ⟨by rfl, ?_⟩) (by assumption) ?_
            rotate_left
            · (intro w hSw; (try dsimp only at hSw); go_simp; try (with_reducible rfl))
            (try simp only [Act.put, List.setIfInBounds_toArray, List.set_cons_zero, List.set_cons_succ])
            refine wpAnyH_ready (rs := [14]) (by kernel_rfl) (by simp) ?_
            refine AllReadyH.cons (o := ⟨some 32, _, _, _, _, _⟩) rfl (fun K hK => ?_) AllReadyH.nil
            go_simp
            refine (HC.out _ hHeld.2.2.2.2.2.2.2.2.1 hHeld.2.2.2.2.2.2.2.2.2.1).mono ?_
            rintro e w9 ⟨rfl, hb9⟩
            go_wp2_with fail
            refine hK.out _ _ (by obtain ⟨q0, q1, q2, q3, q4, q5, q6, q7, q8, q9, qR, qK⟩ := hHeld; exact ⟨held_cell hb9 q0, held_cell hb9 q1, held_cell hb9 q2, held_cell hb9 q3, held_cell hb9 q4, held_cell hb9 q5, held_cell hb9 q6, held_cell hb9 q7, q8.below hb9, q9.below hb9, qR.then hb9, qK.then hb9⟩) (fun hHeld => ?_)
            clear hK K
            (try simp only [Act.put, List.setIfInBounds_toArray, List.set_cons_zero, List.set_cons_succ])
            refine wpAnyH_take (i := 15) (oi := ⟨some 33, _, _, _, _, _⟩) (v := ?_) rfl (by kernel_rfl) (by kernel_rfl) (by kernel_rfl) (fun _ _ _ h => h) (Or.inl ⟨by rfl, ?_⟩) (by assumption) ?_
            rotate_left
            · (intro w hSw; (try dsimp only at hSw); go_simp; try (with_reducible rfl))
            (try simp only [Act.put, List.setIfInBounds_toArray, List.set_cons_zero, List.set_cons_succ])
            refine wpAnyH_take (i := 16) (oi := ⟨some 34, _, _, _, _, _⟩) (v := ?_) rfl (by kernel_rfl) (by kernel_rfl) (by kernel_rfl) (fun _ _ _ h => h) (Or.inl ⟨by rfl, ?_⟩) (by assumption) ?_
            rotate_left
            · (intro w hSw; (try dsimp only at hSw); go_simp; try (with_reducible rfl))
            (try simp only [Act.put, List.setIfInBounds_toArray, List.set_cons_zero, List.set_cons_succ])
            refine wpAnyH_done (by kernel_rfl) ?_ _
            have hH := hHeld
            have h4t := hH.2.2.2.2.2.2.2.2.1
            have h4u := hH.2.2.2.2.2.2.2.2.2.1
            clear hHeld k0 k1 k2 k3 n0 n1 n2 n3 k4 n4 fk0 fk1 fk2 fk3 fn0 fn1 fn2 fn3
            obtain ⟨k0, k1, k2, k3, n0, n1, n2, n3, -, -, hR5, hK5⟩ := hH
            obtain ⟨⟨f4, f5, f6, f7⟩, f0, f1, f2, f3⟩ := HZQ.out _ hR5
            have HR5 := Lib.hid (HSW.out _ hR5 h4u h4t)
            have HK5 := Lib.hid ((hK5.grown (set4_grown _ g ((j + 1) * 4) (.int .u8 u.k) (.string u.s) (.int .i64 u.n) (.slice vA u.l.length vc)) (fun k hk => .inl (by injection hk with hk; exact hk.symm))).grown (set4_grown _ g (j * 4) (.int .u8 t.k) (.string t.s) (.int .i64 t.n) (.slice uA t.l.length uc)) (fun k hk => .inl (by injection hk with hk; exact hk.symm)))
            unfold set4 at HR5 HK5
            clear hR5 hK5 h4t h4u HRb HKb
            go_wp2
            refine wp_region_held_drew (S := (fun _ => True)) (by kernel_rfl) ?_ (fun hHeld => ?_)
            · trivial
            change wpAnyH _ .any _ _ _ 18 (Array.replicate 18 false) _ _
            refine wpAnyH_take (i := 0) (oi := ⟨some 37, _, _, _, _, _⟩) (v := ?_) rfl (by kernel_rfl) (by kernel_rfl) (by kernel_rfl) (fun _ _ _ h => h) (Or.inl ⟨by rfl, ?_⟩) (by assumption) ?_
            rotate_left
            · (intro w hSw; (try dsimp only at hSw); go_simp; try (with_reducible rfl))
            (try simp only [Act.put, List.setIfInBounds_toArray, List.set_cons_zero, List.set_cons_succ])
            refine wpAnyH_take (i := 1) (oi := ⟨some 38, _, _, _, _, _⟩) (v := ?_) rfl (by kernel_rfl) (by kernel_rfl) (by kernel_rfl) (fun _ _ _ h => h) (Or.inl ⟨by rfl, ?_⟩) (by assumption) ?_
            rotate_left
            · (intro w hSw; (try dsimp only at hSw); go_simp; try (with_reducible rfl))
            (try simp only [Act.put, List.setIfInBounds_toArray, List.set_cons_zero, List.set_cons_succ])
            refine wpAnyH_take (i := 2) (oi := ⟨some 39, _, _, _, _, _⟩) (v := ?_) rfl (by kernel_rfl) (by kernel_rfl) (by kernel_rfl) (fun _ _ _ h => h) (Or.inl ⟨by rfl, ?_⟩) (by assumption) ?_
            rotate_left
            · (intro w hSw; (try dsimp only at hSw); go_simp; try (with_reducible rfl))
            (try simp only [Act.put, List.setIfInBounds_toArray, List.set_cons_zero, List.set_cons_succ])
            refine wpAnyH_take (i := 3) (oi := ⟨some 40, _, _, _, _, _⟩) (v := ?_) rfl (by kernel_rfl) (by kernel_rfl) (by kernel_rfl) (fun _ _ _ h => h) (Or.inl ⟨by rfl, ?_⟩) (by assumption) ?_
            rotate_left
            · (intro w hSw; (try dsimp only at hSw); go_simp; try (with_reducible rfl))
            (try simp only [Act.put, List.setIfInBounds_toArray, List.set_cons_zero, List.set_cons_succ])
            refine wpAnyH_take (i := 4) (oi := ⟨some 41, _, _, _, _, _⟩) (v := ?_) rfl (by kernel_rfl) (by kernel_rfl) (by kernel_rfl) (fun _ _ _ h => h) (Or.inl ⟨by rfl, ?_⟩) (by assumption) ?_
            rotate_left
            · (intro w hSw; (try dsimp only at hSw); go_simp; try (with_reducible rfl))
            (try simp only [Act.put, List.setIfInBounds_toArray, List.set_cons_zero, List.set_cons_succ])
            refine wpAnyH_take (i := 5) (oi := ⟨some 42, _, _, _, _, _⟩) (v := ?_) rfl (by kernel_rfl) (by kernel_rfl) (by kernel_rfl) (fun _ _ _ h => h) (Or.inl ⟨by rfl, ?_⟩) (by assumption) ?_
            rotate_left
            · (intro w hSw; (try dsimp only at hSw); go_simp; try (with_reducible rfl))
            (try simp only [Act.put, List.setIfInBounds_toArray, List.set_cons_zero, List.set_cons_succ])
            refine wpAnyH_take (i := 6) (oi := ⟨some 43, _, _, _, _, _⟩) (v := ?_) rfl (by kernel_rfl) (by kernel_rfl) (by kernel_rfl) (fun _ _ _ h => h) (Or.inl ⟨by rfl, ?_⟩) (by assumption) ?_
            rotate_left
            · (intro w hSw; (try dsimp only at hSw); go_simp; try (with_reducible rfl))
            (try simp only [Act.put, List.setIfInBounds_toArray, List.set_cons_zero, List.set_cons_succ])
            refine wpAnyH_take (i := 7) (oi := ⟨some 44, _, _, _, _, _⟩) (v := ?_) rfl (by kernel_rfl) (by kernel_rfl) (by kernel_rfl) (fun _ _ _ h => h) (Or.inl ⟨by rfl, ?_⟩) (by assumption) ?_
            rotate_left
            · (intro w hSw; (try dsimp only at hSw); go_simp; try (with_reducible rfl))
            (try simp only [Act.put, List.setIfInBounds_toArray, List.set_cons_zero, List.set_cons_succ])
            refine wpAnyH_take (i := 8) (oi := ⟨some 45, _, _, _, _, _⟩) (v := ?_) rfl (by kernel_rfl) (by kernel_rfl) (by kernel_rfl) (fun _ _ _ h => h) (Or.inl ⟨by rfl, ?_⟩) (by assumption) ?_
            rotate_left
            · (intro w hSw; (try dsimp only at hSw); go_simp; try (with_reducible rfl))
            (try simp only [Act.put, List.setIfInBounds_toArray, List.set_cons_zero, List.set_cons_succ])
            refine wpAnyH_take (i := 10) (oi := ⟨some 47, _, _, _, _, _⟩) (v := ?_) rfl (by kernel_rfl) (by kernel_rfl) (by kernel_rfl) (fun _ _ _ h => h) (Or.inl ⟨by rfl, ?_⟩) (by assumption) ?_
            rotate_left
            · (intro w hSw; (try dsimp only at hSw); go_simp; try (with_reducible rfl))
            (try simp only [Act.put, List.setIfInBounds_toArray, List.set_cons_zero, List.set_cons_succ])
            refine wpAnyH_take (i := 11) (oi := ⟨some 48, _, _, _, _, _⟩) (v := ?_) rfl (by kernel_rfl) (by kernel_rfl) (by kernel_rfl) (fun _ _ _ h => h) (Or.inl ⟨by rfl, ?_⟩) (by assumption) ?_
            rotate_left
            · (intro w hSw; (try dsimp only at hSw); go_simp; try (with_reducible rfl))
            (try simp only [Act.put, List.setIfInBounds_toArray, List.set_cons_zero, List.set_cons_succ])
            refine wpAnyH_take (i := 12) (oi := ⟨some 49, _, _, _, _, _⟩) (v := ?_) rfl (by kernel_rfl) (by kernel_rfl) (by kernel_rfl) (fun _ _ _ h => h) (Or.inl ⟨by rfl, ?_⟩) (by assumption) ?_
            rotate_left
            · (intro w hSw; (try dsimp only at hSw); go_simp; try (with_reducible rfl))
            (try simp only [Act.put, List.setIfInBounds_toArray, List.set_cons_zero, List.set_cons_succ])
            refine wpAnyH_ready (rs := [9, 13]) (by kernel_rfl) (by simp) ?_
            refine AllReadyH.cons (o := ⟨some 46, _, _, _, _, _⟩) rfl (fun K hK => ?_) (AllReadyH.cons (o := ⟨some 50, _, _, _, _, _⟩) rfl (fun K hK => ?_) AllReadyH.nil)
            · go_simp
              refine hK.out _ _ trivial (fun hHeld => ?_)
              clear hK K
              (try simp only [Act.put, List.setIfInBounds_toArray, List.set_cons_zero, List.set_cons_succ])
              refine wpAnyH_ready (rs := [13]) (by kernel_rfl) (by simp) ?_
              refine AllReadyH.cons (o := ⟨some 50, _, _, _, _, _⟩) rfl (fun K hK => ?_) AllReadyH.nil
              go_simp
              refine hK.out _ _ trivial (fun hHeld => ?_)
              clear hK K
              (try simp only [Act.put, List.setIfInBounds_toArray, List.set_cons_zero, List.set_cons_succ])
              refine wpAnyH_take (i := 14) (oi := ⟨some 51, _, _, _, _, _⟩) (v := ?_) rfl (by kernel_rfl) (by kernel_rfl) (by kernel_rfl) (fun _ _ _ h => h) (Or.inl ⟨by rfl, ?_⟩) (by assumption) ?_
              rotate_left
              · (intro w hSw; (try dsimp only at hSw); go_simp; try (with_reducible rfl))
              (try simp only [Act.put, List.setIfInBounds_toArray, List.set_cons_zero, List.set_cons_succ])
              refine wpAnyH_ready (rs := [15]) (by kernel_rfl) (by simp) ?_
              refine AllReadyH.cons (o := ⟨none, _, _, _, _, _⟩) rfl (fun K hK => ?_) AllReadyH.nil
              go_simp
              refine hK.out _ _ trivial (fun hHeld => ?_)
              clear hK K
              (try simp only [Act.put, List.setIfInBounds_toArray, List.set_cons_zero, List.set_cons_succ])
              refine wpAnyH_take (i := 16) (oi := ⟨some 52, _, _, _, _, _⟩) (v := ?_) rfl (by kernel_rfl) (by kernel_rfl) (by kernel_rfl) (fun _ _ _ h => h) (Or.inl ⟨by rfl, ?_⟩) (by assumption) ?_
              rotate_left
              · (intro w hSw; (try dsimp only at hSw); go_simp; try (with_reducible rfl))
              (try simp only [Act.put, List.setIfInBounds_toArray, List.set_cons_zero, List.set_cons_succ])
              refine wpAnyH_ready (rs := [17]) (by kernel_rfl) (by simp) ?_
              refine AllReadyH.cons (o := ⟨none, _, _, _, _, _⟩) rfl (fun K hK => ?_) AllReadyH.nil
              go_simp
              refine hK.out _ _ trivial (fun hHeld => ?_)
              clear hK K
              (try simp only [Act.put, List.setIfInBounds_toArray, List.set_cons_zero, List.set_cons_succ])
              refine wpAnyH_done (by kernel_rfl) ?_ _
              go_wp2
              exact ⟨⟨j, zz, by omega, rfl, HZL, Lib.hid (HI1.out hx), HR5.out.then (Below.refl _ _).drew, HK5.out.drew⟩, by simp [intOf]⟩
            · go_simp
              refine hK.out _ _ trivial (fun hHeld => ?_)
              clear hK K
              (try simp only [Act.put, List.setIfInBounds_toArray, List.set_cons_zero, List.set_cons_succ])
              refine wpAnyH_ready (rs := [9]) (by kernel_rfl) (by simp) ?_
              refine AllReadyH.cons (o := ⟨some 46, _, _, _, _, _⟩) rfl (fun K hK => ?_) AllReadyH.nil
              go_simp
              refine hK.out _ _ trivial (fun hHeld => ?_)
              clear hK K
              (try simp only [Act.put, List.setIfInBounds_toArray, List.set_cons_zero, List.set_cons_succ])
              refine wpAnyH_take (i := 14) (oi := ⟨some 51, _, _, _, _, _⟩) (v := ?_) rfl (by kernel_rfl) (by kernel_rfl) (by kernel_rfl) (fun _ _ _ h => h) (Or.inl ⟨by rfl, ?_⟩) (by assumption) ?_
              rotate_left
              · (intro w hSw; (try dsimp only at hSw); go_simp; try (with_reducible rfl))
              (try simp only [Act.put, List.setIfInBounds_toArray, List.set_cons_zero, List.set_cons_succ])
              refine wpAnyH_ready (rs := [15]) (by kernel_rfl) (by simp) ?_
              refine AllReadyH.cons (o := ⟨none, _, _, _, _, _⟩) rfl (fun K hK => ?_) AllReadyH.nil
              go_simp
              refine hK.out _ _ trivial (fun hHeld => ?_)
              clear hK K
              (try simp only [Act.put, List.setIfInBounds_toArray, List.set_cons_zero, List.set_cons_succ])
              refine wpAnyH_take (i := 16) (oi := ⟨some 52, _, _, _, _, _⟩) (v := ?_) rfl (by kernel_rfl) (by kernel_rfl) (by kernel_rfl) (fun _ _ _ h => h) (Or.inl ⟨by rfl, ?_⟩) (by assumption) ?_
              rotate_left
              · (intro w hSw; (try dsimp only at hSw); go_simp; try (with_reducible rfl))
              (try simp only [Act.put, List.setIfInBounds_toArray, List.set_cons_zero, List.set_cons_succ])
              refine wpAnyH_ready (rs := [17]) (by kernel_rfl) (by simp) ?_
              refine AllReadyH.cons (o := ⟨none, _, _, _, _, _⟩) rfl (fun K hK => ?_) AllReadyH.nil
              go_simp
              refine hK.out _ _ trivial (fun hHeld => ?_)
              clear hK K
              (try simp only [Act.put, List.setIfInBounds_toArray, List.set_cons_zero, List.set_cons_succ])
              refine wpAnyH_done (by kernel_rfl) ?_ _
              go_wp2
              exact ⟨⟨j, zz, by omega, rfl, HZL, Lib.hid (HI1.out hx), HR5.out.then (Below.refl _ _).drew, HK5.out.drew⟩, by simp [intOf]⟩
          · have hx' : decide (x < 0) = false := by simpa using hx
            go_wp2
            refine wp_region_held_drew (S := (fun W => W.cell? ⟨g, (j + 1) * 4, none⟩ = some (.int .u8 t.k) ∧ W.cell? ⟨g, (j + 1) * 4 + 1, none⟩ = some (.string t.s) ∧ W.cell? ⟨g, (j + 1) * 4 + 2, none⟩ = some (.int .i64 t.n) ∧ W.cell? ⟨g, (j + 1) * 4 + 3, none⟩ = some (.slice uA t.l.length uc) ∧ W.cell? ⟨g, j * 4, none⟩ = some (.int .u8 u.k) ∧ W.cell? ⟨g, j * 4 + 1, none⟩ = some (.string u.s) ∧ W.cell? ⟨g, j * 4 + 2, none⟩ = some (.int .i64 u.n) ∧ W.cell? ⟨g, j * 4 + 3, none⟩ = some (.slice vA u.l.length vc) ∧ Kd.tm.S W ok t.l (.slice uA t.l.length uc) ∧ Kd.tm.S W ok u.l (.slice vA u.l.length vc) ∧ Rw g cap ok zs W ∧ Keeps (fun k => k = g) w W)) (by kernel_rfl) ?_ (fun hHeld => ?_)
            · exact ⟨k0, k1, k2, k3, n0, n1, n2, n3, k4.below (Below.refl _ wr).drew, n4.below (Below.refl _ wr).drew, HRb.out.then (Below.refl _ _).drew, HKb.out.drew⟩
            change wpAnyH _ .any _ _ _ 17 (Array.replicate 17 false) _ _
            refine wpAnyH_take (i := 0) (oi := ⟨some 18, _, _, _, _, _⟩) (v := ?_) rfl (by kernel_rfl) (by kernel_rfl) (by kernel_rfl) (fun _ _ _ h => h) (Or.inl ⟨by rfl, ?_⟩) (by assumption) ?_
            rotate_left
            · (intro w hSw; (try dsimp only at hSw); go_simp; try (with_reducible rfl))
            (try simp only [Act.put, List.setIfInBounds_toArray, List.set_cons_zero, List.set_cons_succ])
            refine wpAnyH_take (i := 1) (oi := ⟨some 19, _, _, _, _, _⟩) (v := ?_) rfl (by kernel_rfl) (by kernel_rfl) (by kernel_rfl) (fun _ _ _ h => h) (Or.inl ⟨by rfl, ?_⟩) (by assumption) ?_
            rotate_left
            · (intro w hSw; (try dsimp only at hSw); go_simp; try (with_reducible rfl))
            (try simp only [Act.put, List.setIfInBounds_toArray, List.set_cons_zero, List.set_cons_succ])
            refine wpAnyH_take (i := 2) (oi := ⟨some 20, _, _, _, _, _⟩) (v := ?_) rfl (by kernel_rfl) (by kernel_rfl) (by kernel_rfl) (fun _ _ _ h => h) (Or.inl ⟨by rfl, ?_⟩) (by assumption) ?_
            rotate_left
            · (intro w hSw; (try dsimp only at hSw); go_simp; try (with_reducible rfl))
            (try simp only [Act.put, List.setIfInBounds_toArray, List.set_cons_zero, List.set_cons_succ])
            refine wpAnyH_take (i := 3) (oi := ⟨some 21, _, _, _, _, _⟩) (v := ?_) rfl (by kernel_rfl) (by kernel_rfl) (by kernel_rfl) (fun _ _ _ h => h) (Or.inl ⟨by rfl, ?_⟩) (by assumption) ?_
            rotate_left
            · (intro w hSw; (try dsimp only at hSw); go_simp; try (with_reducible rfl))
            (try simp only [Act.put, List.setIfInBounds_toArray, List.set_cons_zero, List.set_cons_succ])
            refine wpAnyH_take (i := 4) (oi := ⟨some 22, _, _, _, _, _⟩) (v := ?_) rfl (by kernel_rfl) (by kernel_rfl) (by kernel_rfl) (fun _ _ _ h => h) (Or.inl ⟨by rfl, ?_⟩) (by assumption) ?_
            rotate_left
            · (intro w hSw; (try dsimp only at hSw); go_simp; try (with_reducible rfl))
            (try simp only [Act.put, List.setIfInBounds_toArray, List.set_cons_zero, List.set_cons_succ])
            refine wpAnyH_take (i := 5) (oi := ⟨some 23, _, _, _, _, _⟩) (v := ?_) rfl (by kernel_rfl) (by kernel_rfl) (by kernel_rfl) (fun _ _ _ h => h) (Or.inl ⟨by rfl, ?_⟩) (by assumption) ?_
            rotate_left
            · (intro w hSw; (try dsimp only at hSw); go_simp; try (with_reducible rfl))
            (try simp only [Act.put, List.setIfInBounds_toArray, List.set_cons_zero, List.set_cons_succ])
            refine wpAnyH_take (i := 6) (oi := ⟨some 24, _, _, _, _, _⟩) (v := ?_) rfl (by kernel_rfl) (by kernel_rfl) (by kernel_rfl) (fun _ _ _ h => h) (Or.inl ⟨by rfl, ?_⟩) (by assumption) ?_
            rotate_left
            · (intro w hSw; (try dsimp only at hSw); go_simp; try (with_reducible rfl))
            (try simp only [Act.put, List.setIfInBounds_toArray, List.set_cons_zero, List.set_cons_succ])
            refine wpAnyH_take (i := 7) (oi := ⟨some 25, _, _, _, _, _⟩) (v := ?_) rfl (by kernel_rfl) (by kernel_rfl) (by kernel_rfl) (fun _ _ _ h => h) (Or.inl ⟨by rfl, ?_⟩) (by assumption) ?_
            rotate_left
            · (intro w hSw; (try dsimp only at hSw); go_simp; try (with_reducible rfl))
            (try simp only [Act.put, List.setIfInBounds_toArray, List.set_cons_zero, List.set_cons_succ])
            refine wpAnyH_take (i := 8) (oi := ⟨some 26, _, _, _, _, _⟩) (v := ?_) rfl (by kernel_rfl) (by kernel_rfl) (by kernel_rfl) (fun _ _ _ h => h) (Or.inl ⟨by rfl, ?_⟩) (by assumption) ?_
            rotate_left
            · (intro w hSw; (try dsimp only at hSw); go_simp; try (with_reducible rfl))
            (try simp only [Act.put, List.setIfInBounds_toArray, List.set_cons_zero, List.set_cons_succ])
            refine wpAnyH_take (i := 9) (oi := ⟨some 27, _, _, _, _, _⟩) (v := ?_) rfl (by kernel_rfl) (by kernel_rfl) (by kernel_rfl) (fun _ _ _ h => h) (Or.inl ⟨by rfl, ?_⟩) (by assumption) ?_
            rotate_left
            · (intro w hSw; (try dsimp only at hSw); go_simp; try (with_reducible rfl))
            (try simp only [Act.put, List.setIfInBounds_toArray, List.set_cons_zero, List.set_cons_succ])
            refine wpAnyH_take (i := 10) (oi := ⟨some 28, _, _, _, _, _⟩) (v := ?_) rfl (by kernel_rfl) (by kernel_rfl) (by kernel_rfl) (fun _ _ _ h => h) (Or.inl ⟨by rfl, ?_⟩) (by assumption) ?_
            rotate_left
            · (intro w hSw; (try dsimp only at hSw); go_simp; try (with_reducible rfl))
            (try simp only [Act.put, List.setIfInBounds_toArray, List.set_cons_zero, List.set_cons_succ])
            refine wpAnyH_take (i := 11) (oi := ⟨some 29, _, _, _, _, _⟩) (v := ?_) rfl (by kernel_rfl) (by kernel_rfl) (by kernel_rfl) (fun _ _ _ h => h) (Or.inl ⟨by rfl, ?_⟩) (by assumption) ?_
            rotate_left
            · (intro w hSw; (try dsimp only at hSw); go_simp; try (with_reducible rfl))
            (try simp only [Act.put, List.setIfInBounds_toArray, List.set_cons_zero, List.set_cons_succ])
            refine wpAnyH_take (i := 12) (oi := ⟨some 30, _, _, _, _, _⟩) (v := ?_) rfl (by kernel_rfl) (by kernel_rfl) (by kernel_rfl) (fun _ _ _ h => h) (Or.inl ⟨by rfl, ?_⟩) (by assumption) ?_
            rotate_left
            · (intro w hSw; (try dsimp only at hSw); go_simp; try (with_reducible rfl))
            (try simp only [Act.put, List.setIfInBounds_toArray, List.set_cons_zero, List.set_cons_succ])
            refine wpAnyH_take (i := 13) (oi := ⟨some 31, _, _, _, _, _⟩) (v := ?_) rfl (by kernel_rfl) (by kernel_rfl) (by kernel_rfl) (fun _ _ _ h => h) (Or.inl ⟨by rfl, ?_⟩) (by assumption) ?_
            rotate_left
            · (intro w hSw; (try dsimp only at hSw); go_simp; try (with_reducible rfl))
            (try simp only [Act.put, List.setIfInBounds_toArray, List.set_cons_zero, List.set_cons_succ])
            refine wpAnyH_ready (rs := [14]) (by kernel_rfl) (by simp) ?_
            refine AllReadyH.cons (o := ⟨some 32, _, _, _, _, _⟩) rfl (fun K hK => ?_) AllReadyH.nil
            go_simp
            refine (HC.out _ hHeld.2.2.2.2.2.2.2.2.1 hHeld.2.2.2.2.2.2.2.2.2.1).mono ?_
            rintro e w9 ⟨rfl, hb9⟩
            go_wp2_with fail
            refine hK.out _ _ (by obtain ⟨q0, q1, q2, q3, q4, q5, q6, q7, q8, q9, qR, qK⟩ := hHeld; exact ⟨held_cell hb9 q0, held_cell hb9 q1, held_cell hb9 q2, held_cell hb9 q3, held_cell hb9 q4, held_cell hb9 q5, held_cell hb9 q6, held_cell hb9 q7, q8.below hb9, q9.below hb9, qR.then hb9, qK.then hb9⟩) (fun hHeld => ?_)
            clear hK K
            (try simp only [Act.put, List.setIfInBounds_toArray, List.set_cons_zero, List.set_cons_succ])
            refine wpAnyH_take (i := 15) (oi := ⟨some 33, _, _, _, _, _⟩) (v := ?_) rfl (by kernel_rfl) (by kernel_rfl) (by kernel_rfl) (fun _ _ _ h => h) (Or.inl ⟨by rfl, ?_⟩) (by assumption) ?_
            rotate_left
            · (intro w hSw; (try dsimp only at hSw); go_simp; try (with_reducible rfl))
            (try simp only [Act.put, List.setIfInBounds_toArray, List.set_cons_zero, List.set_cons_succ])
            refine wpAnyH_take (i := 16) (oi := ⟨some 34, _, _, _, _, _⟩) (v := ?_) rfl (by kernel_rfl) (by kernel_rfl) (by kernel_rfl) (fun _ _ _ h => h) (Or.inl ⟨by rfl, ?_⟩) (by assumption) ?_
            rotate_left
            · (intro w hSw; (try dsimp only at hSw); go_simp; try (with_reducible rfl))
            (try simp only [Act.put, List.setIfInBounds_toArray, List.set_cons_zero, List.set_cons_succ])
            refine wpAnyH_done (by kernel_rfl) ?_ _
            have hH := hHeld
            clear hHeld
            go_wp2
            go_roundw
            case rel => exact ⟨i + 1, by omega, .inl (by omega), by go_num, by rw [hys2.out, ← HI2.out hx]; exact hH.2.2.2.2.2.2.2.2.2.2.1, hH.2.2.2.2.2.2.2.2.2.2.2⟩
            case measure => simp [intOf]; omega
    · have hiN : i = N ∨ (i = 1 ∧ N = 0) := by omega
      have HSR : Hid (srt i xs = srt N xs) := Lib.hid (by
        rcases hiN with rfl | ⟨rfl, h0⟩
        · rfl
        · rw [h0]; simp [srt, insJ])
      clear HR
      go_wp2
      go_end0
      exact ⟨rfl, by rw [← HSR.out]; exact hR, hK⟩
end Go.Proofs.Ytdflckjnpgbjlaa

/- Sizes and depths by the iterator. Conditions: the arguments read; terms of at most a million nodes. -/
import Derived.Test.YtgoeglahmlpmeaaW6
set_option linter.unusedVariables false
set_option linter.unusedSimpArgs false
namespace Go.Proofs.Ytgoeglahmlpmeaa
open Go.RowKit Go.Shelf
attribute [local go_sem] Oper.semAt_some

set_option maxHeartbeats 1000000 in
theorem nodes1_stops (n n₀ Bt : Nat) (t : Tm) (v : Value) (w : World) (hn₀ : n₀ ≤ w.heap.size) (hv : TmV w (fun b => b < n₀) t v) (hz : t.siz ≤ 1000000)
    (hb : ∀ A c, v = .agg #[.int .u8 t.k, .string t.s, .int .i64 t.n, .slice A t.l.length c] → w.heap[Bt]? = some (.cells #[.int .u8 t.k, .string t.s, .int .i64 t.n, .slice A t.l.length c] 26 (0, 0))) :
    SeqStopsK Fence.wide n Try.prog 71 #[.pointer (some ⟨Bt, 0, none⟩)] Nd.vals (KpT n₀) (fun xs => xs.map Nd.p = t.nodes 1) (fun pre => pre.map Nd.p <+: t.nodes 1) t.siz w := by
  intro l J Jx W hW hJ hJx hY h0
  obtain ⟨u, hvu, A, c, hu, hl, hc, hA⟩ := hv
  subst hu
  have hbt := hb A c hvu
  have hbW : W.heap[Bt]? = _ := block_below hW (Array.getElem?_eq_some_iff.1 hbt).1 hbt
  obtain ⟨c0, c1, c2, c3, -, -, -, -⟩ := box4 hbW
  have hV : TmV W (fun b => b < n₀) t (.agg #[.int .u8 t.k, .string t.s, .int .i64 t.n, .slice A t.l.length c]) := tmv_below (hW.mono hn₀) ⟨_, rfl, A, c, rfl, hl, hc, hA⟩
  have HW := Lib.hid (seqWalk l n₀ t.siz J Jx W.heap.size hJ (fun m pre x W1 hj hlt => YieldAt.any m (hY pre x W1 hj hlt)) t (n - 1) 1 _ [] W hV h0 (Nat.le_trans hn₀ hW.size) (by simp) (by omega))
  clear hY hA
  refine callsIn_of_wp Try.func71 rfl trivial ?_ rfl
  simp only [Try.ntmps71, List.size_toArray, List.length_cons, List.length_nil, Nat.reduceAdd, Nat.reduceSub, Array.replicate_succ, Array.replicate_zero, List.push_toArray, List.append_toArray, List.nil_append, List.cons_append]
  gi_wp2_with (refine ⟨trivial, wide_room _, ?_⟩; gi_at_call 72; refine HW.out.mono ?_; clear HW; rintro e W1 (⟨rfl, ⟨xs, hxs, hJ1⟩, hk1⟩ | ⟨rfl, xs, hxs, hx1⟩))
  · go_end0
    exact ⟨⟨_, rfl⟩, .inl ⟨xs, hxs, by simpa using hJ1⟩⟩
  · go_end0
    exact ⟨⟨_, rfl⟩, .inr ⟨xs, hxs, by simpa using hx1⟩⟩

/-- 'nodes(t)': the term is boxed; the function value captures the box. -/
theorem nodes_in (n : Nat) (k q : Int) (s : ByteArray) (A : Option Addr) (m c : Nat) (w : World) :
    CallsIn Fence.wide n Try.prog 47 #[.agg #[.int .u8 k, .string s, .int .i64 q, .slice A m c]] w fun e w' => e = .returned (.func (.func 71) #[] #[.pointer (some ⟨w.heap.size, 0, none⟩)]) ∧ w' = w.alloc (.cells #[.int .u8 k, .string s, .int .i64 q, .slice A m c] 26) := by
  refine callsIn_of_wp Try.func47 rfl trivial ?_ rfl
  simp only [Try.ntmps47, List.size_toArray, List.length_cons, List.length_nil, Nat.reduceAdd, Nat.reduceSub, Array.replicate_succ, Array.replicate_zero, List.push_toArray, List.append_toArray, List.nil_append, List.cons_append]
  gi_wp2
  go_ret
  exact ⟨rfl, rfl⟩

theorem boxed_grown {w W : World} {B : Nat} {t : TypeId} {v : Value} (h : Boxed w B t v) (hb : Below w.heap.size w W) : Boxed W B t v := block_below hb h.lt h

/-- A store into a box that holds no term. -/
theorem kpT_set {n₀ : Nat} {W : World} {B : Nat} {ty : TypeId} {v : Value} (hn : n₀ ≤ W.heap.size) (hb : Boxed W B ty v) (hty : ty ≠ 26) (hB : n₀ ≤ B) (u : Value) : KpT n₀ W (W.setCell ⟨B, 0, none⟩ u) :=
  ⟨(Below.refl n₀ W).setCell (p := ⟨B, 0, none⟩) hB u, fun k c hk => (Below.heap_setCell W _ u k (fun e => by
    have e' : k = B := e
    subst e'
    rw [show W.heap[k]? = _ from hb] at hk
    injection hk with hk
    injection hk with _ hk
    exact hty hk)).trans hk⟩
set_option maxRecDepth 100000 in
set_option maxHeartbeats 2000000 in
theorem termSize_in (n : Nat) (hn : 3 ≤ n) (t : Tm) (v : Value) (w : World) (ok : Nat → Prop) (hv : TmV w ok t v) (hz : t.siz ≤ 1000000) :
    CallsIn Fence.wide n Try.prog 26 #[v] w fun e w' => e = .returned (.int .i64 t.siz) ∧ Below w.heap.size w w' := by
  have h1 : 1 ≤ n := by omega
  have hv0 : TmV w (fun b => b < w.heap.size) t v := (TmV.bound hv).mono (fun _ h => h.2)
  have hv1 := hv0
  obtain ⟨u, rfl, A, c, rfl, hl, hc, hA⟩ := hv0
  clear hA
  obtain ⟨O, hO⟩ : ∃ O : Obj, O = .cells #[.int .u8 t.k, .string t.s, .int .i64 t.n, .slice A t.l.length c] 26 := ⟨_, rfl⟩
  refine callsIn_of_wp_marks Try.func26 rfl trivial ?_ rfl
  simp only [Try.ntmps26, List.size_toArray, List.length_cons, List.length_nil, Nat.reduceAdd, Nat.reduceSub, Array.replicate_succ, Array.replicate_zero, List.push_toArray, List.append_toArray, List.nil_append, List.cons_append]
  gi_wp2_with (refine ⟨trivial, ?_⟩; gi_at_call 47; refine (nodes_in (n - 1) _ _ _ _ _ _ _).mono ?_; rintro e w' ⟨rfl, rfl⟩)
  have hs0 : Below w.heap.size w (w.alloc O) := (Below.refl _ w).alloc (Nat.le_refl _) _
  have hs1 : Below w.heap.size w ((w.alloc O).alloc (.cells #[.int .i64 0] 3)) := hs0.alloc (by simp) _
  have hs2 : Below w.heap.size w (((w.alloc O).alloc (.cells #[.int .i64 0] 3)).alloc O) := hs1.alloc (by simp; omega) _
  have hbx : Boxed (((w.alloc O).alloc (.cells #[.int .i64 0] 3)).alloc O) (w.heap.size + 1) 3 (.int .i64 ((0 : Nat) : Int)) := by
    have := Boxed.new (w.alloc O) 3 (.int .i64 ((0 : Nat) : Int))
    rw [World.size_alloc] at this
    exact this.alloc O
  subst hO
  refine wpIn_rangeFunc_ownF rfl h1 (gf := 71) (lb := #[.pointer (some ⟨w.heap.size + 1 + 1, 0, none⟩)]) rfl trivial (enters_of Try.func71 (by kernel_rfl) rfl)
    (nodes1_stops (n - 1) w.heap.size (w.heap.size + 1 + 1) t _ _ (by simp; omega) (tmv_below hs2 hv1) hz (fun A' c' he => by
      injection he with he
      have := congrArg (fun a => a[3]?) he
      simp only [List.getElem?_toArray, List.getElem?_cons_succ, List.getElem?_cons_zero, Option.some.injEq, Value.slice.injEq] at this
      obtain ⟨rfl, -, rfl⟩ := this
      simpa using heap_new ((w.alloc _).alloc (.cells #[.int .i64 0] 3)) _)) (fun h k => h.trans k) (KpT.put (by simp; omega)) (Below.refl _ _) (fun _ => rfl)
    (fun pre W => Boxed W (w.heap.size + 1) 3 (.int .i64 ((pre.length : Nat) : Int)) ∧ Below w.heap.size w W)
    (fun _ _ _ => False)
    (OwnFrom.and (Own.from (boxed_own (w.heap.size + 1) 3 (fun pre : List Nd => .int .i64 ((pre.length : Nat) : Int))) _) (ownFrom_below (Nat.le_refl _) (by simp; omega)))
    (fun _ _ _ _ _ hs _ _ => hs)
    ⟨hbx, hs2⟩
    (fun x => { tmps := #[.agg #[.int .u8 t.k, .string t.s, .int .i64 t.n, .slice A t.l.length c], .pointer (some ⟨w.heap.size, 0, none⟩), .int .i64 0, .pointer (some ⟨w.heap.size + 1, 0, none⟩), .agg #[.int .u8 t.k, .string t.s, .int .i64 t.n, .slice A t.l.length c], .func (.func 71) #[] #[.pointer (some ⟨w.heap.size + 1 + 1, 0, none⟩)], .int .i64 x.d, .agg #[.int .u8 x.t.k, .string x.t.s, .int .i64 x.t.n, .slice x.A x.t.l.length x.c], undef, undef, undef], defers := [] }) ?assign ?body ?done ?stop
  case assign =>
    intro l x W K hK
    gi_wp2
    simpa [Nd.vals] using hK
  case body =>
    rintro l pre x W ⟨hbx1, hb1⟩ hlt
    have hc1 := hbx1.cell
    have hf1 := hbx1.frozen
    have hpl : (pre.length : Int) ≤ 1000000 := by omega
    gi_wp2
    refine ⟨KeepsOthers.setCell _ _ _, kpT_set hb1.size hbx1 (by decide) (by omega) _, ?_, hb1.setCell (p := ⟨w.heap.size + 1, 0, none⟩) (by simp) _⟩
    have := hbx1.set (.int .i64 ((pre.length : Int) + 1))
    simpa using this
  case done =>
    rintro D xs W hD hxs ⟨hbx1, hb1⟩ hK
    have hc1 := hbx1.cell
    have hxl : Hid (xs.length = t.siz) := Lib.hid (by have := congrArg List.length hxs; simpa [nodes_length] using this)
    clear hxs
    gi_wp2
    refine ⟨by simp, .inl ⟨_, _, rfl, run_takeDeferred hK, ?_⟩⟩
    exact ⟨.int .i64 ((xs.length : Nat) : Int), results_tmp (t := 2) rfl _ _ _, ret_int (by rw [hxl.out]), hb1.trans (belowK_b (w := w) (Nat.le_refl _) W D _ _ (by simp at hD; omega) hK rfl rfl)⟩
  case stop =>
    rintro D c pre W _ _ h _
    exact h.elim

/-- The greatest depth among some nodes. -/
def deepest (l : List (Nat × Tm)) : Nat := l.foldl (fun m x => max m x.1) 0
theorem deepest_snoc (l : List (Nat × Tm)) (x : Nat × Tm) : deepest (l ++ [x]) = max (deepest l) x.1 := by simp [deepest, List.foldl_append]
mutual
theorem fold_nodes : ∀ (t : Tm) (d m : Nat), (t.nodes d).foldl (fun m x => max m x.1) m = max m (d + t.dep - 1)
  | ⟨k, s, n, l⟩, d, m => by
    simp only [Tm.nodes, List.foldl_cons, Tm.dep]
    rw [fold_nodesL l (d + 1) (max m d)]
    split
    · rename_i h; subst h; simp only [depL]; omega
    · omega
theorem fold_nodesL : ∀ (l : List Tm) (d m : Nat), (nodesL l d).foldl (fun m x => max m x.1) m = if l = [] then m else max m (d + depL l - 1)
  | [], d, m => by simp [nodesL]
  | t :: ts, d, m => by
    have hp : 1 ≤ t.dep := by cases t; simp [Tm.dep]
    simp only [nodesL, List.foldl_append]
    rw [fold_nodes t d m, fold_nodesL ts d _]
    simp only [depL]
    split
    · rename_i h; subst h; simp [depL]
    · simp only [reduceCtorEq, if_false]; omega
end
theorem deepest_nodes (t : Tm) : deepest (t.nodes 1) = t.dep := by
  have := fold_nodes t 1 0
  simp only [deepest, this]; omega
set_option maxRecDepth 100000 in
set_option maxHeartbeats 2000000 in
theorem termDepth_in (n : Nat) (hn : 3 ≤ n) (t : Tm) (v : Value) (w : World) (ok : Nat → Prop) (hv : TmV w ok t v) (hz : t.siz ≤ 1000000) :
    CallsIn Fence.wide n Try.prog 28 #[v] w fun e w' => e = .returned (.int .i64 t.dep) ∧ Below w.heap.size w w' := by
  have h1 : 1 ≤ n := by omega
  have hv0 : TmV w (fun b => b < w.heap.size) t v := (TmV.bound hv).mono (fun _ h => h.2)
  have hv1 := hv0
  obtain ⟨u, rfl, A, c, rfl, hl, hc, hA⟩ := hv0
  clear hA
  obtain ⟨O, hO⟩ : ∃ O : Obj, O = .cells #[.int .u8 t.k, .string t.s, .int .i64 t.n, .slice A t.l.length c] 26 := ⟨_, rfl⟩
  refine callsIn_of_wp_marks Try.func28 rfl trivial ?_ rfl
  simp only [Try.ntmps28, List.size_toArray, List.length_cons, List.length_nil, Nat.reduceAdd, Nat.reduceSub, Array.replicate_succ, Array.replicate_zero, List.push_toArray, List.append_toArray, List.nil_append, List.cons_append]
  gi_wp2_with (refine ⟨trivial, ?_⟩; gi_at_call 47; refine (nodes_in (n - 1) _ _ _ _ _ _ _).mono ?_; rintro e w' ⟨rfl, rfl⟩)
  have hs0 : Below w.heap.size w (w.alloc O) := (Below.refl _ w).alloc (Nat.le_refl _) _
  have hs1 : Below w.heap.size w ((w.alloc O).alloc (.cells #[.int .i64 0] 3)) := hs0.alloc (by simp) _
  have hs2 : Below w.heap.size w (((w.alloc O).alloc (.cells #[.int .i64 0] 3)).alloc O) := hs1.alloc (by simp; omega) _
  have hbx : Boxed (((w.alloc O).alloc (.cells #[.int .i64 0] 3)).alloc O) (w.heap.size + 1) 3 (.int .i64 ((0 : Nat) : Int)) := by
    have := Boxed.new (w.alloc O) 3 (.int .i64 ((0 : Nat) : Int))
    rw [World.size_alloc] at this
    exact this.alloc O
  subst hO
  refine wpIn_rangeFunc_ownF rfl h1 (gf := 71) (lb := #[.pointer (some ⟨w.heap.size + 1 + 1, 0, none⟩)]) rfl trivial (enters_of Try.func71 (by kernel_rfl) rfl)
    (nodes1_stops (n - 1) w.heap.size (w.heap.size + 1 + 1) t _ _ (by simp; omega) (tmv_below hs2 hv1) hz (fun A' c' he => by
      injection he with he
      have := congrArg (fun a => a[3]?) he
      simp only [List.getElem?_toArray, List.getElem?_cons_succ, List.getElem?_cons_zero, Option.some.injEq, Value.slice.injEq] at this
      obtain ⟨rfl, -, rfl⟩ := this
      simpa using heap_new ((w.alloc _).alloc (.cells #[.int .i64 0] 3)) _)) (fun h k => h.trans k) (KpT.put (by simp; omega)) (Below.refl _ _) (fun _ => rfl)
    (fun pre W => Boxed W (w.heap.size + 1) 3 (.int .i64 ((deepest (pre.map Nd.p) : Nat) : Int)) ∧ Below w.heap.size w W)
    (fun _ _ _ => False)
    (OwnFrom.and (Own.from (boxed_own (w.heap.size + 1) 3 (fun pre : List Nd => .int .i64 ((deepest (pre.map Nd.p) : Nat) : Int))) _) (ownFrom_below (Nat.le_refl _) (by simp; omega)))
    (fun _ _ _ _ _ hs _ _ => hs)
    ⟨hbx, hs2⟩
    (fun x => { tmps := #[.agg #[.int .u8 t.k, .string t.s, .int .i64 t.n, .slice A t.l.length c], .pointer (some ⟨w.heap.size, 0, none⟩), .int .i64 0, .pointer (some ⟨w.heap.size + 1, 0, none⟩), .int .i64 x.d, .agg #[.int .u8 t.k, .string t.s, .int .i64 t.n, .slice A t.l.length c], .func (.func 71) #[] #[.pointer (some ⟨w.heap.size + 1 + 1, 0, none⟩)], .int .i64 x.d, .agg #[.int .u8 x.t.k, .string x.t.s, .int .i64 x.t.n, .slice x.A x.t.l.length x.c], undef, undef, undef, undef], defers := [] }) ?assign ?body ?done ?stop
  case assign =>
    intro l x W K hK
    simp [Nd.vals]
    gi_wp2
    exact hK
  case body =>
    rintro l pre x W ⟨hbx1, hb1⟩ hlt
    have hc1 := hbx1.cell
    have hf1 := hbx1.frozen
    gi_wp2
    all_goals
      refine ⟨KeepsOthers.setCell _ _ _, kpT_set hb1.size hbx1 (by decide) (by omega) _, ?_, hb1.setCell (p := ⟨w.heap.size + 1, 0, none⟩) (by simp) _⟩
      have := hbx1.set (.int .i64 ((deepest ((pre ++ [x]).map Nd.p) : Nat) : Int))
      rw [List.map_append, List.map_cons, List.map_nil, deepest_snoc] at this ⊢
      simp only [Nd.p] at this ⊢
      first | (rw [Nat.max_eq_right (by omega)] at this ⊢; exact this) | (rw [Nat.max_eq_left (by omega)] at this ⊢; exact this)
  case done =>
    rintro D xs W hD hxs ⟨hbx1, hb1⟩ hK
    have hc1 := hbx1.cell
    have hxl : Hid (deepest (xs.map Nd.p) = t.dep) := Lib.hid (by rw [hxs, deepest_nodes])
    clear hxs
    gi_wp2
    refine ⟨by simp, .inl ⟨_, _, rfl, run_takeDeferred hK, ?_⟩⟩
    exact ⟨.int .i64 ((deepest (xs.map Nd.p) : Nat) : Int), results_tmp (t := 2) rfl _ _ _, ret_int (by rw [hxl.out]), hb1.trans (belowK_b (w := w) (Nat.le_refl _) W D _ _ (by simp at hD; omega) hK rfl rfl)⟩
  case stop =>
    rintro D c pre W _ _ h _
    exact h.elim
theorem termSize_c (t : Tm) (v : Value) (w : World) (ok : Nat → Prop) (hv : TmV w ok t v) (hz : t.siz ≤ 1000000) :
    Calls Try.prog 26 #[v] w fun e w' => e = .returned (.int .i64 t.siz) ∧ Below w.heap.size w w' := callsIn_wide.1 (termSize_in 3 (Nat.le_refl _) t v w ok hv hz)
theorem termDepth_c (t : Tm) (v : Value) (w : World) (ok : Nat → Prop) (hv : TmV w ok t v) (hz : t.siz ≤ 1000000) :
    Calls Try.prog 28 #[v] w fun e w' => e = .returned (.int .i64 t.dep) ∧ Below w.heap.size w w' := callsIn_wide.1 (termDepth_in 3 (Nat.le_refl _) t v w ok hv hz)
end Go.Proofs.Ytgoeglahmlpmeaa

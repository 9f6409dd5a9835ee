/- Sizes and depths by the iterator. Conditions: the arguments read; terms of at most a million nodes. -/
import Derived.Test.YtdidmhcblepcbaaW6
set_option linter.unusedVariables false
set_option maxRecDepth 20000
set_option linter.unusedSimpArgs false
namespace Go.Proofs.Ytdidmhcblepcbaa
open Go.RowKit Go.Shelf
attribute [local go_sem] Oper.semAt_some

set_option maxHeartbeats 1000000 in
theorem nodes1_stops (n n₀ Bt : Nat) (t : Tm) (v : Value) (w : World) (hn₀ : n₀ ≤ w.heap.size) (hv : TmV w (fun b => b < n₀) t v) (hz : t.siz ≤ 1000000)
    (hb : ∀ A c, v = .agg #[.int .u8 t.k, .string t.s, .int .i64 t.n, .slice A t.l.length c] → w.heap[Bt]? = some (.cells #[.int .u8 t.k, .string t.s, .int .i64 t.n, .slice A t.l.length c] 25 (0, 0))) :
    SeqStopsK Fence.wide n Try.prog 70 #[.pointer (some ⟨Bt, 0, none⟩)] Nd.vals (KpT n₀) (fun xs => xs.map Nd.p = t.nodes 1) (fun pre => pre.map Nd.p <+: t.nodes 1) t.siz w := by
  intro l J Jx W hW hJ hJx hY h0
  obtain ⟨u, hvu, A, c, hu, hl, hc, hA⟩ := hv
  subst hu
  have hbt := hb A c hvu
  have hbW : W.heap[Bt]? = _ := block_below hW (Array.getElem?_eq_some_iff.1 hbt).1 hbt
  obtain ⟨c0, c1, c2, c3, -, -, -, -⟩ := box4 hbW
  have hV : TmV W (fun b => b < n₀) t (.agg #[.int .u8 t.k, .string t.s, .int .i64 t.n, .slice A t.l.length c]) := tmv_below (hW.mono hn₀) ⟨_, rfl, A, c, rfl, hl, hc, hA⟩
  have HW := Lib.hid (seqWalk l n₀ t.siz J Jx W.heap.size hJ (fun m pre x W1 hj hlt => YieldAt.any m (hY pre x W1 hj hlt)) t (n - 1) 1 _ [] W hV h0 (Nat.le_trans hn₀ hW.size) (by simp) (by omega))
  clear hY hA
  refine callsIn_of_wp Try.func70 rfl trivial ?_ rfl
  simp only [Try.ntmps70, List.size_toArray, List.length_cons, List.length_nil, Nat.reduceAdd, Nat.reduceSub, Array.replicate_succ, Array.replicate_zero, List.push_toArray, List.append_toArray, List.nil_append, List.cons_append]
  gi_wp2_with (refine ⟨trivial, wide_room _, ?_⟩; gi_at_call 71; refine HW.out.mono ?_; clear HW; rintro e W1 (⟨rfl, ⟨xs, hxs, hJ1⟩, hk1⟩ | ⟨rfl, xs, hxs, hx1⟩))
  · go_end0
    exact ⟨⟨_, rfl⟩, .inl ⟨xs, hxs, by simpa using hJ1⟩⟩
  · go_end0
    exact ⟨⟨_, rfl⟩, .inr ⟨xs, hxs, by simpa using hx1⟩⟩

/-- 'nodes(t)': the term is boxed; the function value captures the box. -/
theorem nodes_in (n : Nat) (k q : Int) (s : ByteArray) (A : Option Addr) (m c : Nat) (w : World) :
    CallsIn Fence.wide n Try.prog 54 #[.agg #[.int .u8 k, .string s, .int .i64 q, .slice A m c]] w fun e w' => e = .returned (.func (.func 70) #[] #[.pointer (some ⟨w.heap.size, 0, none⟩)]) ∧ w' = w.alloc (.cells #[.int .u8 k, .string s, .int .i64 q, .slice A m c] 25) := by
  refine callsIn_of_wp Try.func54 rfl trivial ?_ rfl
  simp only [Try.ntmps54, List.size_toArray, List.length_cons, List.length_nil, Nat.reduceAdd, Nat.reduceSub, Array.replicate_succ, Array.replicate_zero, List.push_toArray, List.append_toArray, List.nil_append, List.cons_append]
  gi_wp2
  go_ret
  exact ⟨rfl, rfl⟩

theorem boxed_grown {w W : World} {B : Nat} {t : TypeId} {v : Value} (h : Boxed w B t v) (hb : Below w.heap.size w W) : Boxed W B t v := block_below hb h.lt h

/-- A store into a box that holds no term. -/
theorem kpT_set {n₀ : Nat} {W : World} {B : Nat} {ty : TypeId} {v : Value} (hn : n₀ ≤ W.heap.size) (hb : Boxed W B ty v) (hty : ty ≠ 25) (hB : n₀ ≤ B) (u : Value) : KpT n₀ W (W.setCell ⟨B, 0, none⟩ u) :=
  ⟨(Below.refl n₀ W).setCell (p := ⟨B, 0, none⟩) hB u, fun k c hk => (Below.heap_setCell W _ u k (fun e => by
    have e' : k = B := e
    subst e'
    rw [show W.heap[k]? = _ from hb] at hk
    injection hk with hk
    injection hk with _ hk
    exact hty hk)).trans hk⟩
/-- The greatest depth among some nodes. -/
def deepest (l : List (Nat × Tm)) : Nat := l.foldl (fun m x => max m x.1) 0
theorem deepest_snoc (l : List (Nat × Tm)) (x : Nat × Tm) : deepest (l ++ [x]) = max (deepest l) x.1 := by simp [deepest, List.foldl_append]
mutual
theorem fold_nodes : ∀ (t : Tm) (d m : Nat), (t.nodes d).foldl (fun m x => max m x.1) m = max m (d + t.dep - 1)
  | ⟨k, s, n, l⟩, d, m => by
    simp only [Tm.nodes, List.foldl_cons, Tm.dep]
    rw [fold_nodesL l (d + 1) (max m d)]
    split
    · rename_i h; subst h; simp only [depL]; omega
    · omega
theorem fold_nodesL : ∀ (l : List Tm) (d m : Nat), (nodesL l d).foldl (fun m x => max m x.1) m = if l = [] then m else max m (d + depL l - 1)
  | [], d, m => by simp [nodesL]
  | t :: ts, d, m => by
    have hp : 1 ≤ t.dep := by cases t; simp [Tm.dep]
    simp only [nodesL, List.foldl_append]
    rw [fold_nodes t d m, fold_nodesL ts d _]
    simp only [depL]
    split
    · rename_i h; subst h; simp [depL]
    · simp only [reduceCtorEq, if_false]; omega
end
theorem deepest_nodes (t : Tm) : deepest (t.nodes 1) = t.dep := by
  have := fold_nodes t 1 0
  simp only [deepest, this]; omega
end Go.Proofs.Ytdidmhcblepcbaa

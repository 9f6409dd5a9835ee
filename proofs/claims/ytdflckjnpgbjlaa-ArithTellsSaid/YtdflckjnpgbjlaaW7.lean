/- The iterator over a term's nodes: 'walk', 'nodes'. Sizes and depths by the iterator. Conditions: the arguments read; terms of at most a million nodes, where a statement says so. -/
import Derived.Test.YtdflckjnpgbjlaaW5
import Derived.RangeFuncNested
import Derived.RangeFuncBound
import Derived.RangeFuncCalls
import Derived.RangeFuncLeaves
import Derived.Shelf.Abstract
import Derived.Shelf.RegionOpen
import Derived.OwnWalkIn
import Derived.TacticsInMore
import Derived.LoopNIn
import Derived.LoopIn
set_option linter.unusedVariables false
set_option maxRecDepth 20000
set_option linter.unusedSimpArgs false
namespace Go.Proofs.Ytdflckjnpgbjlaa
open Go.RowKit Go.Shelf
attribute [local go_sem] Oper.semAt_some

theorem wide_room (k : Nat) : (Fence.wide.depth.isSome = true → 1 ≤ k) := fun h => by simp [Fence.wide] at h
theorem YieldAt.any {m : Nat} (m' : Nat) {P : Program} {l : Nat} {args : Array Value} {W : World} {R : Ending → World → Prop} (h : YieldAt Fence.wide m P l args W R) : YieldAt Fence.wide m' P l args W R := by
  obtain ⟨fn, tmps, assign, body, hy, hR⟩ := h
  exact ⟨fn, tmps, assign, body, hy, ⟨hR.1, fun c cs _ => hR.2 c cs (room_wide _)⟩⟩

/-- A node as it is handed to yield: its depth, the term, its arguments' slice. -/
structure Nd where
  d : Nat
  t : Tm
  A : Option Addr
  c : Nat
def Nd.vals (x : Nd) : Array Value := #[.int .i64 x.d, .agg #[.int .u8 x.t.k, .string x.t.s, .int .i64 x.t.n, .slice x.A x.t.l.length x.c]]
def Nd.p (x : Nd) : Nat × Tm := (x.d, x.t)
mutual
/-- A term's nodes, with their depths, from the outside in. -/
def Tm.nodes : Tm → Nat → List (Nat × Tm)
  | ⟨k, s, n, l⟩, d => (d, ⟨k, s, n, l⟩) :: nodesL l (d + 1)
def nodesL : List Tm → Nat → List (Nat × Tm)
  | [], _ => []
  | t :: ts, d => t.nodes d ++ nodesL ts d
end
mutual
theorem nodes_length : ∀ (t : Tm) (d : Nat), (t.nodes d).length = t.siz
  | ⟨k, s, n, l⟩, d => by simp [Tm.nodes, Tm.siz, nodesL_length l]
theorem nodesL_length : ∀ (l : List Tm) (d : Nat), (nodesL l d).length = sizL l
  | [], d => by simp [nodesL, sizL]
  | t :: ts, d => by simp [nodesL, sizL, nodes_length t, nodesL_length ts]
end
theorem nodesL_append : ∀ (l m : List Tm) (d : Nat), nodesL (l ++ m) d = nodesL l d ++ nodesL m d
  | [], m, d => by simp [nodesL]
  | t :: ts, m, d => by simp [nodesL, nodesL_append ts m]
/-- What a round keeps for the iterator: what lay when the loop began, and every block of terms. -/
def KpT (n₀ : Nat) (W W' : World) : Prop := Below n₀ W W' ∧ ∀ (k : Nat) (c : Array Value), W.heap[k]? = some (.cells c 24 (0, 0)) → W'.heap[k]? = some (.cells c 24 (0, 0))
theorem KpT.trans {n₀ : Nat} {A B C : World} (h : KpT n₀ A B) (k : KpT n₀ B C) : KpT n₀ A C := ⟨h.1.trans k.1, fun i c hc => k.2 i c (h.2 i c hc)⟩
theorem KpT.of_below {n₀ : Nat} {A B : World} (h : Below A.heap.size A B) (hn : n₀ ≤ A.heap.size) : KpT n₀ A B := ⟨h.mono hn, fun i c hc => block_below h (Array.getElem?_eq_some_iff.1 hc).1 hc⟩
theorem KpT.put {n₀ : Nat} {w : World} (hn : n₀ ≤ w.heap.size) (W : World) (l : Nat) (o o' : Obj) (hl : w.heap.size ≤ l) (h : W.heap[l]? = some o) (hc : o.isCells = false) (hw : o.isWalk = false) : KpT n₀ W (W.putObj l o') :=
  ⟨belowK_b hn W l o o' hl h hc hw, fun k c hk => (World.putObj_heap_other (fun e => by subst e; rw [h] at hk; cases hk; cases hc)).trans hk⟩
theorem KpT.cell {n₀ : Nat} {W W' : World} (h : KpT n₀ W W') {B : Nat} {c : Array Value} (hB : W.heap[B]? = some (.cells c 24 (0, 0))) {o : Nat} {v : Value} (hc : W.cell? ⟨B, o, none⟩ = some v) : W'.cell? ⟨B, o, none⟩ = some v :=
  (cell_of_block ((h.2 B c hB).trans hB.symm) o).trans hc
theorem tmv_below {n₀ : Nat} {W W' : World} {t : Tm} {v : Value} (h : Below n₀ W W') (hv : TmV W (fun b => b < n₀) t v) : TmV W' (fun b => b < n₀) t v := TmV.move (fun b hb => h.block b hb) hv
theorem tms_below {n₀ : Nat} {W W' : World} {l : List Tm} {v : Value} (h : Below n₀ W W') (hv : Kd.tm.S W (fun b => b < n₀) l v) : Kd.tm.S W' (fun b => b < n₀) l v := Kd.S.move (fun b hb => h.block b hb) hv

set_option maxRecDepth 100000 in
set_option maxHeartbeats 2000000 in
theorem seqWalk (l n₀ N : Nat) (J Jx : List Nd → World → Prop) (B : Nat) (hJa : AbidesFrom B J)
    (hY : ∀ m pre x W, J pre W → pre.length < N → YieldAt Fence.wide m Try.prog l x.vals W fun e W' =>
      (e = .returned (.bool true) ∧ J (pre ++ [x]) W' ∧ KpT n₀ W W') ∨ (e = .returned (.bool false) ∧ Jx (pre ++ [x]) W')) (t : Tm) :
    ∀ (n d : Nat) (v : Value) (pre : List Nd) (W : World), TmV W (fun b => b < n₀) t v → J pre W → n₀ ≤ W.heap.size → pre.length + t.siz ≤ N → d + t.siz ≤ 2000000 →
      CallsIn Fence.wide n Try.prog 101 #[v, .int .i64 d, .func (.yield l) #[] #[]] W fun e W' =>
        (e = .returned (.bool true) ∧ (∃ xs, xs.map Nd.p = t.nodes d ∧ J (pre ++ xs) W') ∧ KpT n₀ W W') ∨ (e = .returned (.bool false) ∧ ∃ xs, xs.map Nd.p <+: t.nodes d ∧ Jx (pre ++ xs) W') := by
  refine Tm.ind (p := fun t => ∀ (n d : Nat) (v : Value) (pre : List Nd) (W : World), TmV W (fun b => b < n₀) t v → J pre W → n₀ ≤ W.heap.size → pre.length + t.siz ≤ N → d + t.siz ≤ 2000000 →
      CallsIn Fence.wide n Try.prog 101 #[v, .int .i64 d, .func (.yield l) #[] #[]] W fun e W' =>
        (e = .returned (.bool true) ∧ (∃ xs, xs.map Nd.p = t.nodes d ∧ J (pre ++ xs) W') ∧ KpT n₀ W W') ∨ (e = .returned (.bool false) ∧ ∃ xs, xs.map Nd.p <+: t.nodes d ∧ Jx (pre ++ xs) W')) ?_ t
  intro t ih n d v pre W hv hJ hn₀ hN hd
  obtain ⟨u, rfl, A, c, rfl, hl, hc, hA⟩ := hv
  obtain ⟨k, s, q, ts⟩ := t
  simp only [Tm.siz, Tm.nodes] at hl hA ih hN hd ⊢
  unfold maxLen at hc
  obtain ⟨O, hO⟩ : ∃ O : Obj, O = .cells #[.int .u8 k, .string s, .int .i64 q, .slice A ts.length c] 24 := ⟨_, rfl⟩
  have hJ1 : J pre (W.alloc O) := hJa pre W (W.alloc O) none hJ (World.grownBy_alloc W O none) (fun r e => by cases e)
  have hy := hY (n - 1) pre ⟨d, ⟨k, s, q, ts⟩, A, c⟩ (W.alloc O) hJ1 (by omega)
  obtain ⟨fn, tmps, assign, body, hy, hR⟩ := hy
  simp only [Nd.vals] at hy
  have hR' := hR.mono (R' := fun e W2 => (e = .returned (.bool true) ∧ J (pre ++ [⟨d, ⟨k, s, q, ts⟩, A, c⟩]) W2 ∧ KpT n₀ (W.alloc O) W2 ∧ W2.heap[W.heap.size]? = some O ∧ W2.cell? ⟨W.heap.size, 3, none⟩ = some (.slice A ts.length c)) ∨ (e = .returned (.bool false) ∧ Jx (pre ++ [⟨d, ⟨k, s, q, ts⟩, A, c⟩]) W2)) (fun e W2 h => h.elim (fun ⟨he, hj, hk⟩ => .inl ⟨he, hj, hk, by subst hO; exact hk.2 _ _ (heap_new W _), by
      subst hO; exact (box4 (hk.2 _ _ (heap_new W _))).2.2.2.1⟩) .inr)
  clear hR
  subst hO
  refine callsIn_of_wp Try.func101 rfl trivial ?_ rfl
  simp only [Try.ntmps101, List.size_toArray, List.length_cons, List.length_nil, Nat.reduceAdd, Nat.reduceSub, Array.replicate_succ, Array.replicate_zero, List.push_toArray, List.append_toArray, List.nil_append, List.cons_append]
  gi_wp2_with ((try refine ⟨wide_room _, ?_⟩); refine hR'.mono ?_; clear hR'; rintro e W2 (⟨rfl, hJ2, hk2, hbx, c3⟩ | ⟨rfl, hx2⟩))
  · have hb0 : Below n₀ W W2 := ((Below.refl _ W).alloc hn₀ _).trans hk2.1
    have hn2 : n₀ ≤ W2.heap.size := Nat.le_trans hn₀ (by have := hk2.1.size; simp at this; omega)
    gi_loopw [17] (fun i wr => ∃ j : Nat, j ≤ ts.length ∧ i = .int .i64 j ∧ (∃ xs, xs.map Nd.p = (d, ⟨k, s, q, ts⟩) :: nodesL (ts.take j) (d + 1) ∧ J (pre ++ xs) wr) ∧ KpT n₀ W2 wr) (fun i _ => ts.length - (intOf i).toNat)
    case atStart => exact ⟨0, Nat.zero_le _, rfl, ⟨[⟨d, ⟨k, s, q, ts⟩, A, c⟩], by simp [Nd.p, nodesL], hJ2⟩, ⟨Below.refl _ _, fun _ _ h => h⟩⟩
    case round =>
      obtain ⟨j, hj, rfl, ⟨xs, hxs, hJ3⟩, hk3⟩ := hrel
      have hb3 : Below n₀ W wr := hb0.trans hk3.1
      have hn3 : n₀ ≤ wr.heap.size := Nat.le_trans hn2 hk3.1.size
      by_cases hlt : j < ts.length
      · obtain ⟨b, o, u, rfl, hok, hlo, h0, h1, h2, h3, h4⟩ := tm_elem hA hlt
        have g0 := cell_below hb3 h0 hok
        have g1 := cell_below hb3 h1 hok
        have g2 := cell_below hb3 h2 hok
        have g3 := cell_below hb3 h3 hok
        have k4 := tms_below hb3 h4
        obtain ⟨Au, cu, rfl⟩ := h4.form
        have hzj := siz_mem (List.getElem_mem hlt)
        have hxl : xs.length = 1 + sizL (ts.take j) := by
          have := congrArg List.length hxs
          simp only [List.length_map, List.length_cons, nodesL_length] at this
          omega
        have htl : sizL (ts.take (j + 1)) + sizL (ts.drop (j + 1)) = sizL ts := by rw [← sizL_append, List.take_append_drop]
        have htl2 : sizL (ts.take (j + 1)) = sizL (ts.take j) + ts[j].siz := by rw [take_succ_at ts hlt, sizL_append]; simp [sizL]
        obtain ⟨O, hO⟩ : ∃ O : Obj, O = .cells #[.int .u8 ts[j].k, .string ts[j].s, .int .i64 ts[j].n, .slice Au ts[j].l.length cu] 24 := ⟨_, rfl⟩
        have hJ4 : J (pre ++ xs) (wr.alloc O) := hJa _ wr (wr.alloc O) none hJ3 (World.grownBy_alloc wr O none) (fun r e => by cases e)
        have hi := ih ts[j] (List.getElem_mem hlt) (n - 1) (d + 1) _ (pre ++ xs) (wr.alloc O) (tmv_below ((Below.refl _ wr).alloc hn3 _) ⟨_, rfl, k4⟩) hJ4 (by simp; omega) (by simp only [List.length_append]; omega) (by omega)
        rw [show ((d + 1 : Nat) : Int) = (d : Int) + 1 by omega] at hi
        have HI := Lib.hid hi
        clear hi
        have hnx : nodesL (ts.take (j + 1)) (d + 1) = nodesL (ts.take j) (d + 1) ++ ts[j].nodes (d + 1) := by rw [take_succ_at ts hlt, nodesL_append]; simp [nodesL]
        have HNX := Lib.hid hnx
        have HXS := Lib.hid hxs
        have HTL := Lib.hid htl
        have HTL2 := Lib.hid htl2
        have HXL := Lib.hid hxl
        subst hO
        clear hA h0 h1 h2 h3 h4 ih hy hY hnx hxs htl htl2 hxl
        gi_wp2_with (refine ⟨trivial, wide_room _, ?_⟩; gi_at_call 101; refine HI.out.mono ?_; clear HI; rintro e W5 (⟨rfl, ⟨ys, hys, hJ5⟩, hk5⟩ | ⟨rfl, ys, hys, hx5⟩))
        · gi_wp2
          go_roundw
          case rel => exact ⟨j + 1, by omega, by go_num, ⟨xs ++ ys, by rw [List.map_append, HXS.out, hys, HNX.out]; simp, by rw [← List.append_assoc]; exact hJ5⟩, hk3.trans ((KpT.of_below ((Below.refl _ wr).alloc (Nat.le_refl _) _) hn3).trans hk5)⟩
          case measure => simp [intOf]; omega
        · gi_wp2
          go_ret
          obtain ⟨rest, hrest⟩ := hys
          refine .inr ⟨rfl, xs ++ ys, ⟨rest ++ nodesL (ts.drop (j + 1)) (d + 1), ?_⟩, by rw [← List.append_assoc]; exact hx5⟩
          rw [List.map_append, HXS.out]
          have : nodesL ts (d + 1) = nodesL (ts.take (j + 1)) (d + 1) ++ nodesL (ts.drop (j + 1)) (d + 1) := by rw [← nodesL_append, List.take_append_drop]
          rw [this, HNX.out, ← hrest]
          simp
      · have HXS := Lib.hid hxs
        clear hxs hA ih hy hY
        gi_wp2
        go_ret
        refine .inl ⟨rfl, ⟨xs, by rw [HXS.out, List.take_of_length_le (by omega)], hJ3⟩, ?_⟩
        exact (KpT.of_below ((Below.refl _ W).alloc (Nat.le_refl _) _) hn₀).trans (hk2.trans hk3)
  · go_ret
    exact .inr ⟨rfl, [⟨d, ⟨k, s, q, ts⟩, A, c⟩], ⟨nodesL ts (d + 1), by simp [Nd.p]⟩, hx2⟩

open Go.RowKit Go.Shelf
attribute [local go_sem] Oper.semAt_some

set_option maxHeartbeats 1000000 in
theorem nodes1_stops (n n₀ Bt : Nat) (t : Tm) (v : Value) (w : World) (hn₀ : n₀ ≤ w.heap.size) (hv : TmV w (fun b => b < n₀) t v) (hz : t.siz ≤ 1000000)
    (hb : ∀ A c, v = .agg #[.int .u8 t.k, .string t.s, .int .i64 t.n, .slice A t.l.length c] → w.heap[Bt]? = some (.cells #[.int .u8 t.k, .string t.s, .int .i64 t.n, .slice A t.l.length c] 24 (0, 0))) :
    SeqStopsK Fence.wide n Try.prog 100 #[.pointer (some ⟨Bt, 0, none⟩)] Nd.vals (KpT n₀) (fun xs => xs.map Nd.p = t.nodes 1) (fun pre => pre.map Nd.p <+: t.nodes 1) t.siz w := by
  intro l J Jx W hW hJ hJx hY h0
  obtain ⟨u, hvu, A, c, hu, hl, hc, hA⟩ := hv
  subst hu
  have hbt := hb A c hvu
  have hbW : W.heap[Bt]? = _ := block_below hW (Array.getElem?_eq_some_iff.1 hbt).1 hbt
  obtain ⟨c0, c1, c2, c3, -, -, -, -⟩ := box4 hbW
  have hV : TmV W (fun b => b < n₀) t (.agg #[.int .u8 t.k, .string t.s, .int .i64 t.n, .slice A t.l.length c]) := tmv_below (hW.mono hn₀) ⟨_, rfl, A, c, rfl, hl, hc, hA⟩
  have HW := Lib.hid (seqWalk l n₀ t.siz J Jx W.heap.size hJ (fun m pre x W1 hj hlt => YieldAt.any m (hY pre x W1 hj hlt)) t (n - 1) 1 _ [] W hV h0 (Nat.le_trans hn₀ hW.size) (by simp) (by omega))
  clear hY hA
  refine callsIn_of_wp Try.func100 rfl trivial ?_ rfl
  simp only [Try.ntmps100, List.size_toArray, List.length_cons, List.length_nil, Nat.reduceAdd, Nat.reduceSub, Array.replicate_succ, Array.replicate_zero, List.push_toArray, List.append_toArray, List.nil_append, List.cons_append]
  gi_wp2_with (refine ⟨trivial, wide_room _, ?_⟩; gi_at_call 101; refine HW.out.mono ?_; clear HW; rintro e W1 (⟨rfl, ⟨xs, hxs, hJ1⟩, hk1⟩ | ⟨rfl, xs, hxs, hx1⟩))
  · go_end0
    exact ⟨⟨_, rfl⟩, .inl ⟨xs, hxs, by simpa using hJ1⟩⟩
  · go_end0
    exact ⟨⟨_, rfl⟩, .inr ⟨xs, hxs, by simpa using hx1⟩⟩

/-- 'nodes(t)': the term is boxed; the function value captures the box. -/
theorem nodes_in (n : Nat) (k q : Int) (s : ByteArray) (A : Option Addr) (m c : Nat) (w : World) :
    CallsIn Fence.wide n Try.prog 61 #[.agg #[.int .u8 k, .string s, .int .i64 q, .slice A m c]] w fun e w' => e = .returned (.func (.func 100) #[] #[.pointer (some ⟨w.heap.size, 0, none⟩)]) ∧ w' = w.alloc (.cells #[.int .u8 k, .string s, .int .i64 q, .slice A m c] 24) := by
  refine callsIn_of_wp Try.func61 rfl trivial ?_ rfl
  simp only [Try.ntmps61, List.size_toArray, List.length_cons, List.length_nil, Nat.reduceAdd, Nat.reduceSub, Array.replicate_succ, Array.replicate_zero, List.push_toArray, List.append_toArray, List.nil_append, List.cons_append]
  gi_wp2
  go_ret
  exact ⟨rfl, rfl⟩

theorem boxed_grown {w W : World} {B : Nat} {t : TypeId} {v : Value} (h : Boxed w B t v) (hb : Below w.heap.size w W) : Boxed W B t v := block_below hb h.lt h

/-- A store into a box that holds no term. -/
theorem kpT_set {n₀ : Nat} {W : World} {B : Nat} {ty : TypeId} {v : Value} (hn : n₀ ≤ W.heap.size) (hb : Boxed W B ty v) (hty : ty ≠ 24) (hB : n₀ ≤ B) (u : Value) : KpT n₀ W (W.setCell ⟨B, 0, none⟩ u) :=
  ⟨(Below.refl n₀ W).setCell (p := ⟨B, 0, none⟩) hB u, fun k c hk => (Below.heap_setCell W _ u k (fun e => by
    have e' : k = B := e
    subst e'
    rw [show W.heap[k]? = _ from hb] at hk
    injection hk with hk
    injection hk with _ hk
    exact hty hk)).trans hk⟩
/-- The greatest depth among some nodes. -/
def deepest (l : List (Nat × Tm)) : Nat := l.foldl (fun m x => max m x.1) 0
theorem deepest_snoc (l : List (Nat × Tm)) (x : Nat × Tm) : deepest (l ++ [x]) = max (deepest l) x.1 := by simp [deepest, List.foldl_append]
mutual
theorem fold_nodes : ∀ (t : Tm) (d m : Nat), (t.nodes d).foldl (fun m x => max m x.1) m = max m (d + t.dep - 1)
  | ⟨k, s, n, l⟩, d, m => by
    simp only [Tm.nodes, List.foldl_cons, Tm.dep]
    rw [fold_nodesL l (d + 1) (max m d)]
    split
    · rename_i h; subst h; simp only [depL]; omega
    · omega
theorem fold_nodesL : ∀ (l : List Tm) (d m : Nat), (nodesL l d).foldl (fun m x => max m x.1) m = if l = [] then m else max m (d + depL l - 1)
  | [], d, m => by simp [nodesL]
  | t :: ts, d, m => by
    have hp : 1 ≤ t.dep := by cases t; simp [Tm.dep]
    simp only [nodesL, List.foldl_append]
    rw [fold_nodes t d m, fold_nodesL ts d _]
    simp only [depL]
    split
    · rename_i h; subst h; simp [depL]
    · simp only [reduceCtorEq, if_false]; omega
end
theorem deepest_nodes (t : Tm) : deepest (t.nodes 1) = t.dep := by
  have := fold_nodes t 1 0
  simp only [deepest, this]; omega
end Go.Proofs.Ytdflckjnpgbjlaa

/- The variables of a list, by the iterator. Conditions: the arguments read; terms of at most a million nodes. -/
import Derived.Test.YtdflckjnpgbjlaaW7
import Derived.Maps.OwnIn
set_option linter.unusedVariables false
set_option maxRecDepth 20000
set_option linter.unusedSimpArgs false
namespace Go.Proofs.Ytdflckjnpgbjlaa
open Go.RowKit Go.Shelf
attribute [local go_sem] Oper.semAt_some

/-- The mark that a range over a function leaves. -/
def mark (D : Nat) : Deferred := { target := .collected D, args := #[] }
theorem leaves_marks {P : Program} {F : Fence} {n : Nat} {fn : Func} {tmps : Array Value} {R : Ending → World → Prop} (v : Value) (hr : ∀ w, (results fn tmps).run P w = .ok v w) (w0 : World) :
    ∀ (ds : List Nat) (w : World), ds.Nodup → (∀ D ∈ ds, w0.heap.size ≤ D ∧ w.heap[D]? = some (.deferred (some []))) → Below w0.heap.size w0 w → (∀ w', Below w0.heap.size w0 w' → Keeps (· ∈ ds) w w' → R (.returned v) w') →
    LeavesInM F n P fn tmps R (ds.map mark) .returning w
  | [], w, _, _, hb, h => ⟨v, hr w, h w hb (Keeps.refl _ _)⟩
  | D :: ds, w, hn, hd, hb, h => by
    have h1 := hd D (by simp)
    have hlt := (Array.getElem?_eq_some_iff.1 h1.2).1
    have hn' := List.nodup_cons.1 hn
    refine ⟨by simp, .inl ⟨D, _, rfl, run_takeDeferred h1.2, ?_⟩⟩
    refine leaves_marks v hr w0 ds _ hn'.2 (fun E hE => ⟨(hd E (by simp [hE])).1, ?_⟩) (hb.trans (belowK_b (w := w0) (Nat.le_refl _) w D _ _ h1.1 h1.2 rfl rfl)) ?_
    · exact (World.putObj_heap_other (fun e => hn'.1 (by first | rw [← e]; exact hE | rw [e]; exact hE))).trans (hd E (by simp [hE])).2
    · intro w' hb' hk
      have hg := grownBy_putObj' w D (.deferred none)
      exact h w' hb' ⟨hk.os.trans hg.os, hk.tape.trans hg.tape, hk.output.trans hg.output, Nat.le_trans hg.size hk.size, fun k hk1 hk2 =>
        (hk.block k (Nat.lt_of_lt_of_le hk1 hg.size) (fun hm => hk2 (by simp [hm]))).trans (hg.block k hk1 (fun e => hk2 (by injection e with e; simp [e])))⟩

theorem Kd.Own.cells {α : Type} {d : Kd α} {e : TypeId} {w : World} {base : Nat} {ok : Nat → Prop} {xs : List α} {v : Value} (h : d.Own e w base ok xs v) : ∀ k, v.ownBlock = some k → ∃ c : Array Value, w.heap[k]? = some (.cells c e (0, 0)) := by
  obtain ⟨cells, h1, h2⟩ := h
  obtain ⟨hl, h3⟩ := h1
  rcases h3 with ⟨rfl, hn⟩ | ⟨g, cap, cur, rfl, hg, hh, hc1, hc2, hc3, ht⟩
  · intro k hk; simp [Value.ownBlock] at hk
  · intro k hk
    simp only [Value.ownBlock] at hk
    injection hk with hk
    subst hk
    exact ⟨_, hh⟩
theorem Kd.Own.keepsFrom {α : Type} {d : Kd α} {e : TypeId} {w w1 : World} {base B : Nat} {ok : Nat → Prop} {xs : List α} {v : Value} (h : d.Own e w base ok xs v) (hg : w.grownBy w1 v.ownBlock) : KeepsFrom B w w1 :=
  ⟨hg.size, fun k o hB hk ho => (hg.block k (Array.getElem?_eq_some_iff.1 hk).1 (fun e => by
    obtain ⟨c, hc⟩ := h.cells k e.symm
    rw [hk] at hc; cases hc; cases ho)).trans hk⟩
theorem Kd.Own.kpT {α : Type} {d : Kd α} {e : TypeId} {w w1 : World} {base n₀ : Nat} {ok : Nat → Prop} {xs : List α} {v : Value} (h : d.Own e w base ok xs v) (he : e ≠ 24) (hn : n₀ ≤ base) (hn' : n₀ ≤ w.heap.size) (hg : w.grownBy w1 v.ownBlock) : KpT n₀ w w1 :=
  ⟨(Below.refl n₀ w).grown hg hn' (fun k hk => Nat.le_trans hn (Kd.Own.lt' h k hk)), fun k c hk => (hg.block k (Array.getElem?_eq_some_iff.1 hk).1 (fun e' => by
    obtain ⟨c', hc⟩ := h.cells k e'.symm
    rw [hk] at hc
    injection hc with hc
    injection hc with _ hc
    exact he hc.symm)).trans hk⟩
theorem Boxed.ne_own {α : Type} {d : Kd α} {t e : TypeId} {w : World} {base B : Nat} {ok : Nat → Prop} {xs : List α} {u v : Value} (hb : Boxed w B t u) (h : d.Own e w base ok xs v) (hte : t ≠ e) : some B ≠ v.ownBlock := fun e' => by
  obtain ⟨c, hc⟩ := h.cells B e'.symm
  rw [show w.heap[B]? = _ from hb] at hc
  injection hc with hc
  injection hc with _ hc
  exact hte hc
theorem KeepsFrom.of_below {B : Nat} {w w1 : World} (h : Below w.heap.size w w1) : KeepsFrom B w w1 := ⟨h.size, fun k o _ hk _ => block_below h (Array.getElem?_eq_some_iff.1 hk).1 hk⟩
theorem boxed_below {w W : World} {B : Nat} {t : TypeId} {v : Value} (h : Boxed w B t v) (hb : Below w.heap.size w W) : Boxed W B t v := block_below hb h.lt h
/-- Whatever is no cell may turn from B on. -/
theorem own_from {α : Type} {d : Kd α} {e : TypeId} {β : Type} {B base : Nat} {ok : Nat → Prop} (hok : ∀ b, ok b → b < B) (f : β → List α) (v : β → Value) : OwnFrom B (fun s W => d.Own e W base ok (f s) (v s)) := fun s X Y row hs hg hr =>
  Kd.Own.grown hg (fun b hb e => by have := (hr b e.symm).1; have := hok b hb; omega) (by
    cases hv : (v s).ownBlock with
    | none => exact .inl rfl
    | some k =>
      refine .inr (fun e => ?_)
      obtain ⟨c, hc⟩ := Kd.Own.cells hs k hv
      obtain ⟨_, o, ho, hoc⟩ := hr k e.symm
      rw [hc] at ho; cases ho; cases hoc) hs

section
variable {P : Program} {F : Fence} {nF : Nat} {ops : Array Oper} {rest : List Oper} {o : Oper} {a : Act} {Q : Exit → Act → World → Prop}
/-- append(v, y), within a fence. -/
theorem Kd.appendIn {α : Type} (d : Kd α) {W : World} (base : Nat) (ok : Nat → Prop) (hgd : o.guard = none) (s x : Operand) (t e : TypeId) (z : Value) (bytes : Nat)
    (ho : o.op = .call { callee := .builtin .append, args := #[s, x], argTypes := #[t, t] })
    (ht : P.underlying t = some (.slice e)) (hinfo : (P.info? e).map (fun i => (i.zero, i.size, i.bytes)) = some (some z, d.sz, bytes)) (hz : z.cells.size = d.sz) (hb0 : 0 < bytes)
    (v : Value) (xs : List α) (y : α) (cs : List Value) (hs : a.eval s = v) (hx : a.eval x = .slice (some ⟨W.heap.size, 0, none⟩) 1 1)
    (hy : d.K W (fun b => ok b ∧ some b ≠ v.ownBlock) y cs) (HO : d.Own e W base ok xs v) (hbase : base ≤ W.heap.size) (hl : (xs.length + 1) * bytes ≤ 140737488355328)
    (h : ∀ v1 w1, d.Own e w1 base ok (xs ++ [y]) v1 → W.grownBy w1 v.ownBlock → (v1.ownBlock = v.ownBlock ∨ ∃ b, v1.ownBlock = some b ∧ W.heap.size ≤ b) → wpListIn F nF P ops Q rest (a.put o.dst v1) w1) :
    wpListIn F nF P ops Q (o :: rest) a (W.alloc (.cells cs.toArray e)) := by
  obtain ⟨i0, hi, hzz⟩ := Option.map_eq_some_iff.1 hinfo
  simp only [Prod.mk.injEq] at hzz
  obtain ⟨hz0, hz1, hz2⟩ := hzz
  obtain ⟨cells, h1, h2⟩ := HO
  have hlen : xs.length + 1 ≤ 140737488355328 := Nat.le_trans (Nat.le_mul_of_pos_right _ hb0) hl
  have hcl := d.len hy
  refine wpListIn_append_own_at (W.alloc (.cells cs.toArray e)) hgd s x t ho base e i0 z d.sz bytes ht hi hz0 hz1 hz2 hz d.pos v xs.length cells hs (h1.alloc _) ⟨W.heap.size, 0, none⟩ 1 1 cs hx (by rw [hcl]; omega)
    (by simpa using World.news_of_block (w := W.alloc (.cells cs.toArray e)) (cs := cs.toArray) (t := e) (fr := (0, 0)) (heap_alloc_new W _)) (d.one hy) (by simp only [maxLen]; omega) hl (by simp; omega) ?_
  intro v1 w1 hown hg _ hat
  have hgW : W.grownBy w1 v.ownBlock := World.grownBy.trans (World.grownBy_alloc W _ _) hg
  have hat' : v1.ownBlock = v.ownBlock ∨ ∃ b, v1.ownBlock = some b ∧ W.heap.size ≤ b := by
    rcases hat with hat | hat
    · exact .inl hat
    · exact .inr ⟨_, hat, by simp⟩
  have hmv : ∀ x c, d.K W (fun b => ok b ∧ some b ≠ v.ownBlock) x c → d.K w1 (fun b => ok b ∧ some b ≠ v1.ownBlock) x c := by
    intro x c hk
    have hb := d.bound hk
    refine d.mono ?_ (d.move (fun b hb => hgW.block b hb.2 hb.1.2) hb)
    rintro b ⟨⟨hb1, hb2⟩, hb3⟩
    refine ⟨hb1, ?_⟩
    rcases hat' with hat | ⟨b', hat, hle⟩
    · rw [hat]; exact hb2
    · rw [hat]; intro he; injection he; omega
  have hcl2 : cells.length = xs.length * d.sz := h1.1
  refine h v1 w1 ⟨cells ++ cs, by simpa using hown, fun j x hx => ?_⟩ hgW hat'
  rcases Nat.lt_or_ge j xs.length with hj | hj
  · rw [List.getElem?_append_left hj] at hx
    have := hmv _ _ (h2 j x hx)
    have hjs : j * d.sz + d.sz ≤ cells.length := by rw [hcl2, ← Nat.succ_mul]; exact Nat.mul_le_mul_right _ hj
    rwa [List.drop_append_of_le_length (by omega), List.take_append_of_le_length (by rw [List.length_drop]; omega)]
  · rw [List.getElem?_append_right hj] at hx
    obtain rfl : j = xs.length := by
      have := (List.getElem?_eq_some_iff.1 hx).1
      simp at this; omega
    simp only [Nat.sub_self, List.getElem?_cons_zero, Option.some.injEq] at hx
    subst hx
    have := hmv _ _ hy
    rw [← hcl2, List.drop_left, ← hcl, List.take_length]
    exact this
end

/-- The variables among some nodes, in order. -/
def nums (l : List (Nat × Tm)) : List Int := l.flatMap fun x => if x.2.k = 1 then [x.2.n] else []
theorem nums_append (l m : List (Nat × Tm)) : nums (l ++ m) = nums l ++ nums m := by simp [nums]
theorem nums_length (l : List (Nat × Tm)) : (nums l).length ≤ l.length := by
  induction l with
  | nil => simp [nums]
  | cons x l ih =>
    rw [show x :: l = [x] ++ l from rfl, nums_append, List.length_append, List.length_append]
    have : (nums [x]).length ≤ 1 := by simp only [nums, List.flatMap_cons, List.flatMap_nil, List.append_nil]; split <;> simp
    simp only [List.length_singleton]
    omega
mutual
theorem nums_nodes : ∀ (t : Tm) (d : Nat), nums (t.nodes d) = t.occ
  | ⟨k, s, n, l⟩, d => by
    simp only [Tm.nodes, nums, List.flatMap_cons, Tm.occ]
    rw [show (nodesL l (d + 1)).flatMap (fun x => if x.2.k = 1 then [x.2.n] else []) = nums (nodesL l (d + 1)) from rfl, nums_nodesL l (d + 1)]
theorem nums_nodesL : ∀ (l : List Tm) (d : Nat), nums (nodesL l d) = occL l
  | [], d => rfl
  | t :: ts, d => by rw [nodesL, nums_append, nums_nodes t d, nums_nodesL ts d, occL]
end
end Go.Proofs.Ytdflckjnpgbjlaa

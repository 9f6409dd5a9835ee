/- For the law CodeBreaks: prefixes, rows of the call's own as they lie, a great row of instructions. No condition. -/
import Derived.Test.YtdflckjnpgbjlaaCp
import Derived.Laws.MakeOwn
set_option linter.unusedVariables false
set_option maxRecDepth 20000
set_option linter.unusedSimpArgs false
namespace Go.Proofs.Ytdflckjnpgbjlaa
open Go.RowKit

theorem Kd.S.pfx {α : Type} {d : Kd α} {w : World} {ok : Nat → Prop} {xs : List α} {A : Option Addr} {n c k : Nat} (h : d.S w ok xs (.slice A n c)) (hk : k ≤ xs.length) (h0 : 0 < k) : d.S w ok (xs.take k) (.slice A k c) := by
  obtain ⟨A', c', e, h1, h2, h3⟩ := h
  injection e with e1 e2 e3
  subst e1 e3
  have hl : (xs.take k).length = k := by rw [List.length_take]; omega
  obtain ⟨b, o, ha, hb, ht⟩ := h3.resolve_left (by rintro ⟨rfl, _⟩; simp at hk; omega)
  refine ⟨A, c, by rw [hl], by omega, h2, .inr ⟨b, o, ha, hb, fun j x hx => ht j x ?_⟩⟩
  rw [List.getElem?_take] at hx
  split at hx
  · exact hx
  · cases hx
/-- A row of the call's own, as it lies. -/
theorem Kd.Own.at_ {α : Type} {d : Kd α} {e : TypeId} {w : World} {base : Nat} {ok : Nat → Prop} {xs : List α} {A : Option Addr} {n c : Nat} (h : d.Own e w base ok xs (.slice A n c)) (hx : xs ≠ []) :
    ∃ g, A = some ⟨g, 0, none⟩ ∧ base ≤ g ∧ g < w.heap.size ∧ d.At w ok xs g 0 ∧ (∀ o, w.frozen? ⟨g, o, none⟩ = false) ∧ xs.length ≤ c ∧ c ≤ maxLen := by
  have hlt := h.lt
  have hS := h.S
  obtain ⟨cells, hr, hK⟩ := h
  obtain ⟨hl, h2⟩ := hr
  rcases h2 with ⟨_, hn⟩ | ⟨g, cap, cur, hv, hg, hh, hc1, hc2, hc3, ht⟩
  · exact absurd (List.eq_nil_of_length_eq_zero hn) hx
  · have hr' : w.ownsRow base e d.sz (.slice A n c) xs.length cells := ⟨hl, .inr ⟨g, cap, cur, hv, hg, hh, hc1, hc2, hc3, ht⟩⟩
    injection hv with e1 e2 e3
    subst e1 e2 e3
    refine ⟨g, rfl, hg, (Array.getElem?_eq_some_iff.1 hh).1, fun j x hx => ⟨_, d.mono (fun b hb => hb.1) (hK j x hx), fun i u hu => ?_⟩, fun o => by simp [World.frozen?, hh], hc1, hc2⟩
    have hcell := hr'.cells (g := g) rfl (j * d.sz + i) u (by
      rw [List.getElem?_take] at hu
      split at hu
      · rwa [List.getElem?_drop] at hu
      · cases hu)
    rw [add_plain] at hcell
    rw [show 0 + j * d.sz + i = j * d.sz + i by omega]
    exact hcell
theorem cell_set_ne (w : World) (b o o' : Nat) (v : Value) (h : o' ≠ o) : (w.setCell ⟨b, o, none⟩ v).cell? ⟨b, o', none⟩ = w.cell? ⟨b, o', none⟩ :=
  World.cell?_setCell_other _ _ _ _ (fun e => h (by injection e with _ e; exact e.symm))
/-- Another place in one instruction. -/
theorem at_setA {w : World} {ok : Nat → Prop} {l : List In} {g : Nat} (h : (Kd.inq .u8).At w ok l g 0) (hok : ∀ b, ok b → b ≠ g) {i : Nat} (hi : i < l.length) (n : Int) :
    (Kd.inq .u8).At (w.setCell ⟨g, i * 7 + 1, none⟩ (.int .i64 n)) ok (l.set i ⟨l[i].op, n, l[i].b, l[i].kd, l[i].s, l[i].n, l[i].cs⟩) g 0 := by
  have hsz : (Kd.inq .u8).sz = 7 := rfl
  intro j x hx
  by_cases hj : j = i
  · subst hj
    rw [List.getElem?_set_self (by omega)] at hx
    injection hx with hx
    subst hx
    obtain ⟨cs, ⟨u, rfl, hS⟩, hc⟩ := h j l[j] (List.getElem?_eq_getElem hi)
    rw [hsz] at hc ⊢
    have hc0 := hc 1 _ rfl
    rw [Nat.zero_add] at hc0
    refine ⟨_, ⟨u, rfl, Kd.S.move (fun b hb => Below.heap_setCell _ _ _ _ (by show b ≠ g; exact hok b hb)) hS⟩, fun q v hq => ?_⟩
    match q, hq with
    | 0, hq => rw [Nat.zero_add, cell_set_ne _ _ _ _ _ (by omega)]; simpa using hc 0 v hq
    | 1, hq =>
      simp at hq
      subst hq
      rw [Nat.zero_add]
      exact World.cell?_setCell_same _ _ _ hc0
    | q + 2, hq => rw [Nat.zero_add, cell_set_ne _ _ _ _ _ (by omega)]; simpa using hc (q + 2) v (by simpa using hq)
  · rw [List.getElem?_set_ne (by omega)] at hx
    obtain ⟨cs, hk, hc⟩ := h j x hx
    refine ⟨cs, (Kd.inq .u8).move (fun b hb => Below.heap_setCell _ _ _ _ (by show b ≠ g; exact hok b hb)) hk, fun q v hq => ?_⟩
    have hq7 : q < 7 := by
      have h1 := (List.getElem?_eq_some_iff.1 hq).1
      have h2 := (Kd.inq .u8).len hk
      omega
    have := hc q v hq
    rw [hsz] at this ⊢
    rw [cell_set_ne _ _ _ _ _ (by omega)]
    exact this
/-- A great row of instructions: the first k are proceeds, the others are nothing. -/
structure Many (B k : Nat) (W : World) : Prop where
  op : ∀ j, j < 16385 → W.cell? ⟨B, j * 7, none⟩ = some (.int .u8 (if j < k then 5 else 0))
  more : ∀ j, j < 16385 → ∀ i u, ([.int .i64 0, .int .i64 0, .int .u8 0, .string ⟨#[]⟩, .int .i64 0, .slice none 0 0] : List Value)[i]? = some u → W.cell? ⟨B, j * 7 + 1 + i, none⟩ = some u
  free : ∀ o, W.frozen? ⟨B, o, none⟩ = false
def zIn : Array Value := #[.int .u8 0, .int .i64 0, .int .i64 0, .int .u8 0, .string ⟨#[]⟩, .int .i64 0, .slice none 0 0]
theorem made_at {q i : Nat} {u : Value} (hi : zIn[i]? = some u) (hq : q < 16385) : (madeCells zIn (16385 * 7))[q * 7 + i]? = some u := by
  have hi7 : i < 7 := (Array.getElem?_eq_some_iff.1 hi).1
  unfold madeCells
  rw [Array.getElem?_map, Array.getElem?_range, if_pos (by omega)]
  have hz : zIn.size = 7 := rfl
  simp only [Option.map_some, hz]
  rw [show (q * 7 + i) % 7 = i by omega]
  obtain ⟨h1, h2⟩ := Array.getElem?_eq_some_iff.1 hi
  rw [getElem!_pos zIn i h1, h2]
theorem cells_get {W : World} {B : Nat} {c : Array Value} {t : TypeId} (h : W.heap[B]? = some (.cells c t (0, 0))) (o : Nat) : W.cell? ⟨B, o, none⟩ = c[o]? ∧ W.frozen? ⟨B, o, none⟩ = false := by
  simp [World.cell?, World.frozen?, h]
theorem Many.made (W : World) (t : TypeId) : Many W.heap.size 0 (W.alloc (.cells (madeCells zIn (16385 * 7)) t)) := by
  have hb := heap_new W (.cells (madeCells zIn (16385 * 7)) t)
  have hc := fun o => (cells_get hb o).1
  refine ⟨fun j hj => ?_, fun j hj i u hu => ?_, fun o => (cells_get hb o).2⟩
  · rw [hc, if_neg (by omega)]
    exact made_at (i := 0) rfl hj
  · rw [hc, Nat.add_assoc]
    refine made_at (i := 1 + i) ?_ hj
    match i, hu with
    | 0, hu => exact hu
    | 1, hu => exact hu
    | 2, hu => exact hu
    | 3, hu => exact hu
    | 4, hu => exact hu
    | 5, hu => exact hu
    | i + 6, hu => simp at hu
theorem Many.below {B k : Nat} {W W' : World} {N : Nat} (h : Many B k W) (hb : Below N W W') (hB : B < N) : Many B k W' :=
  ⟨fun j hj => cell_below hb (h.op j hj) hB, fun j hj i u hu => cell_below hb (h.more j hj i u hu) hB, fun o => frozen_below hb (h.free o) hB⟩
theorem Many.step {B k : Nat} {W : World} (h : Many B k W) (hk : k < 16385) : Many B (k + 1) (W.setCell ⟨B, k * 7, none⟩ (.int .u8 5)) := by
  refine ⟨fun j hj => ?_, fun j hj i u hu => ?_, fun o => by rw [World.frozen?_setCell]; exact h.free o⟩
  · by_cases e : j = k
    · subst e
      rw [World.cell?_setCell_same _ _ _ (h.op j hj), if_pos (by omega)]
    · rw [cell_set_ne _ _ _ _ _ (by omega), h.op j hj]
      congr 2
      by_cases h1 : j < k
      · rw [if_pos h1, if_pos (by omega)]
      · rw [if_neg h1, if_neg (by omega)]
  · have hi : i < 6 := (List.getElem?_eq_some_iff.1 hu).1
    rw [cell_set_ne _ _ _ _ _ (by omega)]
    exact h.more j hj i u hu
theorem Many.S {B : Nat} {W : World} (h : Many B 16385 W) {q n : Nat} (hq : q + n = 16385) : (Kd.inq .u8).S W (fun _ => True) (List.replicate n K22.iP) (.slice (some ⟨B, q * 7, none⟩) n n) := by
  have hl : (List.replicate n K22.iP).length = n := List.length_replicate
  refine ⟨some ⟨B, q * 7, none⟩, n, by rw [hl], by rw [hl]; exact Nat.le_refl _, by unfold maxLen; omega, .inr ⟨B, q * 7, rfl, trivial, fun j x hx => ?_⟩⟩
  have hj : j < n := by have := (List.getElem?_eq_some_iff.1 hx).1; omega
  rw [List.getElem?_replicate, if_pos hj] at hx
  injection hx with hx
  subst hx
  have hsz : (Kd.inq .u8).sz = 7 := rfl
  rw [hsz]
  refine ⟨[.int .u8 5, .int .i64 0, .int .i64 0, .int .u8 0, .string ⟨#[]⟩, .int .i64 0, .slice none 0 0], ⟨_, rfl, Kd.S.nil _ _ _⟩, fun i u hu => ?_⟩
  match i, hu with
  | 0, hu =>
    have := h.op (q + j) (by omega)
    rw [if_pos (by omega)] at this
    simp at hu
    subst hu
    rw [Nat.add_zero, ← Nat.add_mul]
    exact this
  | i + 1, hu =>
    have := h.more (q + j) (by omega) i u (by simpa using hu)
    rw [← Nat.add_mul, show (q + j) * 7 + (i + 1) = (q + j) * 7 + 1 + i by omega]
    exact this
theorem Try.infoCI : (Try.prog.info? 65).map (fun i => (i.zero, i.size, i.bytes)) = some (some (.agg #[.int .u8 0, .int .i64 0, .int .i64 0, .int .u8 0, .string ⟨#[]⟩, .int .i64 0, .slice none 0 0]), 7, 80) := by kernel_rfl
theorem make_many (w : World) : (Instr.makeSlice 54 (.int .i64 16385) (.int .i64 16385)).run Try.prog w = .ok (.slice (some ⟨w.heap.size, 0, none⟩) 16385 16385) (w.alloc (.cells (madeCells zIn (16385 * 7)) 65)) := by
  obtain ⟨i, hi, hzz⟩ := Option.map_eq_some_iff.1 Try.infoCI
  simp only [Prod.mk.injEq] at hzz
  obtain ⟨hz0, hz1, hz2⟩ := hzz
  have := run_makeSlice (P := Try.prog) w 54 65 i _ Try.underlying54 hi hz0 .i64 .i64 16385 16385 (by omega) (by omega) (by rw [hz1]; decide) (by rw [hz2]; decide) (by decide)
  rw [hz1] at this
  exact this
end Go.Proofs.Ytdflckjnpgbjlaa

import Derived.WalkKit
import Derived.WalkLawsBesides
import Derived.WalkSpells
import Derived.Below
import Derived.Outline
import Derived.KernelRfl
import Derived.IntWalk
import Derived.Lib.Hide
import Derived.Maps.AppendAt
import Derived.RangeFuncBox
import Derived.Deep.AppendLies
import Derived.Laws.NewBlocks
import Derived.Test.YtgcbanljifalnaaDoorProg
import Derived.ProofKit
import Derived.OpenShut
import Derived.ShutString
import Derived.ChangeOld
import Derived.SizedLaws
import Derived.ChangeArms
set_option linter.unusedVariables false
set_option maxRecDepth 20000
set_option linter.unusedSimpArgs false
/- How Go's data lie in memory: kinds of values, slices of them that are read, rows of a call's own; finite terms. No condition. -/
namespace Go.Proofs.YtgcbanljifalnaaDoor
open Go.RowKit

/-- What a call keeps: every block that was there, but those of S. -/
structure Keeps (S : Nat → Prop) (w w' : World) : Prop where
  os : w'.os = w.os
  tape : w'.tape = w.tape
  output : w'.output = w.output
  size : w.heap.size ≤ w'.heap.size
  block : ∀ k, k < w.heap.size → ¬ S k → w'.heap[k]? = w.heap[k]?

theorem Keeps.refl (S : Nat → Prop) (w : World) : Keeps S w w := ⟨rfl, rfl, rfl, Nat.le_refl _, fun _ _ _ => rfl⟩
theorem Keeps.trans {S : Nat → Prop} {a b c : World} (h : Keeps S a b) (k : Keeps (fun i => S i ∨ a.heap.size ≤ i) b c) : Keeps S a c :=
  ⟨k.os.trans h.os, k.tape.trans h.tape, k.output.trans h.output, Nat.le_trans h.size k.size,
    fun i hi hs => (k.block i (Nat.lt_of_lt_of_le hi h.size) (by rintro (h' | h'); exact hs h'; omega)).trans (h.block i hi hs)⟩
theorem Keeps.mono {S S' : Nat → Prop} {w w' : World} (h : Keeps S w w') (hs : ∀ i, S i → S' i) : Keeps S' w w' :=
  ⟨h.os, h.tape, h.output, h.size, fun k hk hn => h.block k hk (fun x => hn (hs _ x))⟩
theorem Keeps.of_below {S : Nat → Prop} {w w' : World} (h : Below w.heap.size w w') : Keeps S w w' :=
  ⟨h.os, h.tape, h.output, h.size, fun k hk _ => h.block k hk⟩
theorem Keeps.below {w w' : World} (h : Keeps (fun _ => False) w w') : Below w.heap.size w w' :=
  ⟨h.os, h.tape, h.output, h.size, fun k hk => h.block k hk (fun x => x)⟩
/-- Behind a step that keeps all that there is. -/
theorem below_then {B : Nat} {w w1 w2 : World} (h : Below B w w1) (hB : B ≤ w1.heap.size) (k : Below w1.heap.size w1 w2) : Below B w w2 :=
  h.trans (k.mono hB)
theorem cell_below {B : Nat} {w w1 : World} (h : Below B w w1) {b o : Nat} {v : Value} (hc : w.cell? ⟨b, o, none⟩ = some v) (hb : b < B) : w1.cell? ⟨b, o, none⟩ = some v :=
  (h.cell (p := ⟨b, o, none⟩) hb).trans hc
theorem frozen_below {B : Nat} {w w1 : World} (h : Below B w w1) {b o : Nat} {v : Bool} (hc : w.frozen? ⟨b, o, none⟩ = v) (hb : b < B) : w1.frozen? ⟨b, o, none⟩ = v :=
  (h.frozen (p := ⟨b, o, none⟩) hb).trans hc
theorem cell_of_block {w w' : World} {b : Nat} (h : w'.heap[b]? = w.heap[b]?) (o : Nat) : w'.cell? ⟨b, o, none⟩ = w.cell? ⟨b, o, none⟩ :=
  World.cell?_of_block (a := ⟨b, o, none⟩) h
theorem cell_lt {w : World} {b o : Nat} {v : Value} (h : w.cell? ⟨b, o, none⟩ = some v) : b < w.heap.size := World.block_lt_of_cell? w ⟨b, o, none⟩ h
theorem add_plain (g j : Nat) : (⟨g, 0, none⟩ : Addr).add j = ⟨g, j, none⟩ := by unfold Addr.add; split <;> simp_all
theorem add_off (g o j : Nat) : (⟨g, o, none⟩ : Addr).add j = ⟨g, o + j, none⟩ := by unfold Addr.add; split <;> simp_all

/-! ### Kinds -/
/-- A kind of values: how many cells one has, and what they say; 'ok': the blocks that the slices inside lie in. -/
structure Kd (α : Type) where
  sz : Nat
  pos : 0 < sz
  K : World → (Nat → Prop) → α → List Value → Prop
  len : ∀ {w ok x cs}, K w ok x cs → cs.length = sz
  one : ∀ {w ok x cs}, K w ok x cs → ∀ u ∈ cs, u.oneCell' = true
  move : ∀ {w w' : World} {ok : Nat → Prop} {x cs}, (∀ b, ok b → w'.heap[b]? = w.heap[b]?) → K w ok x cs → K w' ok x cs
  mono : ∀ {w} {ok ok' : Nat → Prop} {x cs}, (∀ b, ok b → ok' b) → K w ok x cs → K w ok' x cs
  bound : ∀ {w : World} {ok : Nat → Prop} {x cs}, K w ok x cs → K w (fun b => ok b ∧ b < w.heap.size) x cs

namespace Kd
/-- The elements lie from cell o of block b on. -/
def At {α : Type} (d : Kd α) (w : World) (ok : Nat → Prop) (xs : List α) (b o : Nat) : Prop :=
  ∀ j x, xs[j]? = some x → ∃ cs, d.K w ok x cs ∧ ∀ i u, cs[i]? = some u → w.cell? ⟨b, o + j * d.sz + i, none⟩ = some u
/-- A slice that reads as a list. -/
def S {α : Type} (d : Kd α) (w : World) (ok : Nat → Prop) (xs : List α) (v : Value) : Prop :=
  ∃ A c, v = .slice A xs.length c ∧ xs.length ≤ c ∧ c ≤ maxLen ∧ ((xs = [] ∧ (A = none → c = 0)) ∨ ∃ b o, A = some ⟨b, o, none⟩ ∧ ok b ∧ d.At w ok xs b o)
section
variable {α : Type} {d : Kd α} {w w' : World} {ok ok' : Nat → Prop} {xs : List α} {v : Value} {b o : Nat}
theorem At.head_lt (h : d.At w ok xs b o) (hx : xs ≠ []) : b < w.heap.size := by
  cases xs with
  | nil => exact absurd rfl hx
  | cons x xs =>
    obtain ⟨cs, hk, hc⟩ := h 0 x rfl
    have hl := d.len hk
    have hp := d.pos
    cases cs with
    | nil => simp at hl; omega
    | cons c cs => exact cell_lt (hc 0 c rfl)
theorem At.move (hm : ∀ b, ok b → w'.heap[b]? = w.heap[b]?) (hb : w'.heap[b]? = w.heap[b]?) (h : d.At w ok xs b o) : d.At w' ok xs b o := fun j x hx => by
  obtain ⟨cs, hk, hc⟩ := h j x hx
  exact ⟨cs, d.move hm hk, fun i u hu => (cell_of_block hb _).trans (hc i u hu)⟩
theorem At.mono (hm : ∀ b, ok b → ok' b) (h : d.At w ok xs b o) : d.At w ok' xs b o := fun j x hx => by
  obtain ⟨cs, hk, hc⟩ := h j x hx
  exact ⟨cs, d.mono hm hk, hc⟩
theorem At.bound (h : d.At w ok xs b o) : d.At w (fun b => ok b ∧ b < w.heap.size) xs b o := fun j x hx => by
  obtain ⟨cs, hk, hc⟩ := h j x hx
  exact ⟨cs, d.bound hk, hc⟩
theorem S.move (hm : ∀ b, ok b → w'.heap[b]? = w.heap[b]?) (h : d.S w ok xs v) : d.S w' ok xs v := by
  obtain ⟨A, c, e, h1, h2, h3⟩ := h
  exact ⟨A, c, e, h1, h2, h3.imp id fun ⟨b, o, ha, hb, ht⟩ => ⟨b, o, ha, hb, At.move hm (hm b hb) ht⟩⟩
theorem S.mono (hm : ∀ b, ok b → ok' b) (h : d.S w ok xs v) : d.S w ok' xs v := by
  obtain ⟨A, c, e, h1, h2, h3⟩ := h
  exact ⟨A, c, e, h1, h2, h3.imp id fun ⟨b, o, ha, hb, ht⟩ => ⟨b, o, ha, hm b hb, At.mono hm ht⟩⟩
theorem S.bound (h : d.S w ok xs v) : d.S w (fun b => ok b ∧ b < w.heap.size) xs v := by
  obtain ⟨A, c, e, h1, h2, h3⟩ := h
  refine ⟨A, c, e, h1, h2, ?_⟩
  by_cases hx : xs = []
  · refine .inl ⟨hx, ?_⟩
    rcases h3 with h3 | ⟨b, o, ha, _⟩
    · exact h3.2
    · intro hn; rw [ha] at hn; cases hn
  · obtain ⟨b, o, ha, hb, ht⟩ := h3.resolve_left (fun h => hx h.1)
    exact .inr ⟨b, o, ha, ⟨hb, At.head_lt ht hx⟩, At.bound ht⟩
theorem S.below (hb : Below w.heap.size w w') (h : d.S w ok xs v) : d.S w' ok xs v :=
  S.mono (fun _ hk => hk.1) (S.move (fun k hk => hb.block k hk.2) (S.bound h))
theorem S.keeps {T : Nat → Prop} (hb : Keeps T w w') (hT : ∀ k, ok k → ¬ T k) (h : d.S w ok xs v) : d.S w' ok xs v :=
  S.mono (fun _ hk => hk.1) (S.move (fun k hk => hb.block k hk.2 (hT k hk.1)) (S.bound h))
theorem S.nil (d : Kd α) (w : World) (ok : Nat → Prop) : d.S w ok [] (.slice none 0 0) := ⟨none, 0, rfl, Nat.le_refl _, Nat.zero_le _, .inl ⟨rfl, fun _ => rfl⟩⟩
end

/-! #### the kinds -/
def scalar {α : Type} (enc : α → Value) (h1 : ∀ x, (enc x).oneCell' = true) : Kd α where
  sz := 1
  pos := by decide
  K := fun _ _ x cs => cs = [enc x]
  len := fun h => by rw [h]; rfl
  one := fun h u hu => by rw [h] at hu; rw [List.mem_singleton.1 hu]; exact h1 _
  move := fun _ h => h
  mono := fun _ h => h
  bound := fun h => h
def int (k : IntKind) : Kd Int := scalar (Value.int k) (fun _ => rfl)
def bool : Kd Bool := scalar Value.bool (fun _ => rfl)
def slice {α : Type} (d : Kd α) : Kd (List α) where
  sz := 1
  pos := by decide
  K := fun w ok xs cs => ∃ v, cs = [v] ∧ d.S w ok xs v
  len := fun ⟨_, h, _⟩ => by rw [h]; rfl
  one := fun ⟨v, h, A, c, e, _⟩ u hu => by rw [h] at hu; rw [List.mem_singleton.1 hu, e]; rfl
  move := fun hm ⟨v, h, hs⟩ => ⟨v, h, S.move hm hs⟩
  mono := fun hm ⟨v, h, hs⟩ => ⟨v, h, S.mono hm hs⟩
  bound := fun ⟨v, h, hs⟩ => ⟨v, h, S.bound hs⟩
def pair {α β : Type} (a : Kd α) (b : Kd β) : Kd (α × β) where
  sz := a.sz + b.sz
  pos := by have := a.pos; omega
  K := fun w ok x cs => ∃ c1 c2, cs = c1 ++ c2 ∧ a.K w ok x.1 c1 ∧ b.K w ok x.2 c2
  len := fun ⟨c1, c2, h, h1, h2⟩ => by rw [h, List.length_append, a.len h1, b.len h2]
  one := fun ⟨c1, c2, h, h1, h2⟩ u hu => by
    rw [h] at hu
    rcases List.mem_append.1 hu with hu | hu
    · exact a.one h1 u hu
    · exact b.one h2 u hu
  move := fun hm ⟨c1, c2, h, h1, h2⟩ => ⟨c1, c2, h, a.move hm h1, b.move hm h2⟩
  mono := fun hm ⟨c1, c2, h, h1, h2⟩ => ⟨c1, c2, h, a.mono hm h1, b.mono hm h2⟩
  bound := fun ⟨c1, c2, h, h1, h2⟩ => ⟨c1, c2, h, a.bound h1, b.bound h2⟩
end Kd

/-! ### Finite terms -/
/-- A term: its kind, name, number, arguments. -/
structure Tm where
  k : Int
  s : ByteArray
  n : Int
  l : List Tm
deriving Inhabited

mutual
def TmK (w : World) (ok : Nat → Prop) : Tm → List Value → Prop
  | ⟨k, s, n, l⟩, cs => ∃ A c, cs = [.int .u8 k, .string s, .int .i64 n, .slice A l.length c] ∧ l.length ≤ c ∧ c ≤ maxLen ∧ ((l = [] ∧ (A = none → c = 0)) ∨ ∃ b o, A = some ⟨b, o, none⟩ ∧ ok b ∧ TmL w ok l b o)
def TmL (w : World) (ok : Nat → Prop) : List Tm → Nat → Nat → Prop
  | [], _, _ => True
  | t :: ts, b, o => (∃ cs, TmK w ok t cs ∧ ∀ i u, cs[i]? = some u → w.cell? ⟨b, o + i, none⟩ = some u) ∧ TmL w ok ts b (o + 4)
end

theorem TmK.len {w : World} {ok : Nat → Prop} {t : Tm} {cs : List Value} (h : TmK w ok t cs) : cs.length = 4 := by
  cases t; simp only [TmK] at h; obtain ⟨A, c, rfl, _⟩ := h; rfl
theorem TmK.one {w : World} {ok : Nat → Prop} {t : Tm} {cs : List Value} (h : TmK w ok t cs) : ∀ u ∈ cs, u.oneCell' = true := by
  cases t; simp only [TmK] at h; obtain ⟨A, c, rfl, _⟩ := h
  intro u hu
  simp only [List.mem_cons, List.not_mem_nil, or_false] at hu
  rcases hu with rfl | rfl | rfl | rfl <;> rfl

mutual
theorem TmK.move {w w' : World} {ok : Nat → Prop} (hm : ∀ b, ok b → w'.heap[b]? = w.heap[b]?) : ∀ (t : Tm) (cs : List Value), TmK w ok t cs → TmK w' ok t cs
  | ⟨k, s, n, l⟩, cs, h => by
    simp only [TmK] at h ⊢
    obtain ⟨A, c, e, h1, h2, h3⟩ := h
    refine ⟨A, c, e, h1, h2, h3.imp id fun ⟨b, o, ha, hb, ht⟩ => ⟨b, o, ha, hb, TmL.move hm l b o (hm b hb) ht⟩⟩
theorem TmL.move {w w' : World} {ok : Nat → Prop} (hm : ∀ b, ok b → w'.heap[b]? = w.heap[b]?) : ∀ (l : List Tm) (b o : Nat), w'.heap[b]? = w.heap[b]? → TmL w ok l b o → TmL w' ok l b o
  | [], _, _, _, _ => by simp only [TmL]
  | t :: ts, b, o, hb, h => by
    simp only [TmL] at h ⊢
    obtain ⟨⟨cs, hk, hc⟩, hr⟩ := h
    exact ⟨⟨cs, TmK.move hm t cs hk, fun i u hu => (cell_of_block hb _).trans (hc i u hu)⟩, TmL.move hm ts b (o + 4) hb hr⟩
end
mutual
theorem TmK.mono {w : World} {ok ok' : Nat → Prop} (hm : ∀ b, ok b → ok' b) : ∀ (t : Tm) (cs : List Value), TmK w ok t cs → TmK w ok' t cs
  | ⟨k, s, n, l⟩, cs, h => by
    simp only [TmK] at h ⊢
    obtain ⟨A, c, e, h1, h2, h3⟩ := h
    refine ⟨A, c, e, h1, h2, h3.imp id fun ⟨b, o, ha, hb, ht⟩ => ⟨b, o, ha, hm b hb, TmL.mono hm l b o ht⟩⟩
theorem TmL.mono {w : World} {ok ok' : Nat → Prop} (hm : ∀ b, ok b → ok' b) : ∀ (l : List Tm) (b o : Nat), TmL w ok l b o → TmL w ok' l b o
  | [], _, _, _ => by simp only [TmL]
  | t :: ts, b, o, h => by
    simp only [TmL] at h ⊢
    obtain ⟨⟨cs, hk, hc⟩, hr⟩ := h
    exact ⟨⟨cs, TmK.mono hm t cs hk, hc⟩, TmL.mono hm ts b (o + 4) hr⟩
end
theorem TmL.head_lt {w : World} {ok : Nat → Prop} {l : List Tm} {b o : Nat} (h : TmL w ok l b o) (hx : l ≠ []) : b < w.heap.size := by
  cases l with
  | nil => exact absurd rfl hx
  | cons t ts =>
    simp only [TmL] at h
    obtain ⟨⟨cs, hk, hc⟩, _⟩ := h
    have hl := TmK.len hk
    cases cs with
    | nil => simp at hl
    | cons c cs => exact cell_lt (hc 0 c rfl)
mutual
theorem TmK.bound {w : World} {ok : Nat → Prop} : ∀ (t : Tm) (cs : List Value), TmK w ok t cs → TmK w (fun b => ok b ∧ b < w.heap.size) t cs
  | ⟨k, s, n, l⟩, cs, h => by
    simp only [TmK] at h ⊢
    obtain ⟨A, c, e, h1, h2, h3⟩ := h
    refine ⟨A, c, e, h1, h2, ?_⟩
    by_cases hx : l = []
    · refine .inl ⟨hx, ?_⟩
      rcases h3 with h3 | ⟨b, o, ha, _⟩
      · exact h3.2
      · intro hn; rw [ha] at hn; cases hn
    · obtain ⟨b, o, ha, hb, ht⟩ := h3.resolve_left (fun h => hx h.1)
      exact .inr ⟨b, o, ha, ⟨hb, TmL.head_lt ht hx⟩, TmL.bound l b o ht⟩
theorem TmL.bound {w : World} {ok : Nat → Prop} : ∀ (l : List Tm) (b o : Nat), TmL w ok l b o → TmL w (fun b => ok b ∧ b < w.heap.size) l b o
  | [], _, _, _ => by simp only [TmL]
  | t :: ts, b, o, h => by
    simp only [TmL] at h ⊢
    obtain ⟨⟨cs, hk, hc⟩, hr⟩ := h
    exact ⟨⟨cs, TmK.bound t cs hk, hc⟩, TmL.bound ts b (o + 4) hr⟩
end
def Kd.tm : Kd Tm where
  sz := 4
  pos := by decide
  K := fun w ok t cs => TmK w ok t cs
  len := TmK.len
  one := TmK.one
  move := fun hm h => TmK.move hm _ _ h
  mono := fun hm h => TmK.mono hm _ _ h
  bound := fun h => TmK.bound _ _ h
theorem TmL_iff {w : World} {ok : Nat → Prop} : ∀ (l : List Tm) (b o : Nat), TmL w ok l b o ↔ Kd.tm.At w ok l b o
  | [], b, o => by simp [TmL, Kd.At]
  | t :: ts, b, o => by
    simp only [TmL, TmL_iff ts b (o + 4)]
    constructor
    · rintro ⟨h1, h2⟩ j x hx
      cases j with
      | zero => simp only [List.getElem?_cons_zero, Option.some.injEq] at hx; subst hx; simpa [Kd.tm] using h1
      | succ j =>
        obtain ⟨cs, hk, hc⟩ := h2 j x (by simpa using hx)
        refine ⟨cs, hk, fun i u hu => ?_⟩
        have := hc i u hu
        rw [show o + (j + 1) * Kd.tm.sz + i = o + 4 + j * Kd.tm.sz + i by simp only [Kd.tm]; omega]
        exact this
    · intro h
      refine ⟨by simpa [Kd.tm] using h 0 t rfl, fun j x hx => ?_⟩
      obtain ⟨cs, hk, hc⟩ := h (j + 1) x (by simpa using hx)
      refine ⟨cs, hk, fun i u hu => ?_⟩
      have := hc i u hu
      rw [show o + (j + 1) * Kd.tm.sz + i = o + 4 + j * Kd.tm.sz + i by simp only [Kd.tm]; omega] at this
      exact this
/-- A term as a value: a struct of four cells, its arguments a slice. -/
def TmV (w : World) (ok : Nat → Prop) (t : Tm) (v : Value) : Prop :=
  ∃ u, v = .agg #[.int .u8 t.k, .string t.s, .int .i64 t.n, u] ∧ Kd.tm.S w ok t.l u
theorem TmK_iff {w : World} {ok : Nat → Prop} {t : Tm} {cs : List Value} : TmK w ok t cs ↔ ∃ u, cs = [.int .u8 t.k, .string t.s, .int .i64 t.n, u] ∧ Kd.tm.S w ok t.l u := by
  cases t with
  | mk k s n l =>
    simp only [TmK, Kd.S, TmL_iff]
    constructor
    · rintro ⟨A, c, h, h1⟩; exact ⟨_, h, A, c, rfl, h1⟩
    · rintro ⟨u, h, A, c, rfl, h1⟩; exact ⟨A, c, h, h1⟩
theorem TmV.move {w w' : World} {ok : Nat → Prop} {t : Tm} {v : Value} (hm : ∀ b, ok b → w'.heap[b]? = w.heap[b]?) (h : TmV w ok t v) : TmV w' ok t v := let ⟨u, e, hs⟩ := h; ⟨u, e, Kd.S.move hm hs⟩
theorem TmV.mono {w : World} {ok ok' : Nat → Prop} {t : Tm} {v : Value} (hm : ∀ b, ok b → ok' b) (h : TmV w ok t v) : TmV w ok' t v := let ⟨u, e, hs⟩ := h; ⟨u, e, Kd.S.mono hm hs⟩
theorem TmV.bound {w : World} {ok : Nat → Prop} {t : Tm} {v : Value} (h : TmV w ok t v) : TmV w (fun b => ok b ∧ b < w.heap.size) t v := let ⟨u, e, hs⟩ := h; ⟨u, e, Kd.S.bound hs⟩
theorem TmV.below {w w' : World} {ok : Nat → Prop} {t : Tm} {v : Value} (hb : Below w.heap.size w w') (h : TmV w ok t v) : TmV w' ok t v := let ⟨u, e, hs⟩ := h; ⟨u, e, Kd.S.below hb hs⟩
theorem TmV.keeps {T : Nat → Prop} {w w' : World} {ok : Nat → Prop} {t : Tm} {v : Value} (hb : Keeps T w w') (hT : ∀ k, ok k → ¬ T k) (h : TmV w ok t v) : TmV w' ok t v := let ⟨u, e, hs⟩ := h; ⟨u, e, Kd.S.keeps hb hT hs⟩
/-- Element j of a slice of terms: its four cells. -/
theorem tm_at {w : World} {ok : Nat → Prop} {l : List Tm} {b o : Nat} (h : Kd.tm.At w ok l b o) {j : Nat} (hj : j < l.length) :
    ∃ u, w.cell? ⟨b, o + j * 4, none⟩ = some (.int .u8 l[j].k) ∧ w.cell? ⟨b, o + j * 4 + 1, none⟩ = some (.string l[j].s) ∧ w.cell? ⟨b, o + j * 4 + 2, none⟩ = some (.int .i64 l[j].n) ∧
      w.cell? ⟨b, o + j * 4 + 3, none⟩ = some u ∧ Kd.tm.S w ok l[j].l u := by
  obtain ⟨cs, hk, hc⟩ := h j l[j] (List.getElem?_eq_getElem hj)
  obtain ⟨u, rfl, hs⟩ := TmK_iff.1 hk
  exact ⟨u, hc 0 _ rfl, hc 1 _ rfl, hc 2 _ rfl, hc 3 _ rfl, hs⟩


/-- Element j of a slice of terms: where it lies, its four cells. -/
theorem tm_elem {w : World} {ok : Nat → Prop} {l : List Tm} {A : Option Addr} {c : Nat} (h : (l = [] ∧ (A = none → c = 0)) ∨ ∃ b o, A = some ⟨b, o, none⟩ ∧ ok b ∧ Kd.tm.At w ok l b o) {j : Nat} (hj : j < l.length) :
    ∃ b o u, A = some ⟨b, o, none⟩ ∧ ok b ∧ b < w.heap.size ∧ w.cell? ⟨b, o + j * 4, none⟩ = some (.int .u8 l[j].k) ∧ w.cell? ⟨b, o + j * 4 + 1, none⟩ = some (.string l[j].s) ∧ w.cell? ⟨b, o + j * 4 + 2, none⟩ = some (.int .i64 l[j].n) ∧
      w.cell? ⟨b, o + j * 4 + 3, none⟩ = some u ∧ Kd.tm.S w ok l[j].l u := by
  obtain ⟨b, o, ha, hb, ht⟩ := h.resolve_left (by rintro ⟨rfl, _⟩; simp at hj)
  obtain ⟨u, h1, h2⟩ := tm_at ht hj
  exact ⟨b, o, u, ha, hb, cell_lt h1, h1, h2⟩
/-- Element j of a slice of values of one cell. -/
theorem one_elem {α : Type} {enc : α → Value} {h1 : ∀ x, (enc x).oneCell' = true} {w : World} {ok : Nat → Prop} {l : List α} {A : Option Addr} {c : Nat} (h : (l = [] ∧ (A = none → c = 0)) ∨ ∃ b o, A = some ⟨b, o, none⟩ ∧ ok b ∧ (Kd.scalar enc h1).At w ok l b o) {j : Nat} (hj : j < l.length) :
    ∃ b o, A = some ⟨b, o, none⟩ ∧ ok b ∧ b < w.heap.size ∧ w.cell? ⟨b, o + j, none⟩ = some (enc l[j]) := by
  obtain ⟨b, o, ha, hb, ht⟩ := h.resolve_left (by rintro ⟨rfl, _⟩; simp at hj)
  obtain ⟨cs, hk, hc⟩ := ht j l[j] (List.getElem?_eq_getElem hj)
  have hk : cs = [enc l[j]] := hk
  subst hk
  have := hc 0 _ rfl
  simp only [Kd.scalar, Nat.mul_one, Nat.add_zero] at this
  exact ⟨b, o, ha, hb, cell_lt this, this⟩
theorem int_elem {k : IntKind} {w : World} {ok : Nat → Prop} {l : List Int} {A : Option Addr} {c : Nat} (h : (l = [] ∧ (A = none → c = 0)) ∨ ∃ b o, A = some ⟨b, o, none⟩ ∧ ok b ∧ (Kd.int k).At w ok l b o) {j : Nat} (hj : j < l.length) :
    ∃ b o, A = some ⟨b, o, none⟩ ∧ ok b ∧ b < w.heap.size ∧ w.cell? ⟨b, o + j, none⟩ = some (.int k l[j]) := one_elem h hj

/-! ### Rows of the call's own -/
/-- v is a slice from the head of a row of the call's own (block ≥ base, element type e) that reads as xs; what its elements lead to is ok, and none of that row. -/
def Kd.Own {α : Type} (d : Kd α) (e : TypeId) (w : World) (base : Nat) (ok : Nat → Prop) (xs : List α) (v : Value) : Prop :=
  ∃ cells, w.ownsRow base e d.sz v xs.length cells ∧ ∀ j x, xs[j]? = some x → d.K w (fun b => ok b ∧ some b ≠ v.ownBlock) x ((cells.drop (j * d.sz)).take d.sz)
namespace Kd
section
variable {α : Type} {d : Kd α} {e : TypeId} {w w' : World} {base : Nat} {ok ok' : Nat → Prop} {xs : List α} {v : Value}
theorem Own.nil (d : Kd α) (e : TypeId) (w : World) (base : Nat) (ok : Nat → Prop) : d.Own e w base ok [] (.slice none 0 0) :=
  ⟨[], World.ownsRow_nil _ _ _ _, fun j x hx => by simp at hx⟩
theorem ownsRow_move {size n : Nat} {cells : List Value} (h : w.ownsRow base e size v n cells) (hm : ∀ k, v.ownBlock = some k → w'.heap[k]? = w.heap[k]?) : w'.ownsRow base e size v n cells := by
  obtain ⟨h1, h2⟩ := h
  refine ⟨h1, ?_⟩
  rcases h2 with h2 | ⟨g, cap, cur, rfl, hg, hh, r⟩
  · exact .inl h2
  · exact .inr ⟨g, cap, cur, rfl, hg, (hm g (by simp [Value.ownBlock])).trans hh, r⟩
theorem Own.lt (h : d.Own e w base ok xs v) : ∀ k, v.ownBlock = some k → base ≤ k ∧ k < w.heap.size := by
  obtain ⟨cells, h1, _⟩ := h
  exact h1.lt
theorem Own.mono (hm : ∀ b, ok b → ok' b) (h : d.Own e w base ok xs v) : d.Own e w base ok' xs v := by
  obtain ⟨cells, h1, h2⟩ := h
  exact ⟨cells, h1, fun j x hx => d.mono (fun b hb => ⟨hm b hb.1, hb.2⟩) (h2 j x hx)⟩
theorem Own.bound (h : d.Own e w base ok xs v) : d.Own e w base (fun b => ok b ∧ b < w.heap.size) xs v := by
  obtain ⟨cells, h1, h2⟩ := h
  exact ⟨cells, h1, fun j x hx => d.mono (fun b hb => ⟨⟨hb.1.1, hb.2⟩, hb.1.2⟩) (d.bound (h2 j x hx))⟩
theorem Own.move (hm : ∀ b, ok b → w'.heap[b]? = w.heap[b]?) (ho : ∀ k, v.ownBlock = some k → w'.heap[k]? = w.heap[k]?) (h : d.Own e w base ok xs v) : d.Own e w' base ok xs v := by
  obtain ⟨cells, h1, h2⟩ := h
  exact ⟨cells, ownsRow_move h1 ho, fun j x hx => d.move (fun b hb => hm b hb.1) (h2 j x hx)⟩
theorem Own.below (hb : Below w.heap.size w w') (h : d.Own e w base ok xs v) : d.Own e w' base ok xs v :=
  Own.mono (fun _ hk => hk.1) (Own.move (fun k hk => hb.block k hk.2) (fun k hk => hb.block k (Own.lt h k hk).2) (Own.bound h))
theorem Own.keeps {T : Nat → Prop} (hb : Keeps T w w') (hT : ∀ k, ok k → ¬ T k) (ho : ∀ k, v.ownBlock = some k → ¬ T k) (h : d.Own e w base ok xs v) : d.Own e w' base ok xs v :=
  Own.mono (fun _ hk => hk.1) (Own.move (fun k hk => hb.block k hk.2 (hT k hk.1)) (fun k hk => hb.block k (Own.lt h k hk).2 (ho k hk)) (Own.bound h))
/-- A row of the call's own is a slice that reads. -/
theorem Own.S (h : d.Own e w base ok xs v) : d.S w (fun b => ok b ∨ base ≤ b) xs v := by
  obtain ⟨cells, h1, h2⟩ := h
  have hr := h1
  obtain ⟨hl, h3⟩ := h1
  rcases h3 with ⟨rfl, hn⟩ | ⟨g, cap, cur, rfl, hg, hh, hc1, hc2, hc3, ht⟩
  · obtain rfl := List.eq_nil_of_length_eq_zero hn
    exact S.nil _ _ _
  · refine ⟨_, cap, rfl, hc1, hc2, .inr ⟨g, 0, rfl, .inr hg, fun j x hx => ⟨_, d.mono (fun b hb => .inl hb.1) (h2 j x hx), fun i u hu => ?_⟩⟩⟩
    have hcell := hr.cells (g := g) rfl (j * d.sz + i) u (by
      rw [List.getElem?_take] at hu
      split at hu
      · rwa [List.getElem?_drop] at hu
      · cases hu)
    rw [add_plain] at hcell
    rw [show 0 + j * d.sz + i = j * d.sz + i by omega]
    exact hcell
theorem Own.form (h : d.Own e w base ok xs v) : ∃ A c, v = .slice A xs.length c := by
  obtain ⟨A, c, h, _⟩ := Own.S h
  exact ⟨A, c, h⟩
end
section
variable {P : Program} {ops : Array Oper} {rest : List Oper} {o : Oper} {a : Act} {Q : Exit → Act → World → Prop}
/-- append(v, y): the walk stands at the built-in append, y's cells in a new block. -/
theorem append {α : Type} (d : Kd α) {W : World} (base : Nat) (ok : Nat → Prop) (hgd : o.guard = none) (s x : Operand) (t e : TypeId) (z : Value) (bytes : Nat)
    (ho : o.op = .call { callee := .builtin .append, args := #[s, x], argTypes := #[t, t] })
    (ht : P.underlying t = some (.slice e)) (hinfo : (P.info? e).map (fun i => (i.zero, i.size, i.bytes)) = some (some z, d.sz, bytes)) (hz : z.cells.size = d.sz) (hb0 : 0 < bytes)
    (v : Value) (xs : List α) (y : α) (cs : List Value) (hs : a.eval s = v) (hx : a.eval x = .slice (some ⟨W.heap.size, 0, none⟩) 1 1)
    (hy : d.K W (fun b => ok b ∧ some b ≠ v.ownBlock) y cs) (HO : d.Own e W base ok xs v) (hbase : base ≤ W.heap.size) (hl : (xs.length + 1) * bytes ≤ 140737488355328)
    (h : ∀ v1 w1, d.Own e w1 base ok (xs ++ [y]) v1 → W.grownBy w1 v.ownBlock → (v1.ownBlock = v.ownBlock ∨ ∃ b, v1.ownBlock = some b ∧ W.heap.size ≤ b) → wpList P ops Q rest (a.put o.dst v1) w1) :
    wpList P ops Q (o :: rest) a (W.alloc (.cells cs.toArray e)) := by
  obtain ⟨i0, hi, hzz⟩ := Option.map_eq_some_iff.1 hinfo
  simp only [Prod.mk.injEq] at hzz
  obtain ⟨hz0, hz1, hz2⟩ := hzz
  obtain ⟨cells, h1, h2⟩ := HO
  have hlen : xs.length + 1 ≤ 140737488355328 := Nat.le_trans (Nat.le_mul_of_pos_right _ hb0) hl
  have hcl := d.len hy
  refine wpList_append_own_at (W.alloc (.cells cs.toArray e)) hgd s x t ho base e i0 z d.sz bytes ht hi hz0 hz1 hz2 hz d.pos v xs.length cells hs (h1.alloc _) ⟨W.heap.size, 0, none⟩ 1 1 cs hx (by rw [hcl]; omega)
    (by simpa using World.news_of_block (w := W.alloc (.cells cs.toArray e)) (cs := cs.toArray) (t := e) (fr := (0, 0)) (heap_alloc_new W _)) (d.one hy) (by simp only [maxLen]; omega) hl (by simp; omega) ?_
  intro v1 w1 hown hg _ hat
  have hgW : W.grownBy w1 v.ownBlock := World.grownBy.trans (World.grownBy_alloc W _ _) hg
  have hat' : v1.ownBlock = v.ownBlock ∨ ∃ b, v1.ownBlock = some b ∧ W.heap.size ≤ b := by
    rcases hat with hat | hat
    · exact .inl hat
    · exact .inr ⟨_, hat, by simp⟩
  have hmv : ∀ x c, d.K W (fun b => ok b ∧ some b ≠ v.ownBlock) x c → d.K w1 (fun b => ok b ∧ some b ≠ v1.ownBlock) x c := by
    intro x c hk
    have hb := d.bound hk
    refine d.mono ?_ (d.move (fun b hb => hgW.block b hb.2 hb.1.2) hb)
    rintro b ⟨⟨hb1, hb2⟩, hb3⟩
    refine ⟨hb1, ?_⟩
    rcases hat' with hat | ⟨b', hat, hle⟩
    · rw [hat]; exact hb2
    · rw [hat]; intro he; injection he; omega
  have hcl2 : cells.length = xs.length * d.sz := h1.1
  refine h v1 w1 ⟨cells ++ cs, by simpa using hown, fun j x hx => ?_⟩ hgW hat'
  rcases Nat.lt_or_ge j xs.length with hj | hj
  · rw [List.getElem?_append_left hj] at hx
    have := hmv _ _ (h2 j x hx)
    have hjs : j * d.sz + d.sz ≤ cells.length := by rw [hcl2, ← Nat.succ_mul]; exact Nat.mul_le_mul_right _ hj
    rwa [List.drop_append_of_le_length (by omega), List.take_append_of_le_length (by rw [List.length_drop]; omega)]
  · rw [List.getElem?_append_right hj] at hx
    obtain rfl : j = xs.length := by
      have := (List.getElem?_eq_some_iff.1 hx).1
      simp at this; omega
    simp only [Nat.sub_self, List.getElem?_cons_zero, Option.some.injEq] at hx
    subst hx
    have := hmv _ _ hy
    rw [← hcl2, List.drop_left, ← hcl, List.take_length]
    exact this
end
end Kd

namespace Kd
/-- A slice whose own block is one of oks, and whose elements' inner blocks are of oki. -/
def S2 {α : Type} (d : Kd α) (w : World) (oks oki : Nat → Prop) (xs : List α) (v : Value) : Prop :=
  ∃ A c, v = .slice A xs.length c ∧ xs.length ≤ c ∧ c ≤ maxLen ∧ ((xs = [] ∧ (A = none → c = 0)) ∨ ∃ b o, A = some ⟨b, o, none⟩ ∧ oks b ∧ d.At w oki xs b o)
section
variable {α : Type} {d : Kd α} {e : TypeId} {w w' : World} {base : Nat} {ok oks oks' oki oki' : Nat → Prop} {xs : List α} {v : Value}
theorem S.S2 (h : d.S w ok xs v) : d.S2 w ok ok xs v := h
theorem S2.S (h : d.S2 w oks oki xs v) : d.S w (fun b => oks b ∨ oki b) xs v := by
  obtain ⟨A, c, e, h1, h2, h3⟩ := h
  exact ⟨A, c, e, h1, h2, h3.imp id fun ⟨b, o, ha, hb, ht⟩ => ⟨b, o, ha, .inl hb, At.mono (fun _ h => .inr h) ht⟩⟩
theorem S2.mono (h1 : ∀ b, oks b → oks' b) (h2 : ∀ b, oki b → oki' b) (h : d.S2 w oks oki xs v) : d.S2 w oks' oki' xs v := by
  obtain ⟨A, c, e, h3, h4, h5⟩ := h
  exact ⟨A, c, e, h3, h4, h5.imp id fun ⟨b, o, ha, hb, ht⟩ => ⟨b, o, ha, h1 b hb, At.mono h2 ht⟩⟩
theorem S2.bound (h : d.S2 w oks oki xs v) : d.S2 w (fun b => oks b ∧ b < w.heap.size) (fun b => oki b ∧ b < w.heap.size) xs v := by
  obtain ⟨A, c, e, h1, h2, h3⟩ := h
  refine ⟨A, c, e, h1, h2, ?_⟩
  by_cases hx : xs = []
  · refine .inl ⟨hx, ?_⟩
    rcases h3 with h3 | ⟨b, o, ha, _⟩
    · exact h3.2
    · intro hn; rw [ha] at hn; cases hn
  · obtain ⟨b, o, ha, hb, ht⟩ := h3.resolve_left (fun h => hx h.1)
    exact .inr ⟨b, o, ha, ⟨hb, At.head_lt ht hx⟩, At.bound ht⟩
theorem S2.move (h1 : ∀ b, oks b → w'.heap[b]? = w.heap[b]?) (h2 : ∀ b, oki b → w'.heap[b]? = w.heap[b]?) (h : d.S2 w oks oki xs v) : d.S2 w' oks oki xs v := by
  obtain ⟨A, c, e, h3, h4, h5⟩ := h
  exact ⟨A, c, e, h3, h4, h5.imp id fun ⟨b, o, ha, hb, ht⟩ => ⟨b, o, ha, hb, At.move h2 (h1 b hb) ht⟩⟩
theorem S2.below (hb : Below w.heap.size w w') (h : d.S2 w oks oki xs v) : d.S2 w' oks oki xs v :=
  S2.mono (fun _ hk => hk.1) (fun _ hk => hk.1) (S2.move (fun k hk => hb.block k hk.2) (fun k hk => hb.block k hk.2) (S2.bound h))
/-- A row of the call's own: its block is none that its elements lead to. -/
theorem Own.S2 (h : d.Own e w base ok xs v) : d.S2 w (fun b => base ≤ b ∧ some b = v.ownBlock) (fun b => ok b ∧ some b ≠ v.ownBlock) xs v := by
  obtain ⟨cells, h1, h2⟩ := h
  have hr := h1
  obtain ⟨hl, h3⟩ := h1
  rcases h3 with ⟨rfl, hn⟩ | ⟨g, cap, cur, rfl, hg, hh, hc1, hc2, hc3, ht⟩
  · obtain rfl := List.eq_nil_of_length_eq_zero hn
    exact ⟨none, 0, rfl, Nat.le_refl _, Nat.zero_le _, .inl ⟨rfl, fun _ => rfl⟩⟩
  · refine ⟨_, cap, rfl, hc1, hc2, .inr ⟨g, 0, rfl, ⟨hg, rfl⟩, fun j x hx => ⟨_, h2 j x hx, fun i u hu => ?_⟩⟩⟩
    have hcell := hr.cells (g := g) rfl (j * d.sz + i) u (by
      rw [List.getElem?_take] at hu
      split at hu
      · rwa [List.getElem?_drop] at hu
      · cases hu)
    rw [add_plain] at hcell
    rw [show 0 + j * d.sz + i = j * d.sz + i by omega]
    exact hcell
end
end Kd
namespace Kd
/-- The cells of a slice's elements, in a row. -/
theorem At.flat {α : Type} {d : Kd α} {w : World} {ok : Nat → Prop} : ∀ {xs : List α} {b o : Nat}, d.At w ok xs b o →
    ∃ news : List Value, news.length = xs.length * d.sz ∧ (∀ j u, news[j]? = some u → w.cell? ⟨b, o + j, none⟩ = some u) ∧ (∀ u ∈ news, u.oneCell' = true) ∧ ∀ j x, xs[j]? = some x → d.K w ok x ((news.drop (j * d.sz)).take d.sz)
  | [], b, o, _ => ⟨[], by simp, by simp, by simp, by simp⟩
  | x :: xs, b, o, h => by
    obtain ⟨cs, hk, hc⟩ := h 0 x rfl
    have ht : d.At w ok xs b (o + d.sz) := fun j y hy => by
      obtain ⟨cs, hk, hc⟩ := h (j + 1) y (by simpa using hy)
      refine ⟨cs, hk, fun i u hu => ?_⟩
      have := hc i u hu
      rw [show o + (j + 1) * d.sz + i = o + d.sz + j * d.sz + i by rw [Nat.succ_mul]; omega] at this
      exact this
    obtain ⟨news, h1, h2, h3, h4⟩ := At.flat ht
    have hl := d.len hk
    refine ⟨cs ++ news, by rw [List.length_append, h1, hl, List.length_cons, Nat.succ_mul]; omega, fun j u hu => ?_, fun u hu => ?_, fun j y hy => ?_⟩
    · rcases Nat.lt_or_ge j cs.length with hj | hj
      · rw [List.getElem?_append_left hj] at hu
        have := hc j u hu
        simpa using this
      · rw [List.getElem?_append_right hj] at hu
        have := h2 _ u hu
        rwa [show o + d.sz + (j - cs.length) = o + j by omega] at this
    · rcases List.mem_append.1 hu with hu | hu
      · exact d.one hk u hu
      · exact h3 u hu
    · cases j with
      | zero =>
        simp only [List.getElem?_cons_zero, Option.some.injEq] at hy
        subst hy
        rw [Nat.zero_mul, List.drop_zero, ← hl, List.take_left]
        exact hk
      | succ j =>
        have := h4 j y (by simpa using hy)
        rw [show (j + 1) * d.sz = cs.length + j * d.sz by rw [Nat.succ_mul, hl]; omega, ← List.drop_drop, List.drop_left]
        exact this
section
variable {P : Program} {ops : Array Oper} {rest : List Oper} {o : Oper} {a : Act} {Q : Exit → Act → World → Prop}
/-- append(v, ys...). -/
theorem appendS {α : Type} (d : Kd α) {W : World} (base : Nat) (ok oks oky : Nat → Prop) (hgd : o.guard = none) (s x : Operand) (t e : TypeId) (z : Value) (bytes : Nat)
    (ho : o.op = .call { callee := .builtin .append, args := #[s, x], argTypes := #[t, t] })
    (ht : P.underlying t = some (.slice e)) (hinfo : (P.info? e).map (fun i => (i.zero, i.size, i.bytes)) = some (some z, d.sz, bytes)) (hz : z.cells.size = d.sz) (hb0 : 0 < bytes)
    (v yv : Value) (xs ys : List α) (hs : a.eval s = v) (hx : a.eval x = yv)
    (HO : d.Own e W base ok xs v) (HY : d.S2 W oks oky ys yv) (hoky : ∀ x c, d.K W (fun b => oky b ∧ b < W.heap.size) x c → d.K W (fun b => ok b ∧ some b ≠ v.ownBlock) x c) (hbase : base ≤ W.heap.size) (hl : (xs.length + ys.length) * bytes ≤ 140737488355328)
    (h : ∀ v1 w1, d.Own e w1 base ok (xs ++ ys) v1 → W.grownBy w1 v.ownBlock → (v1.ownBlock = v.ownBlock ∨ ∃ b, v1.ownBlock = some b ∧ W.heap.size ≤ b) → wpList P ops Q rest (a.put o.dst v1) w1) :
    wpList P ops Q (o :: rest) a W := by
  obtain ⟨i0, hi, hzz⟩ := Option.map_eq_some_iff.1 hinfo
  simp only [Prod.mk.injEq] at hzz
  obtain ⟨hz0, hz1, hz2⟩ := hzz
  obtain ⟨cells, h1, h2⟩ := HO
  have hlen : xs.length + ys.length ≤ 140737488355328 := Nat.le_trans (Nat.le_mul_of_pos_right _ hb0) hl
  have HYb := S2.bound HY
  obtain ⟨A, c, rfl, hyl, hyc, hyA⟩ := HYb
  have key : ∀ ad, A = some ad → ∃ news : List Value, news.length = ys.length * d.sz ∧ (∀ j u, news[j]? = some u → W.cell? (ad.add j) = some u) ∧ (∀ u ∈ news, u.oneCell' = true) ∧ ∀ j x, ys[j]? = some x → d.K W (fun b => oky b ∧ b < W.heap.size) x ((news.drop (j * d.sz)).take d.sz) := by
    intro ad hA
    rcases hyA with ⟨hy0, _⟩ | ⟨b, o, ha, hb, hat⟩
    · subst hy0; exact ⟨[], by simp, by simp, by simp, by simp⟩
    · rw [hA] at ha
      obtain rfl := Option.some.inj ha
      obtain ⟨news, n1, n2, n3, n4⟩ := At.flat hat
      exact ⟨news, n1, fun j u hu => by rw [add_off]; exact n2 j u hu, n3, n4⟩
  cases A with
  | none =>
    have hy0 : ys = [] := by
      rcases hyA with ⟨hy0, _⟩ | ⟨b, o, ha, _⟩
      · exact hy0
      · cases ha
    have hc0 : c = 0 := by
      rcases hyA with ⟨_, hy0⟩ | ⟨b, o, ha, _⟩
      · exact hy0 rfl
      · cases ha
    subst hy0
    subst hc0
    refine wpList_plain hgd fun K hK => ?_
    have hrun := run_append_owned_none (P := P) (w := W) base t o.type e i0 d.sz ht hi v xs.length cells h1
    unfold Oper.wp
    simp [execOp, ho, resolve, invoke, builtin, hs, hx, hrun, Result.andThen]
    exact hK _ _ (h v W (by simpa using ⟨cells, h1, h2⟩) ⟨rfl, rfl, rfl, Nat.le_refl _, fun _ _ _ => rfl⟩ (.inl rfl))
  | some ad =>
    obtain ⟨news, n1, n2, n3, n4⟩ := key ad rfl
    refine wpList_append_own_at W hgd s x t ho base e i0 z d.sz bytes ht hi hz0 hz1 hz2 hz d.pos v xs.length cells hs h1 ad ys.length c news hx n1 n2 n3 (by simp only [maxLen]; omega) hl hbase ?_
    intro v1 w1 hown hg _ hat
    have hat' : v1.ownBlock = v.ownBlock ∨ ∃ b, v1.ownBlock = some b ∧ W.heap.size ≤ b := by
      rcases hat with hat | hat
      · exact .inl hat
      · exact .inr ⟨_, hat, Nat.le_refl _⟩
    have hmv : ∀ x c, d.K W (fun b => ok b ∧ some b ≠ v.ownBlock) x c → d.K w1 (fun b => ok b ∧ some b ≠ v1.ownBlock) x c := by
      intro x c hk
      have hb := d.bound hk
      refine d.mono ?_ (d.move (fun b hb => hg.block b hb.2 hb.1.2) hb)
      rintro b ⟨⟨hb1, hb2⟩, hb3⟩
      refine ⟨hb1, ?_⟩
      rcases hat' with hat | ⟨b', hat, hle⟩
      · rw [hat]; exact hb2
      · rw [hat]; intro he; injection he; omega
    have hcl2 : cells.length = xs.length * d.sz := h1.1
    refine h v1 w1 ⟨cells ++ news, by simpa using hown, fun j x hx => ?_⟩ hg hat'
    rcases Nat.lt_or_ge j xs.length with hj | hj
    · rw [List.getElem?_append_left hj] at hx
      have := hmv _ _ (h2 j x hx)
      have hjs : j * d.sz + d.sz ≤ cells.length := by rw [hcl2, ← Nat.succ_mul]; exact Nat.mul_le_mul_right _ hj
      rwa [List.drop_append_of_le_length (by omega), List.take_append_of_le_length (by rw [List.length_drop]; omega)]
    · rw [List.getElem?_append_right hj] at hx
      have := hmv _ _ (hoky _ _ (n4 _ x hx))
      rwa [show j * d.sz = cells.length + (j - xs.length) * d.sz by rw [hcl2, ← Nat.add_mul]; congr 1; omega, ← List.drop_drop, List.drop_left]
end
/-- A row that is written out. -/
theorem Own.lit {α : Type} {d : Kd α} {e : TypeId} {w : World} {base : Nat} {ok : Nat → Prop} {xs : List α} (cells : List Value) (hb : base ≤ w.heap.size) (hl : cells.length = xs.length * d.sz) (hm : xs.length ≤ maxLen)
    (hk : ∀ j x, xs[j]? = some x → d.K w ok x ((cells.drop (j * d.sz)).take d.sz)) :
    d.Own e (w.alloc (.cells cells.toArray e)) base ok xs (.slice (some ⟨w.heap.size, 0, none⟩) xs.length xs.length) := by
  refine ⟨cells, ⟨hl, .inr ⟨w.heap.size, xs.length, cells.toArray, rfl, hb, heap_alloc_new w _, Nat.le_refl _, hm, by simpa using hl, by rw [← hl]; simp⟩⟩, fun j x hx => ?_⟩
  refine d.mono ?_ (d.move ?_ (d.bound (hk j x hx)))
  · rintro b ⟨h1, h2⟩
    exact ⟨h1, by simp only [Value.ownBlock]; intro he; injection he; omega⟩
  · rintro b ⟨h1, h2⟩
    exact Below.heap_alloc _ _ _ h2
end Kd

theorem Keeps.grown {S : Nat → Prop} {W w w1 : World} {row : Option Nat} (h : Keeps S W w) (hg : w.grownBy w1 row) (hr : ∀ k, row = some k → S k ∨ W.heap.size ≤ k) : Keeps S W w1 :=
  ⟨hg.os.trans h.os, hg.tape.trans h.tape, hg.output.trans h.output, Nat.le_trans h.size hg.size, fun k hk hs =>
    (hg.block k (Nat.lt_of_lt_of_le hk h.size) (fun e => (hr k e.symm).elim hs (by omega))).trans (h.block k hk hs)⟩
theorem Keeps.drew {S : Nat → Prop} {W w : World} (h : Keeps S W w) : Keeps S W w.drew := ⟨h.os, h.tape, h.output, h.size, h.block⟩
theorem Keeps.alloc {S : Nat → Prop} {W w : World} (h : Keeps S W w) (o : Obj) : Keeps S W (w.alloc o) :=
  ⟨h.os, h.tape, h.output, Nat.le_trans h.size (by simp), fun k hk hs => (Below.heap_alloc _ _ _ (Nat.lt_of_lt_of_le hk h.size)).trans (h.block k hk hs)⟩
theorem Keeps.then {S : Nat → Prop} {W w w1 : World} (h : Keeps S W w) (k : Below w.heap.size w w1) : Keeps S W w1 :=
  ⟨k.os.trans h.os, k.tape.trans h.tape, k.output.trans h.output, Nat.le_trans h.size k.size, fun i hi hs => (k.block i (Nat.lt_of_lt_of_le hi h.size)).trans (h.block i hi hs)⟩
theorem Keeps.cell {S : Nat → Prop} {w w1 : World} (h : Keeps S w w1) {b o : Nat} {v : Value} (hc : w.cell? ⟨b, o, none⟩ = some v) (hb : ¬ S b) : w1.cell? ⟨b, o, none⟩ = some v :=
  (cell_of_block (h.block b (cell_lt hc) hb) o).trans hc
/-- Another row has been written. -/
theorem Kd.Own.grown {α : Type} {d : Kd α} {e : TypeId} {w w' : World} {base : Nat} {ok : Nat → Prop} {xs : List α} {v : Value} {row : Option Nat} (hg : w.grownBy w' row) (hok : ∀ b, ok b → some b ≠ row) (ho : v.ownBlock = none ∨ v.ownBlock ≠ row) (h : d.Own e w base ok xs v) : d.Own e w' base ok xs v :=
  Kd.Own.mono (fun _ hk => hk.1) (Kd.Own.move (fun k hk => hg.block k hk.2 (hok k hk.1)) (fun k hk => hg.block k (Kd.Own.lt h k hk).2 (by rcases ho with ho | ho; rw [hk] at ho; cases ho; rw [← hk]; exact ho)) (Kd.Own.bound h))
theorem Kd.S.grown {α : Type} {d : Kd α} {w w' : World} {ok : Nat → Prop} {xs : List α} {v : Value} {row : Option Nat} (hg : w.grownBy w' row) (hok : ∀ b, ok b → some b ≠ row) (h : d.S w ok xs v) : d.S w' ok xs v :=
  Kd.S.mono (fun _ hk => hk.1) (Kd.S.move (fun k hk => hg.block k hk.2 (hok k hk.1)) (Kd.S.bound h))

/-! ### A variable of four cells -/
theorem box4 {w : World} {B : Nat} {t : TypeId} {a b c d : Value} (h : w.heap[B]? = some (.cells #[a, b, c, d] t (0, 0))) :
    w.cell? ⟨B, 0, none⟩ = some a ∧ w.cell? ⟨B, 1, none⟩ = some b ∧ w.cell? ⟨B, 2, none⟩ = some c ∧ w.cell? ⟨B, 3, none⟩ = some d ∧
    w.frozen? ⟨B, 0, none⟩ = false ∧ w.frozen? ⟨B, 1, none⟩ = false ∧ w.frozen? ⟨B, 2, none⟩ = false ∧ w.frozen? ⟨B, 3, none⟩ = false := by
  simp [World.cell?, World.frozen?, h]
theorem grown_set (W : World) (B o : Nat) (v : Value) : W.grownBy (W.setCell ⟨B, o, none⟩ v) (some B) :=
  ⟨rfl, rfl, rfl, by simp [World.setCell], fun k hk hs => Below.heap_setCell _ _ _ _ (fun e => hs (by rw [e]))⟩
theorem grown_set4 (W : World) (B : Nat) (a b c d : Value) : W.grownBy ((((W.setCell ⟨B, 0, none⟩ a).setCell ⟨B, 1, none⟩ b).setCell ⟨B, 2, none⟩ c).setCell ⟨B, 3, none⟩ d) (some B) :=
  (((grown_set W B 0 a).trans (grown_set _ B 1 b)).trans (grown_set _ B 2 c)).trans (grown_set _ B 3 d)
theorem heap_new (w : World) (o : Obj) : (w.alloc o).heap[w.heap.size]? = some o := heap_alloc_new w o
theorem block_below {B : Nat} {w w1 : World} (h : Below B w w1) {k : Nat} (hk : k < B) {o : Obj} (ho : w.heap[k]? = some o) : w1.heap[k]? = some o := (h.block k hk).trans ho

theorem Kd.S.form {α : Type} {d : Kd α} {w : World} {ok : Nat → Prop} {xs : List α} {v : Value} (h : d.S w ok xs v) : ∃ A c, v = .slice A xs.length c := let ⟨A, c, e, _⟩ := h; ⟨A, c, e⟩
end Go.Proofs.YtgcbanljifalnaaDoor
/- Plain functions of layer 1: what terms' sizes, depths, variables are. No condition. -/
namespace Go.Proofs.YtgcbanljifalnaaDoor

mutual
def Tm.eqb : Tm → Tm → Bool
  | ⟨k, s, n, l⟩, ⟨k', s', n', l'⟩ => decide (k = k') && decide (s = s') && decide (n = n') && eqbL l l'
def eqbL : List Tm → List Tm → Bool
  | [], [] => true
  | t :: ts, u :: us => t.eqb u && eqbL ts us
  | _, _ => false
end
mutual
theorem Tm.eqb_iff : ∀ (t u : Tm), t.eqb u = true ↔ t = u
  | ⟨k, s, n, l⟩, ⟨k', s', n', l'⟩ => by simp [Tm.eqb, eqbL_iff l l', and_assoc]
theorem eqbL_iff : ∀ (l m : List Tm), eqbL l m = true ↔ l = m
  | [], [] => by simp [eqbL]
  | t :: ts, u :: us => by simp [eqbL, Tm.eqb_iff t u, eqbL_iff ts us]
  | [], _ :: _ => by simp [eqbL]
  | _ :: _, [] => by simp [eqbL]
end
instance : DecidableEq Tm := fun t u => decidable_of_iff _ (Tm.eqb_iff t u)

mutual
def Tm.dep : Tm → Nat
  | ⟨_, _, _, l⟩ => depL l + 1
def depL : List Tm → Nat
  | [] => 0
  | t :: ts => max t.dep (depL ts)
end
mutual
def Tm.siz : Tm → Nat
  | ⟨_, _, _, l⟩ => sizL l + 1
def sizL : List Tm → Nat
  | [] => 0
  | t :: ts => t.siz + sizL ts
end
/-- May a name be one? -/
def nameOk (s : ByteArray) : Bool := decide (s.size ≤ 32) && s.data.toList.all fun c => decide ((32 ≤ c.toNat ∧ c.toNat ≤ 126) ∨ c.toNat = 9 ∨ c.toNat = 10)
mutual
/-- Is a term good, but for its depth? -/
def Tm.shp : Tm → Bool
  | ⟨k, s, n, l⟩ =>
    if k = 1 then decide (0 ≤ n) && decide (s.size = 0) && decide (l = [])
    else if k = 2 then decide (s.size = 0) && decide (l = [])
    else if k = 3 then decide (n = 0) && decide (l = []) && nameOk s
    else decide (k = 4) && decide (n = 0) && decide (0 < l.length ∧ l.length ≤ 16) && nameOk s && shpL l
def shpL : List Tm → Bool
  | [] => true
  | t :: ts => t.shp && shpL ts
end
def Tm.good (t : Tm) : Bool := decide (t.dep ≤ 64) && t.shp

theorem depL_append : ∀ l m : List Tm, depL (l ++ m) = max (depL l) (depL m)
  | [], m => by simp [depL]
  | t :: ts, m => by simp [depL, depL_append ts m, Nat.max_assoc]
theorem shpL_append : ∀ l m : List Tm, shpL (l ++ m) = (shpL l && shpL m)
  | [], m => by simp [shpL]
  | t :: ts, m => by simp [shpL, shpL_append ts m, Bool.and_assoc]
theorem take_succ_at {α : Type} (l : List α) {j : Nat} (hj : j < l.length) : l.take (j + 1) = l.take j ++ [l[j]] := List.take_succ_eq_append_getElem hj
theorem Tm.siz_pos : ∀ t : Tm, 1 ≤ t.siz
  | ⟨_, _, _, _⟩ => by simp [Tm.siz]
theorem length_le_sizL : ∀ l : List Tm, l.length ≤ sizL l
  | [] => by simp [sizL]
  | t :: ts => by have := t.siz_pos; have := length_le_sizL ts; simp only [sizL, List.length_cons]; omega
theorem siz_mem {t : Tm} : ∀ {l : List Tm}, t ∈ l → t.siz ≤ sizL l
  | u :: us, h => by
    simp only [sizL]
    rcases List.mem_cons.1 h with rfl | h
    · omega
    · have := siz_mem h; omega
/-- Terms are what they are made of: an induction over terms. -/
theorem Tm.ind {p : Tm → Prop} (h : ∀ t : Tm, (∀ u ∈ t.l, p u) → p t) (t : Tm) : p t := by
  have key : ∀ (n : Nat) (t : Tm), t.siz ≤ n → p t := by
    intro n
    induction n with
    | zero => intro t ht; have := t.siz_pos; omega
    | succ n ih =>
      intro t ht
      refine h t fun u hu => ih u ?_
      have := siz_mem hu
      cases t; simp only [Tm.siz] at ht; simp only at hu this; omega
  exact key t.siz t (Nat.le_refl _)
mutual
/-- What can lie in memory: each number is of its kind, each name no longer than memory. -/
def Tm.Wf : Tm → Prop
  | ⟨k, s, n, l⟩ => (0 ≤ k ∧ k ≤ 255) ∧ (-9223372036854775808 ≤ n ∧ n ≤ 9223372036854775807) ∧ s.size ≤ 140737488351232 ∧ WfL l
def WfL : List Tm → Prop
  | [] => True
  | t :: ts => t.Wf ∧ WfL ts
end
theorem WfL_iff : ∀ {l : List Tm}, WfL l ↔ ∀ t ∈ l, t.Wf
  | [] => by simp [WfL]
  | t :: ts => by simp [WfL, WfL_iff (l := ts)]
theorem WfL_at {l : List Tm} (h : WfL l) {j : Nat} (hj : j < l.length) : l[j].Wf := WfL_iff.1 h _ (List.getElem_mem hj)
theorem Tm.Wf.parts {t : Tm} (h : t.Wf) : (0 ≤ t.k ∧ t.k ≤ 255) ∧ (-9223372036854775808 ≤ t.n ∧ t.n ≤ 9223372036854775807) ∧ t.s.size ≤ 140737488351232 ∧ WfL t.l := by cases t; simpa [Tm.Wf] using h
mutual
/-- How many nodes, up to 2,000 or so. -/
def Tm.many : Tm → Nat → Nat
  | ⟨_, s, _, l⟩, n => manyL l (n + 1 + s.size / 200 * 2000)
def manyL : List Tm → Nat → Nat
  | [], n => n
  | t :: ts, n => if n < 2000 then manyL ts (t.many n) else n
end
def great (l : List Tm) : Bool := decide (1000 < manyL l 0)
theorem manyL_big {n : Nat} (h : 2000 ≤ n) : ∀ l : List Tm, manyL l n = n
  | [] => by simp [manyL]
  | t :: ts => by simp only [manyL]; rw [if_neg (by omega)]
mutual
theorem Tm.many_le : ∀ (t : Tm) (n : Nat), t.Wf → n < 2000 → t.many n ≤ 2000000000000000
  | ⟨k, s, m, l⟩, n, h, hn => by
    simp only [Tm.Wf] at h
    simp only [Tm.many]
    exact manyL_le l _ h.2.2.2 (by omega)
theorem manyL_le : ∀ (l : List Tm) (n : Nat), WfL l → n ≤ 2000000000000000 → manyL l n ≤ 2000000000000000
  | [], n, _, hn => by simpa [manyL] using hn
  | t :: ts, n, h, hn => by
    simp only [WfL] at h
    simp only [manyL]
    split
    · exact manyL_le ts _ h.2 (Tm.many_le t n h.1 (by omega))
    · exact hn
end
mutual
theorem Tm.many_ge : ∀ (t : Tm) (n : Nat), t.many n ≤ 1000 → n + t.siz ≤ t.many n ∧ ∀ u ∈ [t], u.s.size < 200
  | ⟨k, s, m, l⟩, n, h => by
    simp only [Tm.many] at h ⊢
    have := manyL_ge l _ h
    simp only [Tm.siz, List.mem_singleton, forall_eq]
    omega
theorem manyL_ge : ∀ (l : List Tm) (n : Nat), manyL l n ≤ 1000 → n + sizL l ≤ manyL l n
  | [], n, _ => by simp [manyL, sizL]
  | t :: ts, n, h => by
    simp only [manyL] at h ⊢
    split
    · rename_i hn
      rw [if_pos hn] at h
      have h1 := manyL_ge ts _ h
      have h2 := Tm.many_ge t n (by omega)
      simp only [sizL]
      omega
    · rename_i hn
      rw [if_neg hn] at h
      omega
end
/-- What is not great has few nodes. -/
theorem great_siz {l : List Tm} (h : great l = false) : sizL l ≤ 1000 := by
  simp only [great, decide_eq_false_iff_not] at h
  have := manyL_ge l 0 (by omega)
  omega

mutual
theorem dep_le : ∀ t : Tm, t.dep ≤ t.siz
  | ⟨_, _, _, l⟩ => by have := depL_le l; simp only [Tm.dep, Tm.siz]; omega
theorem depL_le : ∀ l : List Tm, depL l ≤ sizL l
  | [] => by simp [depL, sizL]
  | t :: ts => by have := dep_le t; have := depL_le ts; simp only [depL, sizL]; omega
end
end Go.Proofs.YtgcbanljifalnaaDoor
/- A row's arguments, opened: terms and lists of terms out of the reading. No condition. -/
namespace Go.Proofs.YtgcbanljifalnaaDoor
open Go.ChangeShapes Go.WideShapes Go.ChangeAt Go.RowKit
open Go.ChangeMaps (open_string shut_string)

theorem cell_spot {w : World} {a : Addr} {v : Value} (h : w.cell? a = some v) : a.spot = none := by
  unfold World.cell? at h
  split at h
  · split at h
    · cases h
    · rename_i h1; simpa using h1
  · cases h
theorem addr_add {a : Addr} (h : a.spot = none) (n : Nat) : a.add n = ⟨a.block, a.off + n, none⟩ := by
  obtain ⟨b, o, s⟩ := a
  simp only at h
  subst h
  exact add_off b o n
section
variable {H : Type} {enc : TypeId × Value → H} {W : World}
theorem Tryd.cellsT : Tryd.prog.cellsOf 24 = 4 := by kernel_rfl
theorem Tryd.cells8 : Tryd.prog.cellsOf 5 = 1 := by kernel_rfl
theorem Tryd.cells64 : Tryd.prog.cellsOf 2 = 1 := by kernel_rfl
theorem Tryd.cellsS : Tryd.prog.cellsOf 9 = 1 := by kernel_rfl
theorem Tryd.cellsL : Tryd.prog.cellsOf 22 = 1 := by kernel_rfl
/-- Weights that are borne. -/
def Light (P : Program) (t : TypeId) (d : DataW H) : Prop := (d.weights P t).all (· ≤ reachBytes) = true
theorem light_all {P : Program} {e : TypeId} : ∀ {l : List (DataW H)}, (DataW.weightsAll P e l).all (· ≤ reachBytes) = true → ∀ d ∈ l, Light P e d
  | [], _, d, hd => by cases hd
  | x :: r, h, d, hd => by
    simp only [DataW.weightsAll, List.all_append, Bool.and_eq_true] at h
    rcases List.mem_cons.1 hd with rfl | hd
    · exact h.1
    · exact light_all h.2 d hd
theorem open_both : ∀ fuel : Nat,
    (∀ (cs : List Value) (x : DataW H × List MemPlace), DataW.trod enc Tryd.prog W 0 (fun _ => true) true fuel 24 cs = some x → Light Tryd.prog 24 x.1 → ∃ t, TmK W (fun _ => True) t cs ∧ t.Wf) ∧
    (∀ (cs : List Value) (x : DataW H × List MemPlace), DataW.trod enc Tryd.prog W 0 (fun _ => true) true fuel 22 cs = some x → Light Tryd.prog 22 x.1 → ∃ l u, cs = [u] ∧ Kd.tm.S W (fun _ => True) l u ∧ WfL l)
  | 0 => ⟨fun cs x h => by simp [DataW.trod] at h, fun cs x h => by simp [DataW.trod] at h⟩
  | fuel + 1 => by
    obtain ⟨ih1, ih2⟩ := open_both fuel
    constructor
    · intro cs x h hL
      obtain ⟨xs, n, hn, rfl, hlen, hxl, hf⟩ := DataW.trod_struct Tryd.underlying24 h
      obtain rfl : fuel = n := by omega
      rw [Tryd.cellsT] at hlen
      have f0 : DataW.trod enc Tryd.prog W 0 (fun _ => true) true fuel 5 ((cs.drop 0).take (Tryd.prog.cellsOf 5)) = xs[0]? := hf 0 _ rfl
      have f1 : DataW.trod enc Tryd.prog W 0 (fun _ => true) true fuel 9 ((cs.drop 1).take (Tryd.prog.cellsOf 9)) = xs[1]? := hf 1 _ rfl
      have f2 : DataW.trod enc Tryd.prog W 0 (fun _ => true) true fuel 2 ((cs.drop 2).take (Tryd.prog.cellsOf 2)) = xs[2]? := hf 2 _ rfl
      have f3 : DataW.trod enc Tryd.prog W 0 (fun _ => true) true fuel 22 ((cs.drop 3).take (Tryd.prog.cellsOf 22)) = xs[3]? := hf 3 _ rfl
      rw [Tryd.cells8] at f0
      rw [Tryd.cellsS] at f1
      rw [Tryd.cells64] at f2
      rw [Tryd.cellsL] at f3
      match cs, hlen with
      | [c0, c1, c2, c3], _ =>
        match xs, hxl with
        | [y0, y1, y2, y3], _ =>
          simp only [List.drop_zero, List.drop_succ_cons, List.take_succ_cons, List.take_zero, List.getElem?_cons_zero, List.getElem?_cons_succ] at f0 f1 f2 f3
          obtain ⟨k, e0, rfl, w0⟩ := DataW.trod_int Tryd.underlying5 f0
          obtain ⟨s, e1, rfl, w1⟩ := DataW.trod_string Tryd.underlying9 f1
          obtain ⟨q, e2, rfl, w2⟩ := DataW.trod_int Tryd.underlying2 f2
          injection e0 with e0
          injection e1 with e1
          injection e2 with e2
          subst e0 e1 e2
          have hL' := hL
          unfold Light at hL'
          simp only [List.map_cons, List.map_nil, DataW.weights, Tryd.underlying24, DataW.weightsEach, List.all_append, Bool.and_eq_true, List.nil_append, List.append_nil, List.all_cons, List.all_nil, List.cons_append, Bool.and_true, decide_eq_true_eq] at hL'
          obtain ⟨l, u, e3, hS, hwl⟩ := ih2 _ _ f3 (by unfold Light; exact hL'.2)
          injection e3 with e3
          subst e3
          refine ⟨⟨k, s, q, l⟩, TmK_iff.2 ⟨_, rfl, hS⟩, ?_⟩
          simp only [Lit.wf, Bool.and_eq_true, decide_eq_true_eq] at w0 w2
          refine ⟨?_, ?_, ?_, hwl⟩
          · simpa [IntKind.min, IntKind.max, IntKind.signed, IntKind.bits] using w0
          · simpa [IntKind.min, IntKind.max, IntKind.signed, IntKind.bits] using w2
          · have := hL'.1
            simpa [reachBytes] using this
    · intro cs x h hL
      rcases DataW.trod_slice Tryd.underlying22 h with ⟨rfl, rfl⟩ | ⟨a, len, cap, elems, rest, n, hn, rfl, rfl, _, hlc, hcm, hel, he, _, _⟩
      · exact ⟨[], _, rfl, Kd.S.nil _ _ _, trivial⟩
      · obtain rfl : fuel = n := by omega
        unfold Light at hL
        simp only [DataW.weights, Tryd.underlying22, List.all_cons, List.all_append, Bool.and_eq_true] at hL
        have hLe := light_all hL.2.1
        simp only [Tryd.cellsT] at he
        have key : ∀ i : Fin len, ∃ t : Tm, (∃ cs, TmK W (fun _ => True) t cs ∧ a.spot = none ∧ ∀ k u, cs[k]? = some u → W.cell? ⟨a.block, a.off + i * 4 + k, none⟩ = some u) ∧ t.Wf := by
          intro i
          have h1 := he i.1 i.2
          obtain ⟨y, hy⟩ : ∃ y, elems[i.1]? = some y := ⟨_, List.getElem?_eq_getElem (by rw [hel]; exact i.2)⟩
          rw [hy] at h1
          obtain ⟨cs, hcs, htr⟩ := Option.bind_eq_some_iff.1 h1
          obtain ⟨t, ht, hw⟩ := ih1 cs y htr (hLe _ (List.mem_map.2 ⟨y, List.mem_of_getElem? hy, rfl⟩))
          obtain ⟨hb0, hl4, hc4⟩ := World.cells?_some hcs
          have h0 := hc4 0 (by omega)
          have hl : cs.length = 4 := hl4
          have hc0 : (a.add (i.1 * 4)).spot = none := by
            have e : W.cell? ((a.add (i.1 * 4)).add 0) = some cs[0] := by rw [h0]; exact List.getElem?_eq_getElem (by omega)
            have := cell_spot e
            rwa [show (a.add (i.1 * 4)).add 0 = a.add (i.1 * 4) from rfl] at this
          have hsp : len ≠ 0 → a.spot = none := fun hne => by
            have h1 := he 0 (by omega)
            obtain ⟨y, hy⟩ : ∃ y, elems[0]? = some y := ⟨_, List.getElem?_eq_getElem (by omega)⟩
            rw [hy] at h1
            obtain ⟨cs', hcs', _⟩ := Option.bind_eq_some_iff.1 h1
            obtain ⟨_, hl', hc'⟩ := World.cells?_some hcs'
            have e : W.cell? ((a.add (0 * 4)).add 0) = some cs'[0] := by rw [hc' 0 (by omega)]; exact List.getElem?_eq_getElem (by omega)
            exact cell_spot e
          have ha := hsp (by have := i.2; omega)
          refine ⟨t, ⟨cs, ht, ha, fun k u hk => ?_⟩, hw⟩
          have hk4 : k < 4 := by rw [← hl]; exact (List.getElem?_eq_some_iff.1 hk).1
          have := hc4 k hk4
          rw [hk, addr_add ha, add_off] at this
          exact this
        let l : List Tm := List.ofFn (fun i : Fin len => Classical.choose (key i))
        have hll : l.length = len := List.length_ofFn
        have hat : ∀ j t, l[j]? = some t → ∃ h : j < len, t = Classical.choose (key ⟨j, h⟩) := fun j t hj => by
          obtain ⟨h1, h2⟩ := List.getElem?_eq_some_iff.1 hj
          refine ⟨by rw [← hll]; exact h1, ?_⟩
          rw [← h2]
          simp [l]
        refine ⟨l, _, rfl, ⟨some a, cap, by rw [hll], by omega, hcm, ?_⟩, ?_⟩
        · by_cases h0 : l = []
          · exact .inl ⟨h0, fun e => by cases e⟩
          · right
            have hpos : 0 < len := by
              rw [← hll]; exact List.length_pos_iff.2 h0
            have hsp := (Classical.choose_spec (key ⟨0, hpos⟩)).1
            obtain ⟨_, _, hspot, _⟩ := hsp
            obtain ⟨b, o, sp⟩ := a
            simp only at hspot
            subst hspot
            refine ⟨b, o, rfl, trivial, fun j t hj => ?_⟩
            obtain ⟨hjl, rfl⟩ := hat j t hj
            obtain ⟨cs, ht, _, hc⟩ := (Classical.choose_spec (key ⟨j, hjl⟩)).1
            exact ⟨cs, ht, hc⟩
        · rw [WfL_iff]
          intro t ht
          obtain ⟨j, hj⟩ := List.mem_iff_getElem?.1 ht
          obtain ⟨hjl, rfl⟩ := hat j t hj
          exact (Classical.choose_spec (key ⟨j, hjl⟩)).2
/-- A term that is handed in. -/
theorem open_tm {v : Value} {d : DataW H} {ps : List MemPlace} {r : Reach} {b0 : Nat} (hv : Value.okWide Tryd.prog W r b0 24 v) (h : DataW.Trod enc Tryd.prog W 0 (fun _ => true) true 24 v d ps) (hL : Light Tryd.prog 24 d) :
    ∃ t, TmV W (fun _ => True) t v ∧ t.Wf := by
  obtain ⟨cs, rfl, hsz⟩ := okWide_struct Tryd.underlying24 hv
  obtain ⟨fuel, hf⟩ := h
  obtain ⟨t, ht, hw⟩ := (open_both fuel).1 _ _ hf hL
  refine ⟨t, ?_, hw⟩
  obtain ⟨u, e, hS⟩ := TmK_iff.1 ht
  refine ⟨u, ?_, hS⟩
  simp only [Value.cells] at e
  rw [show cs = cs.toList.toArray by simp, e]
end
end Go.Proofs.YtgcbanljifalnaaDoor

/- The laws' frame: two terms in boxes. No condition. -/
import Derived.Test.YtdflckjnpgbjlaaWd
import Derived.Deep.RegionHeld3
import Derived.Deep.DrawnRows
set_option linter.unusedVariables false
set_option maxRecDepth 20000
set_option linter.unusedSimpArgs false
namespace Go.Proofs.Ytdflckjnpgbjlaa
open Go.RowKit

/-- What is known of a world in which a term lies in a box. -/
structure Bx (w : World) (ok : Nat → Prop) (B : Nat) (t : Tm) (u : Value) (W : World) : Prop where
  below : Below w.heap.size w W
  box : W.heap[B]? = some (.cells #[.int .u8 t.k, .string t.s, .int .i64 t.n, u] 24 (0, 0))
  args : Kd.tm.S W ok t.l u
theorem Bx.then {w W W' : World} {ok : Nat → Prop} {B : Nat} {t : Tm} {u : Value} (h : Bx w ok B t u W) (hb : Below W.heap.size W W') : Bx w ok B t u W' :=
  ⟨below_then h.below h.below.size hb, block_below hb (Array.getElem?_eq_some_iff.1 h.box).1 h.box, h.args.below hb⟩
theorem Bx.alloc {w W : World} {ok : Nat → Prop} {B : Nat} {t : Tm} {u : Value} (h : Bx w ok B t u W) (O : Obj) : Bx w ok B t u (W.alloc O) := h.then ((Below.refl _ W).alloc (Nat.le_refl _) O)
theorem Bx.drew {w W : World} {ok : Nat → Prop} {B : Nat} {t : Tm} {u : Value} (h : Bx w ok B t u W) : Bx w ok B t u W.drew := h.then (Below.refl _ W).drew
theorem Bx.tmv {w W : World} {ok : Nat → Prop} {B : Nat} {t : Tm} {u : Value} (h : Bx w ok B t u W) : TmV W ok t (.agg #[.int .u8 t.k, .string t.s, .int .i64 t.n, u]) := ⟨u, rfl, h.args⟩
/-- The box's cells, and all that is known. -/
def BxH (w : World) (ok : Nat → Prop) (B : Nat) (t : Tm) (u : Value) (W : World) : Prop :=
  W.cell? ⟨B, 0, none⟩ = some (.int .u8 t.k) ∧ W.cell? ⟨B, 1, none⟩ = some (.string t.s) ∧ W.cell? ⟨B, 2, none⟩ = some (.int .i64 t.n) ∧ W.cell? ⟨B, 3, none⟩ = some u ∧ Bx w ok B t u W
theorem Bx.held {w W : World} {ok : Nat → Prop} {B : Nat} {t : Tm} {u : Value} (h : Bx w ok B t u W) : BxH w ok B t u W :=
  let ⟨c0, c1, c2, c3, _, _, _, _⟩ := box4 h.box
  ⟨c0, c1, c2, c3, h⟩
theorem BxH.bx {w W : World} {ok : Nat → Prop} {B : Nat} {t : Tm} {u : Value} (h : BxH w ok B t u W) : Bx w ok B t u W := h.2.2.2.2
theorem BxH.then {w W W' : World} {ok : Nat → Prop} {B : Nat} {t : Tm} {u : Value} (h : BxH w ok B t u W) (hb : Below W.heap.size W W') : BxH w ok B t u W' := (h.bx.then hb).held
/-- Two boxes. -/
def TwoH (w : World) (ok : Nat → Prop) (B B' : Nat) (t t' : Tm) (u u' : Value) (W : World) : Prop := BxH w ok B t u W ∧ BxH w ok B' t' u' W
/-- Two terms are boxed, the one behind the other. -/
theorem Bx.two {w : World} {ok : Nat → Prop} {a b : Tm} {u u' : Value} (h : Kd.tm.S w ok a.l u) (h' : Kd.tm.S w ok b.l u') :
    Bx w ok w.heap.size a u ((w.alloc (.cells #[.int .u8 a.k, .string a.s, .int .i64 a.n, u] 24)).alloc (.cells #[.int .u8 b.k, .string b.s, .int .i64 b.n, u'] 24)) ∧
    Bx w ok (w.heap.size + 1) b u' ((w.alloc (.cells #[.int .u8 a.k, .string a.s, .int .i64 a.n, u] 24)).alloc (.cells #[.int .u8 b.k, .string b.s, .int .i64 b.n, u'] 24)) := by
  have hst : ∀ O O' : Obj, Below w.heap.size w ((w.alloc O).alloc O') := fun O O' => ((Below.refl _ w).alloc (Nat.le_refl _) O).alloc (by simp) O'
  refine ⟨⟨hst _ _, ?_, h.below (hst _ _)⟩, ⟨hst _ _, ?_, h'.below (hst _ _)⟩⟩
  · exact (Below.heap_alloc _ _ _ (by simp)).trans (heap_new w _)
  · have := heap_new (w.alloc (.cells #[.int .u8 a.k, .string a.s, .int .i64 a.n, u] 24)) (.cells #[.int .u8 b.k, .string b.s, .int .i64 b.n, u'] 24)
    rwa [World.size_alloc] at this
theorem tSame_refl (t : Tm) (w : World) (ok ok' : Nat → Prop) (v v' : Value) (hv : TmV w ok t v) (hv' : TmV w ok' t v') : Calls Try.prog 72 #[v, v'] w fun e w' => e = .returned (.bool true) ∧ Below w.heap.size w w' := by
  have := tSame_c t t w ok ok' v v' hv hv'
  rwa [(Tm.eqb_iff t t).2 rfl] at this
theorem heap_alloc_if (w : World) (o : Obj) (k : Nat) : (w.alloc o).heap[k]? = if k = w.heap.size then some o else w.heap[k]? := by
  simp only [World.alloc, Array.getElem?_push]
theorem heap_at (w : World) (o : Obj) (k : Nat) (h : k = w.heap.size) : (w.alloc o).heap[k]? = some o := by rw [heap_alloc_if, if_pos h]
theorem heap_old (w : World) (o : Obj) (k : Nat) {x : Option Obj} (h : k ≠ w.heap.size) (hk : w.heap[k]? = x) : (w.alloc o).heap[k]? = x := by rw [heap_alloc_if, if_neg h, hk]
theorem heap_drew_if (w : World) (k : Nat) : w.drew.heap[k]? = w.heap[k]? := rfl
theorem lit1_at {W : World} {ok : Nat → Prop} {t : Tm} {u : Value} {b : Nat} (hb : W.heap[b]? = some (.cells #[.int .u8 t.k, .string t.s, .int .i64 t.n, u] 24 (0, 0)))
    (h : Kd.tm.S W ok t.l u) : Kd.tm.S W (fun _ => True) [t] (.slice (some ⟨b, 0, none⟩) 1 1) :=
  ⟨_, 1, rfl, Nat.le_refl _, by simp [maxLen], .inr ⟨b, 0, rfl, trivial, fun j x hx => by
    match j, hx with
    | 0, hx =>
      simp at hx; subst hx
      refine ⟨_, TmK_iff.2 ⟨u, rfl, h.mono (fun _ _ => trivial)⟩, fun i v hv => ?_⟩
      match i, hv with
      | 0, hv => simp at hv; subst hv; simp [World.cell?, hb]
      | 1, hv => simp at hv; subst hv; simp [World.cell?, hb]
      | 2, hv => simp at hv; subst hv; simp [World.cell?, hb]
      | 3, hv => simp at hv; subst hv; simp [World.cell?, hb]
      | i + 4, hv => simp at hv
    | j + 1, hx => simp at hx⟩⟩
theorem lit2_at {W : World} {ok ok' : Nat → Prop} {t t' : Tm} {u u' : Value} {b : Nat} (hb : W.heap[b]? = some (.cells #[.int .u8 t.k, .string t.s, .int .i64 t.n, u, .int .u8 t'.k, .string t'.s, .int .i64 t'.n, u'] 24 (0, 0)))
    (h : Kd.tm.S W ok t.l u) (h' : Kd.tm.S W ok' t'.l u') : Kd.tm.S W (fun _ => True) [t, t'] (.slice (some ⟨b, 0, none⟩) 2 2) := by
  refine ⟨_, 2, rfl, Nat.le_refl _, by simp [maxLen], .inr ⟨b, 0, rfl, trivial, fun j x hx => ?_⟩⟩
  match j, hx with
  | 0, hx =>
    simp at hx; subst hx
    refine ⟨_, TmK_iff.2 ⟨u, rfl, h.mono (fun _ _ => trivial)⟩, fun i v hv => ?_⟩
    match i, hv with
    | 0, hv => simp at hv; subst hv; simp [World.cell?, hb]
    | 1, hv => simp at hv; subst hv; simp [World.cell?, hb]
    | 2, hv => simp at hv; subst hv; simp [World.cell?, hb]
    | 3, hv => simp at hv; subst hv; simp [World.cell?, hb]
    | i + 4, hv => simp at hv
  | 1, hx =>
    simp at hx; subst hx
    refine ⟨_, TmK_iff.2 ⟨u', rfl, h'.mono (fun _ _ => trivial)⟩, fun i v hv => ?_⟩
    match i, hv with
    | 0, hv => simp at hv; subst hv; simp [World.cell?, hb, Kd.tm]
    | 1, hv => simp at hv; subst hv; simp [World.cell?, hb, Kd.tm]
    | 2, hv => simp at hv; subst hv; simp [World.cell?, hb, Kd.tm]
    | 3, hv => simp at hv; subst hv; simp [World.cell?, hb, Kd.tm]
    | i + 4, hv => simp at hv
  | j + 2, hx => simp at hx
theorem Vars_s (l : List Tm) (v : Value) (w : World) (ok : Nat → Prop) (hv : Kd.tm.S w ok l v) (hz : sizL l ≤ 1000000) :
    Calls Try.prog 23 #[v] w fun e w' => (∃ A c, e = .returned (.slice A (dd (occL l)).length c) ∧ (Kd.int .i64).S w' (fun _ => True) (dd (occL l)) (.slice A (dd (occL l)).length c)) ∧ Below w.heap.size w w' :=
  (Vars_c l v w ok hv hz).mono (fun e w' ⟨⟨r, he, hr⟩, hb⟩ => by
    obtain ⟨A, c, rfl⟩ := Kd.Own.form hr
    exact ⟨⟨A, c, he, (Kd.Own.S hr).mono (fun _ _ => trivial)⟩, hb⟩)
theorem foldl_addNew_prefix : ∀ (l out : List Int), ∃ r, l.foldl addNew out = out ++ r
  | [], out => ⟨[], by simp⟩
  | n :: l, out => by
    obtain ⟨r, hr⟩ := foldl_addNew_prefix l (addNew out n)
    rw [List.foldl_cons, hr]
    unfold addNew
    split
    · exact ⟨r, rfl⟩
    · exact ⟨[n] ++ r, by simp⟩
theorem dd_prefix (l m : List Int) : (dd (l ++ m)).take (dd l).length = dd l := by
  rw [dd_append]
  obtain ⟨r, hr⟩ := foldl_addNew_prefix m (dd l)
  rw [hr, List.take_left]
theorem foldl_addNew_nodup : ∀ (l out : List Int), out.Nodup → (l.foldl addNew out).Nodup
  | [], out, h => h
  | n :: l, out, h => by
    rw [List.foldl_cons]
    refine foldl_addNew_nodup l _ ?_
    unfold addNew
    split
    · exact h
    · rename_i hn
      rw [List.nodup_append]
      exact ⟨h, by simp, fun a ha b hb => by rw [List.mem_singleton] at hb; rintro rfl; subst hb; exact hn ha⟩
theorem dd_nodup (l : List Int) : (dd l).Nodup := foldl_addNew_nodup l [] List.nodup_nil
theorem nodup_take {l : List Int} (h : l.Nodup) {j : Nat} (hj : j < l.length) : l[j] ∉ l.take j := by
  intro hm
  obtain ⟨i, hi⟩ := List.mem_iff_getElem.1 hm
  obtain ⟨hi', he⟩ := hi
  rw [List.length_take] at hi'
  rw [List.getElem_take] at he
  have hij := List.pairwise_iff_getElem.1 h i j (by omega) hj (by omega)
  exact hij he
theorem Kd.S.cap {α : Type} {d : Kd α} {w : World} {ok : Nat → Prop} {xs : List α} {A : Option Addr} {n c : Nat} (h : d.S w ok xs (.slice A n c)) : xs.length ≤ c := by
  obtain ⟨A', c', e, h1, h2, h3⟩ := h
  injection e with e1 e2 e3
  omega
theorem Kd.S.take {α : Type} {d : Kd α} {w : World} {ok : Nat → Prop} {xs : List α} {A : Option Addr} {n c m : Nat} (h : d.S w ok xs (.slice A n c)) (hm : m ≤ xs.length) : d.S w ok (xs.take m) (.slice A m c) := by
  obtain ⟨A', c', e, h1, h2, h3⟩ := h
  injection e with e1 e2 e3
  subst e1 e3
  refine ⟨A, c, by rw [List.length_take, Nat.min_eq_left hm], by rw [List.length_take]; omega, h2, ?_⟩
  rcases h3 with ⟨rfl, h4⟩ | ⟨b, o, ha, hb, hat⟩
  · exact .inl ⟨by simp, h4⟩
  · exact .inr ⟨b, o, ha, hb, fun j x hx => hat j x (by rw [List.getElem?_take] at hx; split at hx; exact hx; cases hx)⟩
end Go.Proofs.Ytdflckjnpgbjlaa

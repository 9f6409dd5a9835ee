/- What is known along a law's walk: boxes, lists, substitutions, and how they stay. No condition. -/
import Derived.Test.YtdflckjnpgbjlaaSe
set_option linter.unusedVariables false
set_option maxRecDepth 20000
set_option linter.unusedSimpArgs false
namespace Go.Proofs.Ytdflckjnpgbjlaa
open Go.RowKit

/-- A step that writes into a map alone, and makes memory. -/
structure Ug (b : Nat) (W W' : World) : Prop where
  g : W.grownBy W' (some b)
  n : ∀ c t f, W.heap[b]? ≠ some (.cells c t f)
theorem Kd.S.apart' {α : Type} {d : Kd α} {w : World} {ok : Nat → Prop} {m : Nat} {xs : List α} {v : Value} (hK : ∀ x cs, d.K w ok x cs → d.K w (fun b => ok b ∧ b ≠ m) x cs) (hm : ∀ c t f, w.heap[m]? ≠ some (.cells c t f)) (h : d.S w ok xs v) : d.S w (fun b => ok b ∧ b ≠ m) xs v := by
  obtain ⟨A, c, e, h1, h2, h3⟩ := h
  refine ⟨A, c, e, h1, h2, ?_⟩
  by_cases hx : xs = []
  · refine .inl ⟨hx, ?_⟩
    rcases h3 with h3 | ⟨b, o, ha, _⟩
    · exact h3.2
    · intro hn; rw [ha] at hn; cases hn
  · obtain ⟨b, o, ha, hb, ht⟩ := h3.resolve_left (fun h => hx h.1)
    refine .inr ⟨b, o, ha, ⟨hb, fun e => ?_⟩, fun j x hj => ?_⟩
    · subst e
      cases xs with
      | nil => exact hx rfl
      | cons x xs =>
        obtain ⟨cs, hk, hc⟩ := ht 0 x rfl
        have hl := d.len hk
        have hp := d.pos
        cases cs with
        | nil => simp at hl; omega
        | cons c cs =>
          have h0 := hc 0 c rfl
          unfold World.cell? at h0
          simp only at h0
          cases h0
    · obtain ⟨cs, hk, hc⟩ := ht j x hj
      exact ⟨cs, hK _ _ hk, hc⟩
section
variable {W W' : World} {b : Nat}
theorem tmK_apart {ok : Nat → Prop} {m : Nat} (hm : ∀ c t f, W.heap[m]? ≠ some (.cells c t f)) (x : Tm) (cs : List Value) (h : Kd.tm.K W ok x cs) : Kd.tm.K W (fun b => ok b ∧ b ≠ m) x cs := TmK.apart hm x cs h
theorem bdK_apart {ok : Nat → Prop} {m : Nat} (hm : ∀ c t f, W.heap[m]? ≠ some (.cells c t f)) (x : Int × Tm) (cs : List Value) (h : Kd.bd.K W ok x cs) : Kd.bd.K W (fun b => ok b ∧ b ≠ m) x cs := by
  obtain ⟨c1, c2, h1, h2, h3⟩ := h
  exact ⟨c1, c2, h1, h2, TmK.apart hm _ _ h3⟩
theorem tms_bind {x : List Tm} {v : Value} (hu : Ug b W W') (h : Kd.tm.S W (fun _ => True) x v) : Kd.tm.S W' (fun _ => True) x v :=
  (Kd.S.grown hu.g (fun k hk e => hk.2 (by injection e)) (Kd.S.apart' (tmK_apart hu.n) hu.n h)).mono (fun _ _ => trivial)
theorem bds_bind {x : Bs} {v : Value} (hu : Ug b W W') (h : Kd.bd.S W (fun _ => True) x v) : Kd.bd.S W' (fun _ => True) x v :=
  (Kd.S.grown hu.g (fun k hk e => hk.2 (by injection e)) (Kd.S.apart' (bdK_apart hu.n) hu.n h)).mono (fun _ _ => trivial)
theorem ints_bind {x : List Int} {v : Value} (hu : Ug b W W') (h : (Kd.int .i64).S W (fun _ => True) x v) : (Kd.int .i64).S W' (fun _ => True) x v :=
  (Kd.S.grown hu.g (fun k hk e => hk.2 (by injection e)) (Kd.S.apart' (fun x cs hk => hk) hu.n h)).mono (fun _ _ => trivial)
/-- A term in a box. -/
structure Bt (W : World) (B : Nat) (t : Tm) (u : Value) : Prop where
  box : W.heap[B]? = some (.cells #[.int .u8 t.k, .string t.s, .int .i64 t.n, u] 24 (0, 0))
  args : Kd.tm.S W (fun _ => True) t.l u
theorem Bt.below {B : Nat} {t : Tm} {u : Value} (h : Bt W B t u) (hb : Below W.heap.size W W') : Bt W' B t u := ⟨block_below hb (Array.getElem?_eq_some_iff.1 h.box).1 h.box, h.args.below hb⟩
theorem Bt.bind {B : Nat} {t : Tm} {u : Value} (h : Bt W B t u) (hu : Ug b W W') : Bt W' B t u :=
  ⟨(hu.g.block _ (Array.getElem?_eq_some_iff.1 h.box).1 (fun e => by injection e with e; exact hu.n _ _ _ (e ▸ h.box))).trans h.box, tms_bind hu h.args⟩
theorem Bt.tmv {B : Nat} {t : Tm} {u : Value} (h : Bt W B t u) : TmV W (fun _ => True) t (.agg #[.int .u8 t.k, .string t.s, .int .i64 t.n, u]) := ⟨u, rfl, h.args⟩
theorem Bt.cells {B : Nat} {t : Tm} {u : Value} (h : Bt W B t u) : W.cell? ⟨B, 0, none⟩ = some (.int .u8 t.k) ∧ W.cell? ⟨B, 1, none⟩ = some (.string t.s) ∧ W.cell? ⟨B, 2, none⟩ = some (.int .i64 t.n) ∧ W.cell? ⟨B, 3, none⟩ = some u :=
  let ⟨c0, c1, c2, c3, _, _, _, _⟩ := box4 h.box
  ⟨c0, c1, c2, c3⟩
theorem Bt.lt {B : Nat} {t : Tm} {u : Value} (h : Bt W B t u) : B < W.heap.size := (Array.getElem?_eq_some_iff.1 h.box).1
theorem Bt.new {ok : Nat → Prop} {t : Tm} {u : Value} (h : Kd.tm.S W ok t.l u) : Bt (W.alloc (.cells #[.int .u8 t.k, .string t.s, .int .i64 t.n, u] 24)) W.heap.size t u :=
  ⟨heap_new W _, (h.below ((Below.refl _ W).alloc (Nat.le_refl _) _)).mono (fun _ _ => trivial)⟩
/-- A substitution of the call's own. -/
structure Sb (w W : World) (l : Bs) (p b : Nat) : Prop where
  sub : Sub W (fun _ => True) l p b
  pw : w.heap.size ≤ p
  bw : w.heap.size ≤ b
theorem Sb.below {w : World} {l : Bs} {p q : Nat} (h : Sb w W l p q) (hb : Below W.heap.size W W') : Sb w W' l p q := ⟨h.sub.below hb, h.pw, h.bw⟩
/-- Another one is bound. -/
theorem Sb.bind {w : World} {l : Bs} {p q : Nat} (h : Sb w W l p q) (hu : Ug b W W') (hq : q ≠ b) : Sb w W' l p q := by
  refine ⟨?_, h.pw, h.bw⟩
  obtain ⟨h1, ⟨M, hM, hM2⟩, h3, h4⟩ := h.sub
  have hp : p ≠ b := fun e => hu.n _ _ _ (e ▸ h1)
  refine ⟨(hu.g.block p h.sub.lt.1 (fun e => hp (by injection e))).trans h1, ⟨M, hM.move (hu.g.block q h.sub.lt.2 (fun e => hq (by injection e))), fun n => ⟨(hM2 n).1, fun t hn => ?_⟩⟩, h3, h4⟩
  obtain ⟨v, hv, u, e, hS⟩ := (hM2 n).2 t hn
  exact ⟨v, hv, u, e, tms_bind hu hS⟩
theorem Sb.ug {w : World} {l : Bs} {p q : Nat} (h : Sb w W l p q) (hg : W.grownBy W' (some q)) : Ug q W W' := ⟨hg, h.sub.not_cells⟩
theorem below_bind {w : World} (h : Below w.heap.size w W) (hu : Ug b W W') (hb : w.heap.size ≤ b) : Below w.heap.size w W' := below_of_grown (gfresh (r := none) (gnone h) hu.g hb)
theorem tms_to {ok : Nat → Prop} {x : List Tm} {v : Value} (h : Kd.tm.S W ok x v) : Kd.tm.S W (fun _ => True) x v := h.mono (fun _ _ => trivial)
theorem tms_b {x : List Tm} {v : Value} (h : Kd.tm.S W (fun _ => True) x v) (hb : Below W.heap.size W W') : Kd.tm.S W' (fun _ => True) x v := h.below hb
theorem bds_b {x : Bs} {v : Value} (h : Kd.bd.S W (fun _ => True) x v) (hb : Below W.heap.size W W') : Kd.bd.S W' (fun _ => True) x v := h.below hb
theorem ints_b {x : List Int} {v : Value} (h : (Kd.int .i64).S W (fun _ => True) x v) (hb : Below W.heap.size W W') : (Kd.int .i64).S W' (fun _ => True) x v := h.below hb
end
theorem rSame_refl (t : Tm) (w : World) (ok ok' : Nat → Prop) (v v' : Value) (hv : TmV w ok t v) (hv' : TmV w ok' t v') : Calls Try.prog 26 #[v, v'] w fun e w' => e = .returned (.bool true) ∧ Below w.heap.size w w' := by
  have := Same_c t t w ok ok' v v' hv hv'
  rwa [(Tm.eqb_iff t t).2 rfl] at this

/-! ### What has been bound: of few nodes -/
theorem mk_siz {l : Bs} {N : Nat} (h : ∀ b ∈ l, b.2.siz ≤ N) : ∀ n t, ofB (mk [] l) n = some t → t.siz ≤ N := fun n t hn => by
  rcases mk_sub l [] _ (ofB_mem hn) with h1 | h1
  · cases h1
  · exact h _ h1
theorem great3_siz {l : Bs} {t : Tm} (h : great3 l t = false) : (∀ b ∈ l, b.2.siz ≤ 1000) ∧ t.siz ≤ 1000 := by
  have := great_siz (great3_no h).2
  simp only [sizL] at this
  refine ⟨fun b hb => ?_, by omega⟩
  have := siz_mem (List.mem_map.2 ⟨b, hb, rfl⟩ : b.2 ∈ l.map Prod.snd)
  omega
theorem appA_eq {l : Bs} {t : Tm} {f : Nat} (hA : Acyc l) (hf : Fn l f t) : app l f t = appA l t ∧ vis l f t = visA l t := hf.same (hA.fueled t)
end Go.Proofs.Ytdflckjnpgbjlaa

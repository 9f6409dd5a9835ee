/- The law OrderArgs: what a region that draws leaves, by what is done. No condition. -/
import Derived.Test.YtdflckjnpgbjlaaF8
import Derived.Test.YtdflckjnpgbjlaaDr
import Derived.Test.YtdflckjnpgbjlaaLOrderOne
set_option linter.unusedVariables false
set_option maxRecDepth 20000
set_option linter.unusedSimpArgs false
namespace Go.Proofs.Ytdflckjnpgbjlaa
open Go.RowKit

theorem oa_p1 (s : ByteArray) (a b : Tm) : cmpT ⟨4, s, 0, [a]⟩ ⟨4, s, 0, [b]⟩ = cmpT a b := by simp [cmpT, cmpL, cmpI_self, cmpS_self, zero_orI, orI_zero]
theorem oa_p2 (s : ByteArray) (a b : Tm) : cmpT ⟨4, s, 0, [a, b]⟩ ⟨4, s, 0, [b]⟩ = 1 := by
  simp only [cmpT, cmpI_self, zero_orI]
  rw [show cmpI (([a, b] : List Tm).length : Int) (([b] : List Tm).length : Int) = 1 from rfl, orI_ne _ (by decide)]
theorem oa_p3 (s : ByteArray) (a : Tm) : cmpT ⟨3, s, 0, []⟩ ⟨4, s, 0, [a]⟩ = -1 := by
  simp only [cmpT]
  rw [show cmpI 3 4 = -1 from rfl, orI_ne _ (by decide)]
theorem oa_p4 (s : ByteArray) (a b : Tm) : cmpT ⟨4, s, 0, [a, b]⟩ ⟨4, s, 0, [a, a]⟩ = cmpT b a := by simp [cmpT, cmpL, cmpI_self, cmpS_self, cmpT_self, zero_orI, orI_zero]

theorem oa_lit1 {W : World} {ok : Nat → Prop} {t : Tm} {u : Value} {b : Nat} (hb : W.heap[b]? = some (.cells #[.int .u8 t.k, .string t.s, .int .i64 t.n, u] 24 (0, 0)))
    (h : Kd.tm.S W ok t.l u) : Kd.tm.S2 W (fun _ => True) ok [t] (.slice (some ⟨b, 0, none⟩) 1 1) :=
  ⟨_, 1, rfl, Nat.le_refl _, by simp [maxLen], .inr ⟨b, 0, rfl, trivial, fun j x hx => by
    match j, hx with
    | 0, hx =>
      simp at hx; subst hx
      refine ⟨_, TmK_iff.2 ⟨u, rfl, h⟩, fun i v hv => ?_⟩
      match i, hv with
      | 0, hv => simp at hv; subst hv; simp [World.cell?, hb]
      | 1, hv => simp at hv; subst hv; simp [World.cell?, hb]
      | 2, hv => simp at hv; subst hv; simp [World.cell?, hb]
      | 3, hv => simp at hv; subst hv; simp [World.cell?, hb]
      | i + 4, hv => simp at hv
    | j + 1, hx => simp at hx⟩⟩
theorem oa_F1 (s : ByteArray) (t : Tm) {N : Nat} {u : Value} {b : Nat} {W : World} (hb : W.heap[b]? = some (.cells #[.int .u8 t.k, .string t.s, .int .i64 t.n, u] 24 (0, 0))) (h : Kd.tm.S W (fun x => x < N) t.l u) :
    Calls Try.prog 22 #[.string s, .slice (some ⟨b, 0, none⟩) 1 1] W fun e w' => (∃ A c, e = .returned (.agg #[.int .u8 4, .string s, .int .i64 0, .slice A 1 c]) ∧ Kd.tm.S w' (fun x => x < N ∨ W.heap.size ≤ x) [t] (.slice A 1 c)) ∧ Below W.heap.size W w' :=
  (F_c s [t] _ W _ _ (oa_lit1 hb h) (by simp)).mono (fun e w' ⟨⟨r, he, hr⟩, hb⟩ => by
    rw [mkF_cons] at hr
    obtain ⟨u, rfl, hS⟩ := hr
    obtain ⟨A, c, rfl⟩ := hS.form
    exact ⟨⟨A, c, he, hS⟩, hb⟩)

/-- Blocks that are not the new boxes. -/
def NotB (d8 d9 : Bool) (T7 T8 : Value) (x : Nat) : Prop := (d8 = true → T7 ≠ .pointer (some ⟨x, 0, none⟩)) ∧ (d9 = true → T8 ≠ .pointer (some ⟨x, 0, none⟩))
/-- What is done of the first such region. -/
structure OA (w : World) (N : Nat) (s : ByteArray) (a b : Tm) (ua ub : Value) (d2 d3 d6 d7 d8 d9 : Bool) (T40 T41 T44 T45 T7 T8 : Value) (W : World) : Prop where
  x1 : Bx w (fun x => x < N) w.heap.size a ua W
  x2 : Bx w (fun x => x < N) (w.heap.size + 1) b ub W
  n1 : w.heap.size + 2 ≤ N
  sz : N ≤ W.heap.size
  h2 : d2 = true → ∃ q, T40 = .slice (some ⟨q, 0, none⟩) 1 1 ∧ W.heap[q]? = some (.cells #[.int .u8 a.k, .string a.s, .int .i64 a.n, ua] 24 (0, 0))
  h3 : d3 = true → ∃ A c, T41 = .agg #[.int .u8 4, .string s, .int .i64 0, .slice A 1 c] ∧ Kd.tm.S W (NotB d8 d9 T7 T8) [a] (.slice A 1 c)
  h6 : d6 = true → ∃ q, T44 = .slice (some ⟨q, 0, none⟩) 1 1 ∧ W.heap[q]? = some (.cells #[.int .u8 b.k, .string b.s, .int .i64 b.n, ub] 24 (0, 0))
  h7 : d7 = true → ∃ A c, T45 = .agg #[.int .u8 4, .string s, .int .i64 0, .slice A 1 c] ∧ Kd.tm.S W (NotB d8 d9 T7 T8) [b] (.slice A 1 c)
  h8 : d8 = true → ∃ p, T7 = .pointer (some ⟨p, 0, none⟩) ∧ N ≤ p ∧ W.heap[p]? = some (.cells #[.int .u8 0, .string ⟨#[]⟩, .int .i64 0, .slice none 0 0] 24 (0, 0))
  h9 : d9 = true → ∃ p, T8 = .pointer (some ⟨p, 0, none⟩) ∧ N ≤ p ∧ W.heap[p]? = some (.cells #[.int .u8 0, .string ⟨#[]⟩, .int .i64 0, .slice none 0 0] 24 (0, 0))
  hne : d8 = true → d9 = true → T7 ≠ T8
theorem hlt {W : World} {p : Nat} {O : Obj} (h : W.heap[p]? = some O) : p < W.heap.size := (Array.getElem?_eq_some_iff.1 h).1
section
variable {w : World} {N : Nat} {s : ByteArray} {a b : Tm} {ua ub : Value} {d2 d3 d6 d7 d8 d9 : Bool} {T40 T41 T44 T45 T7 T8 : Value} {W W' : World}
theorem OA.then (h : OA w N s a b ua ub d2 d3 d6 d7 d8 d9 T40 T41 T44 T45 T7 T8 W) (hb : Below W.heap.size W W') : OA w N s a b ua ub d2 d3 d6 d7 d8 d9 T40 T41 T44 T45 T7 T8 W' where
  x1 := h.x1.then hb
  x2 := h.x2.then hb
  n1 := h.n1
  sz := Nat.le_trans h.sz hb.size
  h2 := fun e => let ⟨q, e1, hq⟩ := h.h2 e; ⟨q, e1, block_below hb (hlt hq) hq⟩
  h3 := fun e => let ⟨A, c, e1, hS⟩ := h.h3 e; ⟨A, c, e1, hS.below hb⟩
  h6 := fun e => let ⟨q, e1, hq⟩ := h.h6 e; ⟨q, e1, block_below hb (hlt hq) hq⟩
  h7 := fun e => let ⟨A, c, e1, hS⟩ := h.h7 e; ⟨A, c, e1, hS.below hb⟩
  h8 := fun e => let ⟨q, e1, hn, hq⟩ := h.h8 e; ⟨q, e1, hn, block_below hb (hlt hq) hq⟩
  h9 := fun e => let ⟨q, e1, hn, hq⟩ := h.h9 e; ⟨q, e1, hn, block_below hb (hlt hq) hq⟩
  hne := h.hne
theorem OA.all (h : OA w N s a b ua ub d2 d3 d6 d7 d8 d9 T40 T41 T44 T45 T7 T8 W) (O : Obj) : OA w N s a b ua ub d2 d3 d6 d7 d8 d9 T40 T41 T44 T45 T7 T8 (W.alloc O) := h.then ((Below.refl _ W).alloc (Nat.le_refl _) O)
theorem OA.s2 (h : OA w N s a b ua ub d2 d3 d6 d7 d8 d9 T40 T41 T44 T45 T7 T8 W) : OA w N s a b ua ub true d3 d6 d7 d8 d9 (.slice (some ⟨W.heap.size, 0, none⟩) 1 1) T41 T44 T45 T7 T8 (W.alloc (.cells #[.int .u8 a.k, .string a.s, .int .i64 a.n, ua] 24 (0, 0))) :=
  { h.all _ with h2 := fun _ => ⟨_, rfl, heap_new W _⟩ }
theorem OA.s6 (h : OA w N s a b ua ub d2 d3 d6 d7 d8 d9 T40 T41 T44 T45 T7 T8 W) : OA w N s a b ua ub d2 d3 true d7 d8 d9 T40 T41 (.slice (some ⟨W.heap.size, 0, none⟩) 1 1) T45 T7 T8 (W.alloc (.cells #[.int .u8 b.k, .string b.s, .int .i64 b.n, ub] 24 (0, 0))) :=
  { h.all _ with h6 := fun _ => ⟨_, rfl, heap_new W _⟩ }
theorem OA.notB (h : OA w N s a b ua ub d2 d3 d6 d7 d8 d9 T40 T41 T44 T45 T7 T8 W) (x : Nat) (hx : x < N ∨ W.heap.size ≤ x) : NotB d8 d9 T7 T8 x :=
  ⟨fun e he => by
    obtain ⟨p, e1, hn, hq⟩ := h.h8 e
    have := hlt hq
    rw [e1] at he
    injection he with he
    injection he with he
    injection he with he
    omega, fun e he => by
    obtain ⟨p, e1, hn, hq⟩ := h.h9 e
    have := hlt hq
    rw [e1] at he
    injection he with he
    injection he with he
    injection he with he
    omega⟩
theorem OA.s3 (h : OA w N s a b ua ub d2 d3 d6 d7 d8 d9 T40 T41 T44 T45 T7 T8 W) (hb : Below W.heap.size W W') {A : Option Addr} {c : Nat} (hS : Kd.tm.S W' (fun x => x < N ∨ W.heap.size ≤ x) [a] (.slice A 1 c)) :
    OA w N s a b ua ub d2 true d6 d7 d8 d9 T40 (.agg #[.int .u8 4, .string s, .int .i64 0, .slice A 1 c]) T44 T45 T7 T8 W' :=
  { h.then hb with h3 := fun _ => ⟨_, _, rfl, hS.mono h.notB⟩ }
theorem OA.s7 (h : OA w N s a b ua ub d2 d3 d6 d7 d8 d9 T40 T41 T44 T45 T7 T8 W) (hb : Below W.heap.size W W') {A : Option Addr} {c : Nat} (hS : Kd.tm.S W' (fun x => x < N ∨ W.heap.size ≤ x) [b] (.slice A 1 c)) :
    OA w N s a b ua ub d2 d3 d6 true d8 d9 T40 T41 T44 (.agg #[.int .u8 4, .string s, .int .i64 0, .slice A 1 c]) T7 T8 W' :=
  { h.then hb with h7 := fun _ => ⟨_, _, rfl, hS.mono h.notB⟩ }
theorem NotB.s8 {x n : Nat} (h : NotB d8 d9 T7 T8 x ∧ x < n) : NotB true d9 (.pointer (some ⟨n, 0, none⟩)) T8 x :=
  ⟨fun _ he => by
    injection he with he
    injection he with he
    injection he with he
    have := h.2
    omega, h.1.2⟩
theorem NotB.s9 {x n : Nat} (h : NotB d8 d9 T7 T8 x ∧ x < n) : NotB d8 true T7 (.pointer (some ⟨n, 0, none⟩)) x :=
  ⟨h.1.1, fun _ he => by
    injection he with he
    injection he with he
    injection he with he
    have := h.2
    omega⟩
theorem OA.s8 (h : OA w N s a b ua ub d2 d3 d6 d7 d8 d9 T40 T41 T44 T45 T7 T8 W) : OA w N s a b ua ub d2 d3 d6 d7 true d9 T40 T41 T44 T45 (.pointer (some ⟨W.heap.size, 0, none⟩)) T8 (W.alloc (.cells #[.int .u8 0, .string ⟨#[]⟩, .int .i64 0, .slice none 0 0] 24 (0, 0))) :=
  have hb := (Below.refl W.heap.size W).alloc (Nat.le_refl _) (.cells #[.int .u8 0, .string ⟨#[]⟩, .int .i64 0, .slice none 0 0] 24 (0, 0))
  { h.all _ with
    h3 := fun e => let ⟨A, c, e1, hS⟩ := h.h3 e; ⟨A, c, e1, (hS.bound.mono (fun _ => NotB.s8)).below hb⟩
    h7 := fun e => let ⟨A, c, e1, hS⟩ := h.h7 e; ⟨A, c, e1, (hS.bound.mono (fun _ => NotB.s8)).below hb⟩
    h8 := fun _ => ⟨_, rfl, h.sz, heap_new W _⟩
    hne := fun _ e he => by
      obtain ⟨p, e1, hn, hq⟩ := h.h9 e
      have := hlt hq
      rw [e1] at he
      injection he with he
      injection he with he
      injection he with he
      omega }
theorem OA.s9 (h : OA w N s a b ua ub d2 d3 d6 d7 d8 d9 T40 T41 T44 T45 T7 T8 W) : OA w N s a b ua ub d2 d3 d6 d7 d8 true T40 T41 T44 T45 T7 (.pointer (some ⟨W.heap.size, 0, none⟩)) (W.alloc (.cells #[.int .u8 0, .string ⟨#[]⟩, .int .i64 0, .slice none 0 0] 24 (0, 0))) :=
  have hb := (Below.refl W.heap.size W).alloc (Nat.le_refl _) (.cells #[.int .u8 0, .string ⟨#[]⟩, .int .i64 0, .slice none 0 0] 24 (0, 0))
  { h.all _ with
    h3 := fun e => let ⟨A, c, e1, hS⟩ := h.h3 e; ⟨A, c, e1, (hS.bound.mono (fun _ => NotB.s9)).below hb⟩
    h7 := fun e => let ⟨A, c, e1, hS⟩ := h.h7 e; ⟨A, c, e1, (hS.bound.mono (fun _ => NotB.s9)).below hb⟩
    h9 := fun _ => ⟨_, rfl, h.sz, heap_new W _⟩
    hne := fun e _ he => by
      obtain ⟨p, e1, hn, hq⟩ := h.h8 e
      have := hlt hq
      rw [e1] at he
      injection he with he
      injection he with he
      injection he with he
      omega }
end
/-- Four stores into a box. -/
def setB (W : World) (p : Nat) (k : Int) (s : ByteArray) (n : Int) (u : Value) : World := (((W.setCell ⟨p, 0, none⟩ (.int .u8 k)).setCell ⟨p, 1, none⟩ (.string s)).setCell ⟨p, 2, none⟩ (.int .i64 n)).setCell ⟨p, 3, none⟩ u
theorem setB_block {W : World} {B : Nat} {t : TypeId} {a' b' c' d' u : Value} {k n : Int} {s : ByteArray} (h : W.heap[B]? = some (.cells #[a', b', c', d'] t (0, 0))) : (setB W B k s n u).heap[B]? = some (.cells #[.int .u8 k, .string s, .int .i64 n, u] t (0, 0)) := by
  simp [setB, World.setCell, Array.getElem?_modify, h]
theorem setB_grown (W : World) (p : Nat) (k : Int) (s : ByteArray) (n : Int) (u : Value) : W.grownBy (setB W p k s n u) (some p) := grown_set4 W p _ _ _ _
theorem Bx.set {w W : World} {ok : Nat → Prop} {B p : Nat} {t : Tm} {v : Value} (h : Bx w ok B t v W) (hp : w.heap.size ≤ p) (hB : B ≠ p) (hok : ∀ x, ok x → x ≠ p) (k : Int) (s : ByteArray) (n : Int) (u : Value) : Bx w ok B t v (setB W p k s n u) :=
  ⟨h.below.grown (setB_grown W p k s n u) (by have := h.below.size; omega) (fun k hk => by injection hk; omega), ((setB_grown W p k s n u).block B (hlt h.box) (fun e => by injection e; omega)).trans h.box, Kd.S.grown (setB_grown W p k s n u) (fun x hx e => by injection e with e; exact hok x hx e) h.args⟩
theorem OA.fin {w : World} {N : Nat} {s : ByteArray} {a b : Tm} {ua ub : Value} {T40 T41 T44 T45 T7 T8 : Value} {W : World} (h : OA w N s a b ua ub true true true true true true T40 T41 T44 T45 T7 T8 W) :
    ∃ p q A A' c c', T7 = .pointer (some ⟨p, 0, none⟩) ∧ T8 = .pointer (some ⟨q, 0, none⟩) ∧ T41 = .agg #[.int .u8 4, .string s, .int .i64 0, .slice A 1 c] ∧ T45 = .agg #[.int .u8 4, .string s, .int .i64 0, .slice A' 1 c'] ∧ W.heap[p]? = some (.cells #[.int .u8 0, .string ⟨#[]⟩, .int .i64 0, .slice none 0 0] 24 (0, 0)) ∧
      (setB W p 4 s 0 (.slice A 1 c)).heap[q]? = some (.cells #[.int .u8 0, .string ⟨#[]⟩, .int .i64 0, .slice none 0 0] 24 (0, 0)) ∧
      Bx w (fun x => x < N) w.heap.size a ua (setB W p 4 s 0 (.slice A 1 c)) ∧ Bx w (fun x => x < N) (w.heap.size + 1) b ub (setB W p 4 s 0 (.slice A 1 c)) ∧
      Bx w (fun _ => True) w.heap.size a ua (setB (setB W p 4 s 0 (.slice A 1 c)) q 4 s 0 (.slice A' 1 c')) ∧ Bx w (fun _ => True) (w.heap.size + 1) b ub (setB (setB W p 4 s 0 (.slice A 1 c)) q 4 s 0 (.slice A' 1 c')) ∧
      Bx w (fun _ => True) p ⟨4, s, 0, [a]⟩ (.slice A 1 c) (setB (setB W p 4 s 0 (.slice A 1 c)) q 4 s 0 (.slice A' 1 c')) ∧ Bx w (fun _ => True) q ⟨4, s, 0, [b]⟩ (.slice A' 1 c') (setB (setB W p 4 s 0 (.slice A 1 c)) q 4 s 0 (.slice A' 1 c')) := by
  obtain ⟨p, rfl, hp, hhp⟩ := h.h8 rfl
  obtain ⟨q, rfl, hq, hhq⟩ := h.h9 rfl
  obtain ⟨A, c, rfl, hS⟩ := h.h3 rfl
  obtain ⟨A', c', rfl, hS'⟩ := h.h7 rfl
  have hpq : p ≠ q := fun e => h.hne rfl rfl (by rw [e])
  have hn := h.n1
  have hN : ∀ x, NotB true true (.pointer (some ⟨p, 0, none⟩)) (.pointer (some ⟨q, 0, none⟩)) x → x ≠ p ∧ x ≠ q := fun x hx => ⟨fun e => hx.1 rfl (by rw [e]), fun e => hx.2 rfl (by rw [e])⟩
  have g1 := setB_grown W p 4 s 0 (.slice A 1 c)
  have k1 : (setB W p 4 s 0 (.slice A 1 c)).heap[q]? = some (.cells #[.int .u8 0, .string ⟨#[]⟩, .int .i64 0, .slice none 0 0] 24 (0, 0)) := (g1.block q (hlt hhq) (fun e => by injection e; omega)).trans hhq
  have g2 := setB_grown (setB W p 4 s 0 (.slice A 1 c)) q 4 s 0 (.slice A' 1 c')
  have k2 : (setB (setB W p 4 s 0 (.slice A 1 c)) q 4 s 0 (.slice A' 1 c')).heap[p]? = some (.cells #[.int .u8 4, .string s, .int .i64 0, .slice A 1 c] 24 (0, 0)) := (g2.block p (hlt (setB_block hhp)) (fun e => by injection e; omega)).trans (setB_block hhp)
  have y1 := (h.x1.set (p := p) (by omega) (by omega) (fun x hx => by omega) 4 s 0 (.slice A 1 c)).set (p := q) (by omega) (by omega) (fun x hx => by omega) 4 s 0 (.slice A' 1 c')
  have y2 := (h.x2.set (p := p) (by omega) (by omega) (fun x hx => by omega) 4 s 0 (.slice A 1 c)).set (p := q) (by omega) (by omega) (fun x hx => by omega) 4 s 0 (.slice A' 1 c')
  refine ⟨p, q, A, A', c, c', rfl, rfl, rfl, rfl, hhp, k1, h.x1.set (p := p) (by omega) (by omega) (fun x hx => by omega) 4 s 0 (.slice A 1 c), h.x2.set (p := p) (by omega) (by omega) (fun x hx => by omega) 4 s 0 (.slice A 1 c), y1.mono, y2.mono, ⟨y1.below, k2, ?_⟩, ⟨y1.below, setB_block k1, ?_⟩⟩
  · exact Kd.S.mono (fun _ _ => trivial) (Kd.S.grown g2 (fun x hx e => (hN x hx).2 (by injection e)) (Kd.S.grown g1 (fun x hx e => (hN x hx).1 (by injection e)) hS))
  · exact Kd.S.mono (fun _ _ => trivial) (Kd.S.grown g2 (fun x hx e => (hN x hx).2 (by injection e)) (Kd.S.grown g1 (fun x hx e => (hN x hx).1 (by injection e)) hS'))

/-- One operation of a region that comes up. -/
theorem wpOp_shut {P : Program} {ops : Array Oper} {Q : Exit → Act → World → Prop} {i : Nat} {o : Oper} {K : Act → World → Prop} {a : Act} {w : World} (ho : ops[i]? = some o)
    (h : ∀ K' : Act → World → Prop, Shut (∀ a w, K a w → K' a w) → if Region.wanted o (yielded ops a.tmps) = true then Oper.wp P o a w K' Q else K' (a.put o.dst undef) w) : wpOp P ops Q i K a w := wpOp_step ho (fun K' hK => h K' hK)
/-- The code from a region on. -/
def begC (n : Nat) : Code → Bool
  | .region i _ _ => i == n
  | .seq a _ => begC n a
  | _ => false
def fromC (n : Nat) : Code → Code
  | .seq a b => if begC n a then .seq a b else fromC n b
  | c => c
def opsC (n : Nat) : Code → Array Oper
  | .region i ops _ => if i == n then ops else #[]
  | .seq a b => if begC n a then opsC n a else opsC n b
  | _ => #[]
noncomputable def Try.oaTail : Code := fromC 3 ((Try.f14.body).getD .skip)
noncomputable def Try.oaOps (n : Nat) : Array Oper := opsC n ((Try.f14.body).getD .skip)
theorem oa_rd3 : ∀ d2 d3 d6 d7 d8 d9 : Bool, ∀ i ∈ Region.ready .any (Try.oaOps 3) #[true, true, d2, d3, true, true, d6, d7, d8, d9, false, false],
    (i = 2 ∧ d2 = false) ∨ (i = 3 ∧ d2 = true ∧ d3 = false) ∨ (i = 6 ∧ d6 = false) ∨ (i = 7 ∧ d3 = true ∧ d6 = true ∧ d7 = false) ∨ (i = 8 ∧ d8 = false) ∨ (i = 9 ∧ d9 = false) ∨ (d2 && d3 && d7 && d8 && d9) = true := by decide +kernel
theorem oa_rd3n : ∀ d2 d3 d6 d7 d8 d9 : Bool, Region.ready .any (Try.oaOps 3) #[true, true, d2, d3, true, true, d6, d7, d8, d9, false, false] ≠ [] := by decide +kernel
end Go.Proofs.Ytdflckjnpgbjlaa

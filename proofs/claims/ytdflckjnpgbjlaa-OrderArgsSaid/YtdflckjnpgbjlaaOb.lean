/- The law OrderArgs from its first region that draws on. Conditions: the boxes of both terms. -/
import Derived.Test.YtdflckjnpgbjlaaOa
set_option linter.unusedVariables false
set_option maxRecDepth 20000
set_option linter.unusedSimpArgs false
namespace Go.Proofs.Ytdflckjnpgbjlaa
open Go.RowKit
attribute [local go_sem ↓] Go.wp_at_zero Go.wp_at_succ
/-- Both terms, and structures of them, boxed. -/
structure Four (w : World) (s : ByteArray) (a b : Tm) (ua ub : Value) (p q : Nat) (uf ug : Value) (W : World) : Prop where
  y1 : Bx w (fun _ => True) w.heap.size a ua W
  y2 : Bx w (fun _ => True) (w.heap.size + 1) b ub W
  y3 : Bx w (fun _ => True) p ⟨4, s, 0, [a]⟩ uf W
  y4 : Bx w (fun _ => True) q ⟨4, s, 0, [b]⟩ ug W
section
variable {w : World} {s : ByteArray} {a b : Tm} {ua ub : Value} {p q : Nat} {uf ug : Value} {W W' : World}
theorem Four.then (h : Four w s a b ua ub p q uf ug W) (hb : Below W.heap.size W W') : Four w s a b ua ub p q uf ug W' := ⟨h.y1.then hb, h.y2.then hb, h.y3.then hb, h.y4.then hb⟩
theorem Four.alloc (h : Four w s a b ua ub p q uf ug W) (O : Obj) : Four w s a b ua ub p q uf ug (W.alloc O) := h.then ((Below.refl _ W).alloc (Nat.le_refl _) O)
theorem Four.drew (h : Four w s a b ua ub p q uf ug W) : Four w s a b ua ub p q uf ug W.drew := h.then (Below.refl _ W).drew
def FourH (w : World) (s : ByteArray) (a b : Tm) (ua ub : Value) (p q : Nat) (uf ug : Value) (W : World) : Prop :=
  W.cell? ⟨w.heap.size, 0, none⟩ = some (.int .u8 a.k) ∧ W.cell? ⟨w.heap.size, 1, none⟩ = some (.string a.s) ∧ W.cell? ⟨w.heap.size, 2, none⟩ = some (.int .i64 a.n) ∧ W.cell? ⟨w.heap.size, 3, none⟩ = some (ua) ∧ W.cell? ⟨w.heap.size + 1, 0, none⟩ = some (.int .u8 b.k) ∧ W.cell? ⟨w.heap.size + 1, 1, none⟩ = some (.string b.s) ∧ W.cell? ⟨w.heap.size + 1, 2, none⟩ = some (.int .i64 b.n) ∧ W.cell? ⟨w.heap.size + 1, 3, none⟩ = some (ub) ∧ W.cell? ⟨p, 0, none⟩ = some (.int .u8 4) ∧ W.cell? ⟨p, 1, none⟩ = some (.string s) ∧ W.cell? ⟨p, 2, none⟩ = some (.int .i64 0) ∧ W.cell? ⟨p, 3, none⟩ = some (uf) ∧ W.cell? ⟨q, 0, none⟩ = some (.int .u8 4) ∧ W.cell? ⟨q, 1, none⟩ = some (.string s) ∧ W.cell? ⟨q, 2, none⟩ = some (.int .i64 0) ∧ W.cell? ⟨q, 3, none⟩ = some (ug)
theorem Four.held (h : Four w s a b ua ub p q uf ug W) : FourH w s a b ua ub p q uf ug W :=
  let ⟨c0, c1, c2, c3, _⟩ := h.y1.held
  let ⟨d0, d1, d2, d3, _⟩ := h.y2.held
  let ⟨e0, e1, e2, e3, _⟩ := h.y3.held
  let ⟨f0, f1, f2, f3, _⟩ := h.y4.held
  ⟨c0, c1, c2, c3, d0, d1, d2, d3, e0, e1, e2, e3, f0, f1, f2, f3⟩
theorem FourH.s3 (h : FourH w s a b ua ub p q uf ug W) : W.cell? ⟨w.heap.size, 0, none⟩ = some (.int .u8 a.k) ∧ W.cell? ⟨w.heap.size, 1, none⟩ = some (.string a.s) ∧ W.cell? ⟨w.heap.size, 2, none⟩ = some (.int .i64 a.n) ∧ W.cell? ⟨w.heap.size, 3, none⟩ = some (ua) ∧ W.cell? ⟨w.heap.size + 1, 0, none⟩ = some (.int .u8 b.k) ∧ W.cell? ⟨w.heap.size + 1, 1, none⟩ = some (.string b.s) ∧ W.cell? ⟨w.heap.size + 1, 2, none⟩ = some (.int .i64 b.n) ∧ W.cell? ⟨w.heap.size + 1, 3, none⟩ = some (ub) :=
  let ⟨c0, c1, c2, c3, d0, d1, d2, d3, _⟩ := h
  ⟨c0, c1, c2, c3, d0, d1, d2, d3⟩
end
/-- A structure of what is written out. -/
theorem Fk_c (s : ByteArray) (t : Tm) (l : List Tm) {W : World} {ok : Nat → Prop} {v : Value} (h : Kd.tm.S W ok (t :: l) v) (hz : l.length ≤ 999999) :
    Calls Try.prog 22 #[.string s, v] W fun e w' => (∃ A c, e = .returned (.agg #[.int .u8 4, .string s, .int .i64 0, .slice A (t :: l).length c]) ∧ Kd.tm.S w' (fun _ => True) (t :: l) (.slice A (t :: l).length c)) ∧ Below W.heap.size W w' :=
  (F_c s (t :: l) v W _ _ h.S2 (by simp; omega)).mono (fun e w' ⟨⟨r, he, hr⟩, hb⟩ => by
    rw [mkF_cons] at hr
    obtain ⟨u, rfl, hS⟩ := hr
    obtain ⟨A, c, rfl⟩ := hS.form
    exact ⟨⟨A, c, he, hS.mono (fun _ _ => trivial)⟩, hb⟩)
theorem oa_F2 (s : ByteArray) (t t2 : Tm) {W : World} {ok : Nat → Prop} {v : Value} (h : Kd.tm.S W ok [t, t2] v) :
    Calls Try.prog 22 #[.string s, v] W fun e w' => (∃ A c, e = .returned (.agg #[.int .u8 4, .string s, .int .i64 0, .slice A 2 c]) ∧ Kd.tm.S w' (fun _ => True) [t, t2] (.slice A 2 c)) ∧ Below W.heap.size W w' := Fk_c s t [t2] h (by simp)
theorem oa_F1s (s : ByteArray) (t : Tm) {W : World} {ok : Nat → Prop} {v : Value} (h : Kd.tm.S W ok [t] v) :
    Calls Try.prog 22 #[.string s, v] W fun e w' => (∃ A c, e = .returned (.agg #[.int .u8 4, .string s, .int .i64 0, .slice A 1 c]) ∧ Kd.tm.S w' (fun _ => True) [t] (.slice A 1 c)) ∧ Below W.heap.size W w' := Fk_c s t [] h (by simp)
section
variable {w : World} {s : ByteArray} {a b : Tm} {A A' B1 B2 C1 C2 : Option Addr} {c c' k1 k2 n1 n2 p q : Nat} {W : World} {ok ok' : Nat → Prop}
theorem oa_C1 (h : Four w s a b (.slice A a.l.length c) (.slice A' b.l.length c') p q (.slice B1 1 k1) (.slice B2 1 k2) W) :
    Calls Try.prog 51 #[.agg #[.int .u8 4, .string s, .int .i64 0, .slice B1 1 k1], .agg #[.int .u8 4, .string s, .int .i64 0, .slice B2 1 k2]] W fun e w' => e = .returned (.int .i64 (cmpT a b)) ∧ Below W.heap.size W w' := by
  rw [← oa_p1 s a b]; exact Compare_c ⟨4, s, 0, [a]⟩ ⟨4, s, 0, [b]⟩ _ _ _ _ _ h.y3.tmv h.y4.tmv
theorem oa_C2 (h : Four w s a b (.slice A a.l.length c) (.slice A' b.l.length c') p q (.slice B1 1 k1) (.slice B2 1 k2) W) :
    Calls Try.prog 51 #[.agg #[.int .u8 a.k, .string a.s, .int .i64 a.n, .slice A a.l.length c], .agg #[.int .u8 b.k, .string b.s, .int .i64 b.n, .slice A' b.l.length c']] W fun e w' => e = .returned (.int .i64 (cmpT a b)) ∧ Below W.heap.size W w' := Compare_c a b _ _ _ _ _ h.y1.tmv h.y2.tmv
theorem oa_C5 (h : Four w s a b (.slice A a.l.length c) (.slice A' b.l.length c') p q (.slice B1 1 k1) (.slice B2 1 k2) W) :
    Calls Try.prog 51 #[.agg #[.int .u8 b.k, .string b.s, .int .i64 b.n, .slice A' b.l.length c'], .agg #[.int .u8 a.k, .string a.s, .int .i64 a.n, .slice A a.l.length c]] W fun e w' => e = .returned (.int .i64 (cmpT b a)) ∧ Below W.heap.size W w' := Compare_c b a _ _ _ _ _ h.y2.tmv h.y1.tmv
theorem oa_C4 (h : Four w s a b (.slice A a.l.length c) (.slice A' b.l.length c') p q (.slice B1 1 k1) (.slice B2 1 k2) W) :
    Calls Try.prog 51 #[.agg #[.int .u8 3, .string s, .int .i64 0, .slice none 0 0], .agg #[.int .u8 4, .string s, .int .i64 0, .slice B1 1 k1]] W fun e w' => e = .returned (.int .i64 (-1)) ∧ Below W.heap.size W w' := by
  rw [← oa_p3 s a]; exact Compare_c ⟨3, s, 0, []⟩ ⟨4, s, 0, [a]⟩ _ (fun _ => True) _ _ _ ⟨_, rfl, Kd.S.nil _ _ _⟩ h.y3.tmv
theorem oa_C3 (h : Kd.tm.S W ok [a, b] (.slice C1 2 n1)) (h' : Kd.tm.S W ok' [b] (.slice C2 1 n2)) :
    Calls Try.prog 51 #[.agg #[.int .u8 4, .string s, .int .i64 0, .slice C1 2 n1], .agg #[.int .u8 4, .string s, .int .i64 0, .slice C2 1 n2]] W fun e w' => e = .returned (.int .i64 1) ∧ Below W.heap.size W w' := by
  rw [← oa_p2 s a b]; exact Compare_c ⟨4, s, 0, [a, b]⟩ ⟨4, s, 0, [b]⟩ _ _ _ _ _ ⟨_, rfl, h⟩ ⟨_, rfl, h'⟩
theorem oa_C6 (h : Kd.tm.S W ok [a, b] (.slice C1 2 n1)) (h' : Kd.tm.S W ok' [a, a] (.slice C2 2 n2)) :
    Calls Try.prog 51 #[.agg #[.int .u8 4, .string s, .int .i64 0, .slice C1 2 n1], .agg #[.int .u8 4, .string s, .int .i64 0, .slice C2 2 n2]] W fun e w' => e = .returned (.int .i64 (cmpT b a)) ∧ Below W.heap.size W w' := by
  rw [← oa_p4 s a b]; exact Compare_c ⟨4, s, 0, [a, b]⟩ ⟨4, s, 0, [a, a]⟩ _ _ _ _ _ ⟨_, rfl, h⟩ ⟨_, rfl, h'⟩
end
/-- What is done of what floats in the second such region. -/
structure OB (w : World) (s : ByteArray) (a b : Tm) (ua ub : Value) (p q : Nat) (uf ug : Value) (l m : List Tm) (d1 d2 d5 : Bool) (T1 T2 T5 : Value) (W : World) : Prop where
  z : Four w s a b ua ub p q uf ug W
  h1 : d1 = true → Kd.tm.S W (fun _ => True) l T1
  h2 : d2 = true → ∃ A c, T2 = .agg #[.int .u8 4, .string s, .int .i64 0, .slice A 2 c] ∧ Kd.tm.S W (fun _ => True) l (.slice A 2 c)
  h5 : d5 = true → Kd.tm.S W (fun _ => True) m T5
section
variable {w : World} {s : ByteArray} {a b : Tm} {ua ub : Value} {p q : Nat} {uf ug : Value} {W W' : World} {l m : List Tm} {d1 d2 d5 : Bool} {T1 T2 T5 : Value}
theorem OB.then (h : OB w s a b ua ub p q uf ug l m d1 d2 d5 T1 T2 T5 W) (hb : Below W.heap.size W W') : OB w s a b ua ub p q uf ug l m d1 d2 d5 T1 T2 T5 W' :=
  ⟨h.z.then hb, fun e => (h.h1 e).below hb, fun e => let ⟨A, c, e1, hS⟩ := h.h2 e; ⟨A, c, e1, hS.below hb⟩, fun e => (h.h5 e).below hb⟩
theorem OB.s1 (h : OB w s a b ua ub p q uf ug l m d1 d2 d5 T1 T2 T5 W) {O : Obj} {T : Value} (hT : Kd.tm.S (W.alloc O) (fun _ => True) l T) : OB w s a b ua ub p q uf ug l m true d2 d5 T T2 T5 (W.alloc O) :=
  { h.then ((Below.refl _ W).alloc (Nat.le_refl _) O) with h1 := fun _ => hT }
theorem OB.s5 (h : OB w s a b ua ub p q uf ug l m d1 d2 d5 T1 T2 T5 W) {O : Obj} {T : Value} (hT : Kd.tm.S (W.alloc O) (fun _ => True) m T) : OB w s a b ua ub p q uf ug l m d1 d2 true T1 T2 T (W.alloc O) :=
  { h.then ((Below.refl _ W).alloc (Nat.le_refl _) O) with h5 := fun _ => hT }
theorem OB.s2 (h : OB w s a b ua ub p q uf ug l m d1 d2 d5 T1 T2 T5 W) (hb : Below W.heap.size W W') {A : Option Addr} {c : Nat} (hT : Kd.tm.S W' (fun _ => True) l (.slice A 2 c)) : OB w s a b ua ub p q uf ug l m d1 true d5 T1 (.agg #[.int .u8 4, .string s, .int .i64 0, .slice A 2 c]) T5 W' :=
  { h.then hb with h2 := fun _ => ⟨_, _, rfl, hT⟩ }
end
theorem oa_rd4a : ∀ d1 d2 d5 : Bool, ∀ i ∈ Region.ready .any (Try.oaOps 4) #[true, true, true, true, true, true, true, true, true, true, true, d1, d2, true, true, d5, false, false, false, false, false, false, false, false, false, false, false, false, false, false, false, false, false, false, false, false, false, false, false, false, false, false, false, false, false, false, false, false],
    (i = 11 ∧ d1 = false) ∨ (i = 12 ∧ d1 = true ∧ d2 = false) ∨ (i = 15 ∧ d5 = false) ∨ (d2 && d5) = true := by decide +kernel
theorem oa_rd4an : ∀ d1 d2 d5 : Bool, Region.ready .any (Try.oaOps 4) #[true, true, true, true, true, true, true, true, true, true, true, d1, d2, true, true, d5, false, false, false, false, false, false, false, false, false, false, false, false, false, false, false, false, false, false, false, false, false, false, false, false, false, false, false, false, false, false, false, false] ≠ [] := by decide +kernel
theorem oa_rd4b : ∀ d1 d2 d5 : Bool, ∀ i ∈ Region.ready .any (Try.oaOps 4) #[true, true, true, true, true, true, true, true, true, true, true, true, true, true, true, true, true, true, true, true, true, true, true, true, true, true, true, true, true, true, true, d1, d2, true, true, true, d5, false, false, true, true, false, false, false, false, false, false, false],
    (i = 31 ∧ d1 = false) ∨ (i = 32 ∧ d1 = true ∧ d2 = false) ∨ (i = 36 ∧ d5 = false) ∨ (d2 && d5) = true := by decide +kernel
theorem oa_rd4bn : ∀ d1 d2 d5 : Bool, Region.ready .any (Try.oaOps 4) #[true, true, true, true, true, true, true, true, true, true, true, true, true, true, true, true, true, true, true, true, true, true, true, true, true, true, true, true, true, true, true, d1, d2, true, true, true, d5, false, false, true, true, false, false, false, false, false, false, false] ≠ [] := by decide +kernel
set_option maxRecDepth 100000 in
set_option maxHeartbeats 16000000 in
theorem oa_tail (s : ByteArray) (a b : Tm) (w W0 : World) (N : Nat) (A A' : Option Addr) (c c' : Nat) (hx1 : Bx w (fun x => x < N) w.heap.size a (.slice A a.l.length c) W0.drew) (hx2 : Bx w (fun x => x < N) (w.heap.size + 1) b (.slice A' b.l.length c') W0.drew) (hn1 : w.heap.size + 2 ≤ N) (hsz : N ≤ W0.drew.heap.size)
    {u1 u2 u3 u6 u7 u8 u9 u10 u11 u12 u13 u14 u15 u16 u17 u18 u19 u20 u21 u22 u23 u24 u25 u26 u27 u28 u29 u30 u31 u32 u33 u34 u35 u36 u37 u38 u39 u40 u41 u42 u43 u44 u45 u46 u47 u48 u49 u50 u51 u52 u53 u54 u55 u56 u57 u58 u59 u60 u61 u62 u63 u64 u65 u66 u67 u68 u69 u70 u71 u72 u73 u74 u75 u76 u77 u78 u79 u80 u81 u82 u83 u84 u85 u86 u87 u88 u89 u90 u91 u92 : Value} :
    Code.wp Try.prog Try.oaTail (bodyPost Try.prog Try.f14 fun e w' => e = .returned (.bool true) ∧ Below w.heap.size w w') ⟨#[.string s, u1, u2, u3, .pointer (some ⟨w.heap.size, 0, none⟩), .pointer (some ⟨w.heap.size + 1, 0, none⟩), u6, u7, u8, u9, u10, u11, u12, u13, u14, u15, u16, u17, u18, u19, u20, u21, u22, u23, u24, u25, u26, u27, u28, u29, u30, u31, u32, u33, u34, u35, u36, u37, u38, u39, u40, u41, u42, u43, u44, u45, u46, u47, u48, u49, u50, u51, u52, u53, u54, u55, u56, u57, u58, u59, u60, u61, u62, u63, u64, u65, u66, u67, u68, u69, u70, u71, u72, u73, u74, u75, u76, u77, u78, u79, u80, u81, u82, u83, u84, u85, u86, u87, u88, u89, u90, u91, u92], []⟩ W0 := by
  obtain ⟨e0, e1, e2, e3, -⟩ := hx1.held
  obtain ⟨f0, f1, f2, f3, -⟩ := hx2.held
  conv => arg 2; whnf
  go_wp2
  refine wp_region_held_drew (S := (fun W => W.cell? ⟨w.heap.size, 0, none⟩ = some (.int .u8 a.k) ∧ W.cell? ⟨w.heap.size, 1, none⟩ = some (.string a.s) ∧ W.cell? ⟨w.heap.size, 2, none⟩ = some (.int .i64 a.n) ∧ W.cell? ⟨w.heap.size, 3, none⟩ = some (.slice A a.l.length c) ∧ W.cell? ⟨w.heap.size + 1, 0, none⟩ = some (.int .u8 b.k) ∧ W.cell? ⟨w.heap.size + 1, 1, none⟩ = some (.string b.s) ∧ W.cell? ⟨w.heap.size + 1, 2, none⟩ = some (.int .i64 b.n) ∧ W.cell? ⟨w.heap.size + 1, 3, none⟩ = some (.slice A' b.l.length c'))) (by kernel_rfl) ?_ (fun hHeld => ?_)
  · exact ⟨e0, e1, e2, e3, f0, f1, f2, f3⟩
  change wpAnyH _ .any _ _ _ 12 (Array.replicate 12 false) _ _
  refine wpAnyH_take (i := 0) (oi := ⟨some 38, _, _, _, _, _⟩) (v := ?_) rfl (by kernel_rfl) (by kernel_rfl) (by kernel_rfl) (fun _ _ _ h => h) (Or.inl ⟨by rfl, ?_⟩) (by assumption) ?_
  rotate_left
  · (intro w hSw; (try dsimp only at hSw); go_simp; try (with_reducible rfl))
  (try simp only [Act.put, List.setIfInBounds_toArray, List.set_cons_zero, List.set_cons_succ])
  refine wpAnyH_take (i := 1) (oi := ⟨some 39, _, _, _, _, _⟩) (v := ?_) rfl (by kernel_rfl) (by kernel_rfl) (by kernel_rfl) (fun _ _ _ h => h) (Or.inl ⟨by rfl, ?_⟩) (by assumption) ?_
  rotate_left
  · (intro w hSw; (try dsimp only at hSw); go_simp; try (with_reducible rfl))
  (try simp only [Act.put, List.setIfInBounds_toArray, List.set_cons_zero, List.set_cons_succ])
  refine wpAnyH_take (i := 4) (oi := ⟨some 42, _, _, _, _, _⟩) (v := ?_) rfl (by kernel_rfl) (by kernel_rfl) (by kernel_rfl) (fun _ _ _ h => h) (Or.inl ⟨by rfl, ?_⟩) (by assumption) ?_
  rotate_left
  · (intro w hSw; (try dsimp only at hSw); go_simp; try (with_reducible rfl))
  (try simp only [Act.put, List.setIfInBounds_toArray, List.set_cons_zero, List.set_cons_succ])
  refine wpAnyH_take (i := 5) (oi := ⟨some 43, _, _, _, _, _⟩) (v := ?_) rfl (by kernel_rfl) (by kernel_rfl) (by kernel_rfl) (fun _ _ _ h => h) (Or.inl ⟨by rfl, ?_⟩) (by assumption) ?_
  rotate_left
  · (intro w hSw; (try dsimp only at hSw); go_simp; try (with_reducible rfl))
  (try simp only [Act.put, List.setIfInBounds_toArray, List.set_cons_zero, List.set_cons_succ])
  refine wpAnyH_inv (I := fun listed act W => ∃ (d2 d3 d6 d7 d8 d9 : Bool) (T40 T41 T44 T45 T7 T8 : Value), listed = #[true, true, d2, d3, true, true, d6, d7, d8, d9, false, false] ∧ act = ⟨#[.string s, u1, u2, u3, .pointer (some ⟨w.heap.size, 0, none⟩), .pointer (some ⟨w.heap.size + 1, 0, none⟩), u6, T7, T8, u9, u10, u11, u12, u13, u14, u15, u16, u17, u18, u19, u20, u21, u22, u23, u24, u25, u26, u27, u28, u29, u30, u31, u32, u33, u34, u35, u36, u37, .string s, .agg #[.int .u8 a.k, .string a.s, .int .i64 a.n, .slice A a.l.length c], T40, T41, .string s, .agg #[.int .u8 b.k, .string b.s, .int .i64 b.n, .slice A' b.l.length c'], T44, T45, u46, u47, u48, u49, u50, u51, u52, u53, u54, u55, u56, u57, u58, u59, u60, u61, u62, u63, u64, u65, u66, u67, u68, u69, u70, u71, u72, u73, u74, u75, u76, u77, u78, u79, u80, u81, u82, u83, u84, u85, u86, u87, u88, u89, u90, u91, u92], []⟩ ∧ (d7 = true → d6 = true) ∧ OA w N s a b (.slice A a.l.length c) (.slice A' b.l.length c') d2 d3 d6 d7 d8 d9 T40 T41 T44 T45 T7 T8 W)
    (stop := fun listed => listed = #[true, true, true, true, true, true, true, true, true, true, false, false]) ?_ ?_ ?_ ?_ _ _ _ _ ⟨false, false, false, false, false, false, u40, u41, u44, u45, u7, u8, rfl, rfl, fun h => Bool.noConfusion h, ?_⟩ (by decide)
  · rintro listed act W ⟨d2, d3, d6, d7, d8, d9, T40, T41, T44, T45, T7, T8, rfl, rfl, hd, hO⟩
    obtain ⟨e0, e1, e2, e3, -⟩ := hO.x1.held
    obtain ⟨f0, f1, f2, f3, -⟩ := hO.x2.held
    exact ⟨e0, e1, e2, e3, f0, f1, f2, f3⟩
  · clear e0 e1 e2 e3 f0 f1 f2 f3 hHeld
    rintro listed act W i ⟨d2, d3, d6, d7, d8, d9, T40, T41, T44, T45, T7, T8, rfl, rfl, hd, hO⟩ hi
    rcases oa_rd3 _ _ _ _ _ _ i hi with ⟨rfl, rfl⟩ | ⟨rfl, rfl, rfl⟩ | ⟨rfl, rfl⟩ | ⟨rfl, rfl, rfl, rfl⟩ | ⟨rfl, rfl⟩ | ⟨rfl, rfl⟩ | hall
    · clear hi
      right; refine wpOp_shut (o := ⟨some 40, _, _, _, _, _⟩) rfl (fun K hK => ?_); go_simp
      exact hK.out _ _ ⟨true, d3, d6, d7, d8, d9, _, T41, T44, T45, T7, T8, rfl, rfl, hd, hO.s2⟩
    · clear hi
      obtain ⟨qb, rfl, hq⟩ := hO.h2 rfl
      have HF := Lib.hid (oa_F1 s a hq hO.x1.args)
      right; refine wpOp_shut (o := ⟨some 41, _, _, _, _, _⟩) rfl (fun K hK => ?_); go_simp
      go_at_call 22; refine HF.out.mono ?_; clear HF; rintro e w1 ⟨⟨C1, n1, rfl, hS1⟩, hb⟩
      go_wp2_with fail
      exact hK.out _ _ ⟨true, true, d6, d7, d8, d9, _, _, T44, T45, T7, T8, rfl, rfl, hd, hO.s3 hb hS1⟩
    · clear hi
      right; refine wpOp_shut (o := ⟨some 44, _, _, _, _, _⟩) rfl (fun K hK => ?_); go_simp
      exact hK.out _ _ ⟨d2, d3, true, d7, d8, d9, T40, T41, _, T45, T7, T8, rfl, rfl, fun _ => rfl, hO.s6⟩
    · clear hi
      obtain ⟨qb, rfl, hq⟩ := hO.h6 rfl
      have HF := Lib.hid (oa_F1 s b hq hO.x2.args)
      right; refine wpOp_shut (o := ⟨some 45, _, _, _, _, _⟩) rfl (fun K hK => ?_); go_simp
      go_at_call 22; refine HF.out.mono ?_; clear HF; rintro e w1 ⟨⟨C1, n1, rfl, hS1⟩, hb⟩
      go_wp2_with fail
      exact hK.out _ _ ⟨d2, true, true, true, d8, d9, T40, T41, _, _, T7, T8, rfl, rfl, fun _ => rfl, hO.s7 hb hS1⟩
    · clear hi
      right; refine wpOp_shut (o := ⟨some 7, _, _, _, _, _⟩) rfl (fun K hK => ?_); go_simp
      exact hK.out _ _ ⟨d2, d3, d6, d7, true, d9, T40, T41, T44, T45, _, T8, rfl, rfl, hd, hO.s8⟩
    · clear hi
      right; refine wpOp_shut (o := ⟨some 8, _, _, _, _, _⟩) rfl (fun K hK => ?_); go_simp
      exact hK.out _ _ ⟨d2, d3, d6, d7, d8, true, T40, T41, T44, T45, T7, _, rfl, rfl, hd, hO.s9⟩
    · left
      simp only [Bool.and_eq_true] at hall
      obtain ⟨⟨⟨⟨rfl, rfl⟩, rfl⟩, rfl⟩, rfl⟩ := hall
      have h6 := hd rfl
      subst h6
      rfl
  · clear e0 e1 e2 e3 f0 f1 f2 f3 hHeld
    rintro fuel listed act W ⟨d2, d3, d6, d7, d8, d9, T40, T41, T44, T45, T7, T8, rfl, rfl, hd, hO⟩ hs hc
    have hs' : d2 = true ∧ d3 = true ∧ d6 = true ∧ d7 = true ∧ d8 = true ∧ d9 = true := by simpa using hs
    obtain ⟨rfl, rfl, rfl, rfl, rfl, rfl⟩ := hs'
    have hc' : 2 ≤ fuel := hc
    obtain ⟨f, rfl⟩ : ∃ f, fuel = f + 1 + 1 := ⟨fuel - 2, by omega⟩
    clear hs hc hc' hd
    obtain ⟨p, q, B1, B2, k1, k2, rfl, rfl, rfl, rfl, hp, hq, z1, z2, y1, y2, y3, y4⟩ := hO.fin
    clear hO
    obtain ⟨z0, -, -, -, -⟩ := z1.held
    have HZ1 := Lib.hid z1.held
    have HZ2 := Lib.hid z2.held
    have HY : Hid (Four w s a b (.slice A a.l.length c) (.slice A' b.l.length c') p q (.slice B1 1 k1) (.slice B2 1 k2) (setB (setB W p 4 s 0 (.slice B1 1 k1)) q 4 s 0 (.slice B2 1 k2))) := Lib.hid ⟨y1, y2, y3, y4⟩
    obtain ⟨g0, g1, g2, g3, r0, r1, r2, r3⟩ := box4 hp
    have hqq := box4 hq
    unfold setB at hqq
    obtain ⟨g0', g1', g2', g3', r0', r1', r2', r3'⟩ := hqq
    clear y1 y2 y3 y4 z1 z2 z0 hp hq
    refine wpAnyH_ready (rs := [10]) (by kernel_rfl) (by simp) ?_
    refine AllReadyH.cons (o := ⟨none, _, _, _, _, _⟩) rfl (fun K hK => ?_) AllReadyH.nil
    go_simp
    refine hK.out _ (setB W p 4 s 0 (.slice B1 1 k1)) ⟨HZ1.out.1, HZ1.out.2.1, HZ1.out.2.2.1, HZ1.out.2.2.2.1, HZ2.out.1, HZ2.out.2.1, HZ2.out.2.2.1, HZ2.out.2.2.2.1⟩ (fun hHeld => ?_)
    clear hK K
    unfold setB
    (try simp only [Act.put, List.setIfInBounds_toArray, List.set_cons_zero, List.set_cons_succ])
    refine wpAnyH_ready (rs := [11]) (by kernel_rfl) (by simp) ?_
    refine AllReadyH.cons (o := ⟨none, _, _, _, _, _⟩) rfl (fun K hK => ?_) AllReadyH.nil
    go_simp
    have z := HY.out
    refine hK.out _ (setB (setB W p 4 s 0 (.slice B1 1 k1)) q 4 s 0 (.slice B2 1 k2)) (Four.held z).s3 (fun hHeld => ?_)
    clear hK K g0 g1 g2 g3 r0 r1 r2 r3 g0' g1' g2' g3' r0' r1' r2' r3' HZ1 HZ2 hHeld HY
    generalize setB (setB W p 4 s 0 (.slice B1 1 k1)) q 4 s 0 (.slice B2 1 k2) = W2 at z ⊢
    (try simp only [Act.put, List.setIfInBounds_toArray, List.set_cons_zero, List.set_cons_succ])
    refine wpAnyH_done (by kernel_rfl) ?_ _
    go_wp2
    replace z := z.drew
    refine wp_region_held_drew (S := (fun W => W.cell? ⟨w.heap.size, 0, none⟩ = some (.int .u8 a.k) ∧ W.cell? ⟨w.heap.size, 1, none⟩ = some (.string a.s) ∧ W.cell? ⟨w.heap.size, 2, none⟩ = some (.int .i64 a.n) ∧ W.cell? ⟨w.heap.size, 3, none⟩ = some (.slice A a.l.length c) ∧ W.cell? ⟨w.heap.size + 1, 0, none⟩ = some (.int .u8 b.k) ∧ W.cell? ⟨w.heap.size + 1, 1, none⟩ = some (.string b.s) ∧ W.cell? ⟨w.heap.size + 1, 2, none⟩ = some (.int .i64 b.n) ∧ W.cell? ⟨w.heap.size + 1, 3, none⟩ = some (.slice A' b.l.length c') ∧ W.cell? ⟨p, 0, none⟩ = some (.int .u8 4) ∧ W.cell? ⟨p, 1, none⟩ = some (.string s) ∧ W.cell? ⟨p, 2, none⟩ = some (.int .i64 0) ∧ W.cell? ⟨p, 3, none⟩ = some (.slice B1 1 k1) ∧ W.cell? ⟨q, 0, none⟩ = some (.int .u8 4) ∧ W.cell? ⟨q, 1, none⟩ = some (.string s) ∧ W.cell? ⟨q, 2, none⟩ = some (.int .i64 0) ∧ W.cell? ⟨q, 3, none⟩ = some (.slice B2 1 k2))) (by kernel_rfl) ?_ (fun hHeld => ?_)
    · exact z.held
    change wpAnyH _ .any _ _ _ 48 (Array.replicate 48 false) _ _
    refine wpAnyH_take (i := 0) (oi := ⟨some 46, _, _, _, _, _⟩) (v := ?_) rfl (by kernel_rfl) (by kernel_rfl) (by kernel_rfl) (fun _ _ _ h => h) (Or.inl ⟨by rfl, ?_⟩) (by assumption) ?_
    rotate_left
    · (intro w hSw; (try dsimp only at hSw); go_simp; try (with_reducible rfl))
    (try simp only [Act.put, List.setIfInBounds_toArray, List.set_cons_zero, List.set_cons_succ])
    refine wpAnyH_take (i := 1) (oi := ⟨some 47, _, _, _, _, _⟩) (v := ?_) rfl (by kernel_rfl) (by kernel_rfl) (by kernel_rfl) (fun _ _ _ h => h) (Or.inl ⟨by rfl, ?_⟩) (by assumption) ?_
    rotate_left
    · (intro w hSw; (try dsimp only at hSw); go_simp; try (with_reducible rfl))
    (try simp only [Act.put, List.setIfInBounds_toArray, List.set_cons_zero, List.set_cons_succ])
    refine wpAnyH_take (i := 3) (oi := ⟨some 49, _, _, _, _, _⟩) (v := ?_) rfl (by kernel_rfl) (by kernel_rfl) (by kernel_rfl) (fun _ _ _ h => h) (Or.inl ⟨by rfl, ?_⟩) (by assumption) ?_
    rotate_left
    · (intro w hSw; (try dsimp only at hSw); go_simp; try (with_reducible rfl))
    (try simp only [Act.put, List.setIfInBounds_toArray, List.set_cons_zero, List.set_cons_succ])
    refine wpAnyH_take (i := 4) (oi := ⟨some 50, _, _, _, _, _⟩) (v := ?_) rfl (by kernel_rfl) (by kernel_rfl) (by kernel_rfl) (fun _ _ _ h => h) (Or.inl ⟨by rfl, ?_⟩) (by assumption) ?_
    rotate_left
    · (intro w hSw; (try dsimp only at hSw); go_simp; try (with_reducible rfl))
    (try simp only [Act.put, List.setIfInBounds_toArray, List.set_cons_zero, List.set_cons_succ])
    refine wpAnyH_ready (rs := [2]) (by kernel_rfl) (by simp) ?_
    refine AllReadyH.cons (o := ⟨some 48, _, _, _, _, _⟩) rfl (fun K hK => ?_) AllReadyH.nil
    go_simp
    go_at_call 51; refine (oa_C1 z).mono ?_; rintro e w1 ⟨rfl, hb⟩; replace z := z.then hb; clear hb
    go_wp2_with fail
    refine hK.out _ _ z.held (fun hHeld => ?_)
    clear hK K
    (try simp only [Act.put, List.setIfInBounds_toArray, List.set_cons_zero, List.set_cons_succ])
    refine wpAnyH_ready (rs := [5]) (by kernel_rfl) (by simp) ?_
    refine AllReadyH.cons (o := ⟨some 51, _, _, _, _, _⟩) rfl (fun K hK => ?_) AllReadyH.nil
    go_simp
    go_at_call 51; refine (oa_C2 z).mono ?_; rintro e w1 ⟨rfl, hb⟩; replace z := z.then hb; clear hb
    go_wp2_with fail
    refine hK.out _ _ z.held (fun hHeld => ?_)
    clear hK K
    (try simp only [Act.put, List.setIfInBounds_toArray, List.set_cons_zero, List.set_cons_succ])
    refine wpAnyH_take (i := 6) (oi := ⟨some 52, _, _, _, _, _⟩) (v := ?_) rfl (by kernel_rfl) (by kernel_rfl) (by kernel_rfl) (fun _ _ _ h => h) (Or.inl ⟨by rfl, ?_⟩) (by assumption) ?_
    rotate_left
    · (intro w hSw; (try dsimp only at hSw); go_simp; try (with_reducible rfl))
    (try simp only [Act.put, List.setIfInBounds_toArray, List.set_cons_zero, List.set_cons_succ])
    refine wpAnyH_take (i := 7) (oi := ⟨some 53, _, _, _, _, _⟩) (v := ?_) rfl (by kernel_rfl) (by kernel_rfl) (by kernel_rfl) (fun _ _ _ h => h) (Or.inl ⟨by rfl, ?_⟩) (by assumption) ?_
    rotate_left
    · (intro w hSw; (try dsimp only at hSw); go_simp; try (with_reducible rfl))
    (try simp only [Act.put, List.setIfInBounds_toArray, List.set_cons_zero, List.set_cons_succ])
    refine wpAnyH_take (i := 8) (oi := ⟨some 54, _, _, _, _, _⟩) (v := ?_) rfl (by kernel_rfl) (by kernel_rfl) (by kernel_rfl) (fun _ _ _ h => h) (Or.inl ⟨by rfl, ?_⟩) (by assumption) ?_
    rotate_left
    · (intro w hSw; (try dsimp only at hSw); go_simp; try (with_reducible rfl))
    (try simp only [Act.put, List.setIfInBounds_toArray, List.set_cons_zero, List.set_cons_succ])
    refine wpAnyH_take (i := 9) (oi := ⟨some 55, _, _, _, _, _⟩) (v := ?_) rfl (by kernel_rfl) (by kernel_rfl) (by kernel_rfl) (fun _ _ _ h => h) (Or.inl ⟨by rfl, ?_⟩) (by assumption) ?_
    rotate_left
    · (intro w hSw; (try dsimp only at hSw); go_simp; try (with_reducible rfl))
    (try simp only [Act.put, List.setIfInBounds_toArray, List.set_cons_zero, List.set_cons_succ])
    refine wpAnyH_take (i := 10) (oi := ⟨some 56, _, _, _, _, _⟩) (v := ?_) rfl (by kernel_rfl) (by kernel_rfl) (by kernel_rfl) (fun _ _ _ h => h) (Or.inl ⟨by rfl, ?_⟩) (by assumption) ?_
    rotate_left
    · (intro w hSw; (try dsimp only at hSw); go_simp; try (with_reducible rfl))
    (try simp only [Act.put, List.setIfInBounds_toArray, List.set_cons_zero, List.set_cons_succ])
    refine wpAnyH_take (i := 13) (oi := ⟨some 59, _, _, _, _, _⟩) (v := ?_) rfl (by kernel_rfl) (by kernel_rfl) (by kernel_rfl) (fun _ _ _ h => h) (Or.inl ⟨by rfl, ?_⟩) (by assumption) ?_
    rotate_left
    · (intro w hSw; (try dsimp only at hSw); go_simp; try (with_reducible rfl))
    (try simp only [Act.put, List.setIfInBounds_toArray, List.set_cons_zero, List.set_cons_succ])
    refine wpAnyH_take (i := 14) (oi := ⟨some 60, _, _, _, _, _⟩) (v := ?_) rfl (by kernel_rfl) (by kernel_rfl) (by kernel_rfl) (fun _ _ _ h => h) (Or.inl ⟨by rfl, ?_⟩) (by assumption) ?_
    rotate_left
    · (intro w hSw; (try dsimp only at hSw); go_simp; try (with_reducible rfl))
    (try simp only [Act.put, List.setIfInBounds_toArray, List.set_cons_zero, List.set_cons_succ])
    refine wpAnyH_inv (I := fun listed act W => ∃ (d1 d2 d5 : Bool) (X1 X2 X5 : Value), listed = #[true, true, true, true, true, true, true, true, true, true, true, d1, d2, true, true, d5, false, false, false, false, false, false, false, false, false, false, false, false, false, false, false, false, false, false, false, false, false, false, false, false, false, false, false, false, false, false, false, false] ∧ act = ⟨#[.string s, u1, u2, u3, .pointer (some ⟨w.heap.size, 0, none⟩), .pointer (some ⟨w.heap.size + 1, 0, none⟩), u6, .pointer (some ⟨p, 0, none⟩), .pointer (some ⟨q, 0, none⟩), u9, u10, u11, u12, u13, u14, u15, u16, u17, u18, u19, u20, u21, u22, u23, u24, u25, u26, u27, u28, u29, u30, u31, u32, u33, u34, u35, u36, u37, .string s, .agg #[.int .u8 a.k, .string a.s, .int .i64 a.n, .slice A a.l.length c], T40, .agg #[.int .u8 4, .string s, .int .i64 0, .slice B1 1 k1], .string s, .agg #[.int .u8 b.k, .string b.s, .int .i64 b.n, .slice A' b.l.length c'], T44, .agg #[.int .u8 4, .string s, .int .i64 0, .slice B2 1 k2], .agg #[.int .u8 4, .string s, .int .i64 0, .slice B1 1 k1], .agg #[.int .u8 4, .string s, .int .i64 0, .slice B2 1 k2], .int .i64 (cmpT a b), .agg #[.int .u8 a.k, .string a.s, .int .i64 a.n, .slice A a.l.length c], .agg #[.int .u8 b.k, .string b.s, .int .i64 b.n, .slice A' b.l.length c'], .int .i64 (cmpT a b), .bool true, .bool true, .string s, .agg #[.int .u8 a.k, .string a.s, .int .i64 a.n, .slice A a.l.length c], .agg #[.int .u8 b.k, .string b.s, .int .i64 b.n, .slice A' b.l.length c'], X1, X2, .string s, .agg #[.int .u8 b.k, .string b.s, .int .i64 b.n, .slice A' b.l.length c'], X5, u62, u63, u64, u65, u66, u67, u68, u69, u70, u71, u72, u73, u74, u75, u76, u77, u78, u79, u80, u81, u82, u83, u84, u85, u86, u87, u88, u89, u90, u91, u92], []⟩ ∧ (d2 = true → d1 = true) ∧ OB w s a b (.slice A a.l.length c) (.slice A' b.l.length c') p q (.slice B1 1 k1) (.slice B2 1 k2) [a, b] [b] d1 d2 d5 X1 X2 X5 W)
      (stop := fun listed => listed = #[true, true, true, true, true, true, true, true, true, true, true, true, true, true, true, true, false, false, false, false, false, false, false, false, false, false, false, false, false, false, false, false, false, false, false, false, false, false, false, false, false, false, false, false, false, false, false, false]) ?_ ?_ ?_ ?_ _ _ _ _ ⟨false, false, false, u57, u58, u61, rfl, rfl, fun h => Bool.noConfusion h, ?_⟩ (by first | decide | exact Nat.le_add_left _ _)
    · rintro listed act W ⟨d1, d2, d5, X1, X2, X5, rfl, rfl, hd, hO⟩
      exact hO.z.held
    · clear z hHeld
      rintro listed act W i ⟨d1, d2, d5, X1, X2, X5, rfl, rfl, hd, hO⟩ hi
      rcases oa_rd4a _ _ _ i hi with ⟨rfl, rfl⟩ | ⟨rfl, rfl, rfl⟩ | ⟨rfl, rfl⟩ | hall
      · clear hi
        right; refine wpOp_shut (o := ⟨some 57, _, _, _, _, _⟩) rfl (fun K hK => ?_); go_simp
        exact hK.out _ _ ⟨true, d2, d5, _, X2, X5, rfl, rfl, fun _ => rfl, hO.s1 (lit2_at (heap_new W _) (hO.z.alloc _).y1.args (hO.z.alloc _).y2.args)⟩
      · clear hi
        have HF := Lib.hid (oa_F2 s a b (hO.h1 rfl))
        right; refine wpOp_shut (o := ⟨some 58, _, _, _, _, _⟩) rfl (fun K hK => ?_); go_simp
        go_at_call 22; refine HF.out.mono ?_; clear HF; rintro e w1 ⟨⟨C1, n1, rfl, hS1⟩, hb⟩
        go_wp2_with fail
        exact hK.out _ _ ⟨true, true, d5, X1, _, X5, rfl, rfl, fun _ => rfl, hO.s2 hb hS1⟩
      · clear hi
        right; refine wpOp_shut (o := ⟨some 61, _, _, _, _, _⟩) rfl (fun K hK => ?_); go_simp
        exact hK.out _ _ ⟨d1, d2, true, X1, X2, _, rfl, rfl, hd, hO.s5 (lit1_at (heap_new W _) (hO.z.alloc _).y2.args)⟩
      · left
        simp only [Bool.and_eq_true] at hall
        obtain ⟨rfl, rfl⟩ := hall
        have h6 := hd rfl
        subst h6
        rfl
    · clear z hHeld
      rintro fuel listed act W ⟨d1, d2, d5, X1, X2, X5, rfl, rfl, hd, hO⟩ hs hc
      have hs' : d1 = true ∧ d2 = true ∧ d5 = true := by simpa using hs
      obtain ⟨rfl, rfl, rfl⟩ := hs'
      have hc' : 32 ≤ fuel := hc
      obtain ⟨f, rfl⟩ : ∃ f, fuel = f + 1 + 1 + 1 + 1 + 1 + 1 + 1 + 1 + 1 + 1 + 1 + 1 + 1 + 1 + 1 + 1 + 1 + 1 + 1 + 1 + 1 + 1 + 1 + 1 + 1 + 1 + 1 + 1 + 1 + 1 + 1 + 1 := ⟨fuel - 32, by omega⟩
      clear hs hc hc' hd
      obtain ⟨C1, n1, rfl, hS1⟩ := hO.h2 rfl
      have hS5 := hO.h5 rfl
      have z := hO.z
      have hHeld := z.held
      clear hO
      refine wpAnyH_ready (rs := [16]) (by kernel_rfl) (by simp) ?_
      refine AllReadyH.cons (o := ⟨some 62, _, _, _, _, _⟩) rfl (fun K hK => ?_) AllReadyH.nil
      go_simp
      go_at_call 22; refine (oa_F1s s b hS5).mono ?_; rintro e w1 ⟨⟨C2, n2, rfl, hS2⟩, hb⟩; replace z := z.then hb; replace hS1 := hS1.below hb; clear hb hS5
      go_wp2_with fail
      refine hK.out _ _ z.held (fun hHeld => ?_)
      clear hK K
      (try simp only [Act.put, List.setIfInBounds_toArray, List.set_cons_zero, List.set_cons_succ])
      refine wpAnyH_ready (rs := [17]) (by kernel_rfl) (by simp) ?_
      refine AllReadyH.cons (o := ⟨some 63, _, _, _, _, _⟩) rfl (fun K hK => ?_) AllReadyH.nil
      go_simp
      go_at_call 51; refine (oa_C3 hS1 hS2).mono ?_; rintro e w1 ⟨rfl, hb⟩; replace z := z.then hb; clear hb hS1 hS2
      go_wp2_with fail
      refine hK.out _ _ z.held (fun hHeld => ?_)
      clear hK K
      (try simp only [Act.put, List.setIfInBounds_toArray, List.set_cons_zero, List.set_cons_succ])
      refine wpAnyH_take (i := 18) (oi := ⟨some 64, _, _, _, _, _⟩) (v := ?_) rfl (by kernel_rfl) (by kernel_rfl) (by kernel_rfl) (fun _ _ _ h => h) (Or.inl ⟨by rfl, ?_⟩) (by assumption) ?_
      rotate_left
      · (intro w hSw; (try dsimp only at hSw); go_simp; try (with_reducible rfl))
      (try simp only [Act.put, List.setIfInBounds_toArray, List.set_cons_zero, List.set_cons_succ])
      refine wpAnyH_take (i := 19) (oi := ⟨some 65, _, _, _, _, _⟩) (v := ?_) rfl (by kernel_rfl) (by kernel_rfl) (by kernel_rfl) (fun _ _ _ h => h) (Or.inl ⟨by rfl, ?_⟩) (by assumption) ?_
      rotate_left
      · (intro w hSw; (try dsimp only at hSw); go_simp; try (with_reducible rfl))
      (try simp only [Act.put, List.setIfInBounds_toArray, List.set_cons_zero, List.set_cons_succ])
      refine wpAnyH_take (i := 20) (oi := ⟨some 66, _, _, _, _, _⟩) (v := ?_) rfl (by kernel_rfl) (by kernel_rfl) (by kernel_rfl) (fun _ _ _ h => h) (Or.inl ⟨by rfl, ?_⟩) (by assumption) ?_
      rotate_left
      · (intro w hSw; (try dsimp only at hSw); go_simp; try (with_reducible rfl))
      (try simp only [Act.put, List.setIfInBounds_toArray, List.set_cons_zero, List.set_cons_succ])
      refine wpAnyH_take (i := 21) (oi := ⟨some 67, _, _, _, _, _⟩) (v := ?_) rfl (by kernel_rfl) (by kernel_rfl) (by kernel_rfl) (fun _ _ _ h => h) (Or.inl ⟨by rfl, ?_⟩) (by assumption) ?_
      rotate_left
      · (intro w hSw; (try dsimp only at hSw); go_simp; try (with_reducible rfl))
      (try simp only [Act.put, List.setIfInBounds_toArray, List.set_cons_zero, List.set_cons_succ])
      refine wpAnyH_take (i := 23) (oi := ⟨some 69, _, _, _, _, _⟩) (v := ?_) rfl (by kernel_rfl) (by kernel_rfl) (by kernel_rfl) (fun _ _ _ h => h) (Or.inl ⟨by rfl, ?_⟩) (by assumption) ?_
      rotate_left
      · (intro w hSw; (try dsimp only at hSw); go_simp; try (with_reducible rfl))
      (try simp only [Act.put, List.setIfInBounds_toArray, List.set_cons_zero, List.set_cons_succ])
      refine wpAnyH_ready (rs := [22]) (by kernel_rfl) (by simp) ?_
      refine AllReadyH.cons (o := ⟨some 68, _, _, _, _, _⟩) rfl (fun K hK => ?_) AllReadyH.nil
      go_simp
      go_at_call 52; refine (A_c s _ (fun _ => True)).mono ?_; rintro e w1 ⟨rfl, hb⟩; replace z := z.then hb; clear hb
      go_wp2_with fail
      refine hK.out _ _ z.held (fun hHeld => ?_)
      clear hK K
      (try simp only [Act.put, List.setIfInBounds_toArray, List.set_cons_zero, List.set_cons_succ])
      refine wpAnyH_ready (rs := [24]) (by kernel_rfl) (by simp) ?_
      refine AllReadyH.cons (o := ⟨some 70, _, _, _, _, _⟩) rfl (fun K hK => ?_) AllReadyH.nil
      go_simp
      go_at_call 51; refine (oa_C4 z).mono ?_; rintro e w1 ⟨rfl, hb⟩; replace z := z.then hb; clear hb
      go_wp2_with fail
      refine hK.out _ _ z.held (fun hHeld => ?_)
      clear hK K
      (try simp only [Act.put, List.setIfInBounds_toArray, List.set_cons_zero, List.set_cons_succ])
      refine wpAnyH_take (i := 25) (oi := ⟨some 71, _, _, _, _, _⟩) (v := ?_) rfl (by kernel_rfl) (by kernel_rfl) (by kernel_rfl) (fun _ _ _ h => h) (Or.inl ⟨by rfl, ?_⟩) (by assumption) ?_
      rotate_left
      · (intro w hSw; (try dsimp only at hSw); go_simp; try (with_reducible rfl))
      (try simp only [Act.put, List.setIfInBounds_toArray, List.set_cons_zero, List.set_cons_succ])
      refine wpAnyH_take (i := 26) (oi := ⟨some 72, _, _, _, _, _⟩) (v := ?_) rfl (by kernel_rfl) (by kernel_rfl) (by kernel_rfl) (fun _ _ _ h => h) (Or.inl ⟨by rfl, ?_⟩) (by assumption) ?_
      rotate_left
      · (intro w hSw; (try dsimp only at hSw); go_simp; try (with_reducible rfl))
      (try simp only [Act.put, List.setIfInBounds_toArray, List.set_cons_zero, List.set_cons_succ])
      refine wpAnyH_take (i := 27) (oi := ⟨some 73, _, _, _, _, _⟩) (v := ?_) rfl (by kernel_rfl) (by kernel_rfl) (by kernel_rfl) (fun _ _ _ h => h) (Or.inl ⟨by rfl, ?_⟩) (by assumption) ?_
      rotate_left
      · (intro w hSw; (try dsimp only at hSw); go_simp; try (with_reducible rfl))
      (try simp only [Act.put, List.setIfInBounds_toArray, List.set_cons_zero, List.set_cons_succ])
      refine wpAnyH_take (i := 28) (oi := ⟨some 74, _, _, _, _, _⟩) (v := ?_) rfl (by kernel_rfl) (by kernel_rfl) (by kernel_rfl) (fun _ _ _ h => h) (Or.inl ⟨by rfl, ?_⟩) (by assumption) ?_
      rotate_left
      · (intro w hSw; (try dsimp only at hSw); go_simp; try (with_reducible rfl))
      (try simp only [Act.put, List.setIfInBounds_toArray, List.set_cons_zero, List.set_cons_succ])
      refine wpAnyH_take (i := 29) (oi := ⟨some 75, _, _, _, _, _⟩) (v := ?_) rfl (by kernel_rfl) (by kernel_rfl) (by kernel_rfl) (fun _ _ _ h => h) (Or.inl ⟨by rfl, ?_⟩) (by assumption) ?_
      rotate_left
      · (intro w hSw; (try dsimp only at hSw); go_simp; try (with_reducible rfl))
      (try simp only [Act.put, List.setIfInBounds_toArray, List.set_cons_zero, List.set_cons_succ])
      refine wpAnyH_take (i := 30) (oi := ⟨some 76, _, _, _, _, _⟩) (v := ?_) rfl (by kernel_rfl) (by kernel_rfl) (by kernel_rfl) (fun _ _ _ h => h) (Or.inl ⟨by rfl, ?_⟩) (by assumption) ?_
      rotate_left
      · (intro w hSw; (try dsimp only at hSw); go_simp; try (with_reducible rfl))
      (try simp only [Act.put, List.setIfInBounds_toArray, List.set_cons_zero, List.set_cons_succ])
      refine wpAnyH_take (i := 33) (oi := ⟨some 79, _, _, _, _, _⟩) (v := ?_) rfl (by kernel_rfl) (by kernel_rfl) (by kernel_rfl) (fun _ _ _ h => h) (Or.inl ⟨by rfl, ?_⟩) (by assumption) ?_
      rotate_left
      · (intro w hSw; (try dsimp only at hSw); go_simp; try (with_reducible rfl))
      (try simp only [Act.put, List.setIfInBounds_toArray, List.set_cons_zero, List.set_cons_succ])
      refine wpAnyH_take (i := 34) (oi := ⟨some 80, _, _, _, _, _⟩) (v := ?_) rfl (by kernel_rfl) (by kernel_rfl) (by kernel_rfl) (fun _ _ _ h => h) (Or.inl ⟨by rfl, ?_⟩) (by assumption) ?_
      rotate_left
      · (intro w hSw; (try dsimp only at hSw); go_simp; try (with_reducible rfl))
      (try simp only [Act.put, List.setIfInBounds_toArray, List.set_cons_zero, List.set_cons_succ])
      refine wpAnyH_take (i := 35) (oi := ⟨some 81, _, _, _, _, _⟩) (v := ?_) rfl (by kernel_rfl) (by kernel_rfl) (by kernel_rfl) (fun _ _ _ h => h) (Or.inl ⟨by rfl, ?_⟩) (by assumption) ?_
      rotate_left
      · (intro w hSw; (try dsimp only at hSw); go_simp; try (with_reducible rfl))
      (try simp only [Act.put, List.setIfInBounds_toArray, List.set_cons_zero, List.set_cons_succ])
      refine wpAnyH_take (i := 39) (oi := ⟨some 85, _, _, _, _, _⟩) (v := ?_) rfl (by kernel_rfl) (by kernel_rfl) (by kernel_rfl) (fun _ _ _ h => h) (Or.inl ⟨by rfl, ?_⟩) (by assumption) ?_
      rotate_left
      · (intro w hSw; (try dsimp only at hSw); go_simp; try (with_reducible rfl))
      (try simp only [Act.put, List.setIfInBounds_toArray, List.set_cons_zero, List.set_cons_succ])
      refine wpAnyH_take (i := 40) (oi := ⟨some 86, _, _, _, _, _⟩) (v := ?_) rfl (by kernel_rfl) (by kernel_rfl) (by kernel_rfl) (fun _ _ _ h => h) (Or.inl ⟨by rfl, ?_⟩) (by assumption) ?_
      rotate_left
      · (intro w hSw; (try dsimp only at hSw); go_simp; try (with_reducible rfl))
      (try simp only [Act.put, List.setIfInBounds_toArray, List.set_cons_zero, List.set_cons_succ])
      refine wpAnyH_inv (I := fun listed act W => ∃ (d1 d2 d5 : Bool) (T1 T2 T5 : Value), listed = #[true, true, true, true, true, true, true, true, true, true, true, true, true, true, true, true, true, true, true, true, true, true, true, true, true, true, true, true, true, true, true, d1, d2, true, true, true, d5, false, false, true, true, false, false, false, false, false, false, false] ∧ act = ⟨#[.string s, u1, u2, u3, .pointer (some ⟨w.heap.size, 0, none⟩), .pointer (some ⟨w.heap.size + 1, 0, none⟩), u6, .pointer (some ⟨p, 0, none⟩), .pointer (some ⟨q, 0, none⟩), u9, u10, u11, u12, u13, u14, u15, u16, u17, u18, u19, u20, u21, u22, u23, u24, u25, u26, u27, u28, u29, u30, u31, u32, u33, u34, u35, u36, u37, .string s, .agg #[.int .u8 a.k, .string a.s, .int .i64 a.n, .slice A a.l.length c], T40, .agg #[.int .u8 4, .string s, .int .i64 0, .slice B1 1 k1], .string s, .agg #[.int .u8 b.k, .string b.s, .int .i64 b.n, .slice A' b.l.length c'], T44, .agg #[.int .u8 4, .string s, .int .i64 0, .slice B2 1 k2], .agg #[.int .u8 4, .string s, .int .i64 0, .slice B1 1 k1], .agg #[.int .u8 4, .string s, .int .i64 0, .slice B2 1 k2], .int .i64 (cmpT a b), .agg #[.int .u8 a.k, .string a.s, .int .i64 a.n, .slice A a.l.length c], .agg #[.int .u8 b.k, .string b.s, .int .i64 b.n, .slice A' b.l.length c'], .int .i64 (cmpT a b), .bool true, .bool true, .string s, .agg #[.int .u8 a.k, .string a.s, .int .i64 a.n, .slice A a.l.length c], .agg #[.int .u8 b.k, .string b.s, .int .i64 b.n, .slice A' b.l.length c'], X1, .agg #[.int .u8 4, .string s, .int .i64 0, .slice C1 2 n1], .string s, .agg #[.int .u8 b.k, .string b.s, .int .i64 b.n, .slice A' b.l.length c'], X5, .agg #[.int .u8 4, .string s, .int .i64 0, .slice C2 1 n2], .int .i64 1, .bool true, .bool true, .bool true, .string s, .agg #[.int .u8 3, .string s, .int .i64 0, .slice none 0 0], .agg #[.int .u8 4, .string s, .int .i64 0, .slice B1 1 k1], .int .i64 (-1), .bool true, .bool true, .bool true, .string s, .agg #[.int .u8 a.k, .string a.s, .int .i64 a.n, .slice A a.l.length c], .agg #[.int .u8 b.k, .string b.s, .int .i64 b.n, .slice A' b.l.length c'], T1, T2, .string s, .agg #[.int .u8 a.k, .string a.s, .int .i64 a.n, .slice A a.l.length c], .agg #[.int .u8 a.k, .string a.s, .int .i64 a.n, .slice A a.l.length c], T5, u83, u84, .agg #[.int .u8 b.k, .string b.s, .int .i64 b.n, .slice A' b.l.length c'], .agg #[.int .u8 a.k, .string a.s, .int .i64 a.n, .slice A a.l.length c], u87, u88, u89, u90, u91, u92], []⟩ ∧ (d2 = true → d1 = true) ∧ OB w s a b (.slice A a.l.length c) (.slice A' b.l.length c') p q (.slice B1 1 k1) (.slice B2 1 k2) [a, b] [a, a] d1 d2 d5 T1 T2 T5 W)
        (stop := fun listed => listed = #[true, true, true, true, true, true, true, true, true, true, true, true, true, true, true, true, true, true, true, true, true, true, true, true, true, true, true, true, true, true, true, true, true, true, true, true, true, false, false, true, true, false, false, false, false, false, false, false]) ?_ ?_ ?_ ?_ _ _ _ _ ⟨false, false, false, u77, u78, u82, rfl, rfl, fun h => Bool.noConfusion h, ?_⟩ (by first | decide | exact Nat.le_add_left _ _)
      · rintro listed act W ⟨d1, d2, d5, T1, T2, T5, rfl, rfl, hd, hO⟩
        exact hO.z.held
      · clear z hHeld
        rintro listed act W i ⟨d1, d2, d5, T1, T2, T5, rfl, rfl, hd, hO⟩ hi
        rcases oa_rd4b _ _ _ i hi with ⟨rfl, rfl⟩ | ⟨rfl, rfl, rfl⟩ | ⟨rfl, rfl⟩ | hall
        · clear hi
          right; refine wpOp_shut (o := ⟨some 77, _, _, _, _, _⟩) rfl (fun K hK => ?_); go_simp
          exact hK.out _ _ ⟨true, d2, d5, _, T2, T5, rfl, rfl, fun _ => rfl, hO.s1 (lit2_at (heap_new W _) (hO.z.alloc _).y1.args (hO.z.alloc _).y2.args)⟩
        · clear hi
          have HF := Lib.hid (oa_F2 s a b (hO.h1 rfl))
          right; refine wpOp_shut (o := ⟨some 78, _, _, _, _, _⟩) rfl (fun K hK => ?_); go_simp
          go_at_call 22; refine HF.out.mono ?_; clear HF; rintro e w1 ⟨⟨C1, n1, rfl, hS1⟩, hb⟩
          go_wp2_with fail
          exact hK.out _ _ ⟨true, true, d5, T1, _, T5, rfl, rfl, fun _ => rfl, hO.s2 hb hS1⟩
        · clear hi
          right; refine wpOp_shut (o := ⟨some 82, _, _, _, _, _⟩) rfl (fun K hK => ?_); go_simp
          exact hK.out _ _ ⟨d1, d2, true, T1, T2, _, rfl, rfl, hd, hO.s5 (lit2_at (heap_new W _) (hO.z.alloc _).y1.args (hO.z.alloc _).y1.args)⟩
        · left
          simp only [Bool.and_eq_true] at hall
          obtain ⟨rfl, rfl⟩ := hall
          have h6 := hd rfl
          subst h6
          rfl
      · clear z hHeld
        rintro fuel listed act W ⟨d1, d2, d5, T1, T2, T5, rfl, rfl, hd, hO⟩ hs hc
        have hs' : d1 = true ∧ d2 = true ∧ d5 = true := by simpa using hs
        obtain ⟨rfl, rfl, rfl⟩ := hs'
        have hc' : 9 ≤ fuel := hc
        obtain ⟨f, rfl⟩ : ∃ f, fuel = f + 1 + 1 + 1 + 1 + 1 + 1 + 1 + 1 + 1 := ⟨fuel - 9, by omega⟩
        clear hs hc hc' hd
        obtain ⟨C1, n1, rfl, hS1⟩ := hO.h2 rfl
        have hS5 := hO.h5 rfl
        have z := hO.z
        have hHeld := z.held
        clear hO
        refine wpAnyH_ready (rs := [37]) (by kernel_rfl) (by simp) ?_
        refine AllReadyH.cons (o := ⟨some 83, _, _, _, _, _⟩) rfl (fun K hK => ?_) AllReadyH.nil
        go_simp
        go_at_call 22; refine (oa_F2 s a a hS5).mono ?_; rintro e w1 ⟨⟨C2, n2, rfl, hS2⟩, hb⟩; replace z := z.then hb; replace hS1 := hS1.below hb; clear hb hS5
        go_wp2_with fail
        refine hK.out _ _ z.held (fun hHeld => ?_)
        clear hK K
        (try simp only [Act.put, List.setIfInBounds_toArray, List.set_cons_zero, List.set_cons_succ])
        refine wpAnyH_ready (rs := [38]) (by kernel_rfl) (by simp) ?_
        refine AllReadyH.cons (o := ⟨some 84, _, _, _, _, _⟩) rfl (fun K hK => ?_) AllReadyH.nil
        go_simp
        go_at_call 51; refine (oa_C6 hS1 hS2).mono ?_; rintro e w1 ⟨rfl, hb⟩; replace z := z.then hb; clear hb hS1 hS2
        go_wp2_with fail
        refine hK.out _ _ z.held (fun hHeld => ?_)
        clear hK K
        (try simp only [Act.put, List.setIfInBounds_toArray, List.set_cons_zero, List.set_cons_succ])
        refine wpAnyH_ready (rs := [41]) (by kernel_rfl) (by simp) ?_
        refine AllReadyH.cons (o := ⟨some 87, _, _, _, _, _⟩) rfl (fun K hK => ?_) AllReadyH.nil
        go_simp
        go_at_call 51; refine (oa_C5 z).mono ?_; rintro e w1 ⟨rfl, hb⟩; replace z := z.then hb; clear hb
        go_wp2_with fail
        refine hK.out _ _ z.held (fun hHeld => ?_)
        clear hK K
        (try simp only [Act.put, List.setIfInBounds_toArray, List.set_cons_zero, List.set_cons_succ])
        refine wpAnyH_take (i := 42) (oi := ⟨some 88, _, _, _, _, _⟩) (v := ?_) rfl (by kernel_rfl) (by kernel_rfl) (by kernel_rfl) (fun _ _ _ h => h) (Or.inl ⟨by rfl, ?_⟩) (by assumption) ?_
        rotate_left
        · (intro w hSw; (try dsimp only at hSw); go_simp; try (with_reducible rfl))
        (try simp only [Act.put, List.setIfInBounds_toArray, List.set_cons_zero, List.set_cons_succ])
        refine wpAnyH_take (i := 43) (oi := ⟨some 89, _, _, _, _, _⟩) (v := ?_) rfl (by kernel_rfl) (by kernel_rfl) (by kernel_rfl) (fun _ _ _ h => h) (Or.inl ⟨by rfl, ?_⟩) (by assumption) ?_
        rotate_left
        · (intro w hSw; (try dsimp only at hSw); go_simp; try (with_reducible rfl))
        (try simp only [Act.put, List.setIfInBounds_toArray, List.set_cons_zero, List.set_cons_succ])
        refine wpAnyH_take (i := 44) (oi := ⟨some 90, _, _, _, _, _⟩) (v := ?_) rfl (by kernel_rfl) (by kernel_rfl) (by kernel_rfl) (fun _ _ _ h => h) (Or.inl ⟨by rfl, ?_⟩) (by assumption) ?_
        rotate_left
        · (intro w hSw; (try dsimp only at hSw); go_simp; try (with_reducible rfl))
        (try simp only [Act.put, List.setIfInBounds_toArray, List.set_cons_zero, List.set_cons_succ])
        refine wpAnyH_ready (rs := [45]) (by kernel_rfl) (by simp) ?_
        refine AllReadyH.cons (o := ⟨some 91, _, _, _, _, _⟩) rfl (fun K hK => ?_) AllReadyH.nil
        go_simp
        go_at_call 46; refine (wakes02_c _).mono ?_; rintro e w1 ⟨rfl, hb⟩; replace z := z.then hb; clear hb
        go_wp2_with fail
        refine hK.out _ _ z.held (fun hHeld => ?_)
        clear hK K
        (try simp only [Act.put, List.setIfInBounds_toArray, List.set_cons_zero, List.set_cons_succ])
        refine wpAnyH_take (i := 46) (oi := ⟨some 92, _, _, _, _, _⟩) (v := ?_) rfl (by kernel_rfl) (by kernel_rfl) (by kernel_rfl) (fun _ _ _ h => h) (Or.inl ⟨by rfl, ?_⟩) (by assumption) ?_
        rotate_left
        · (intro w hSw; (try dsimp only at hSw); go_simp; try (with_reducible rfl))
        (try simp only [Act.put, List.setIfInBounds_toArray, List.set_cons_zero, List.set_cons_succ])
        refine wpAnyH_take (i := 47) (oi := ⟨some 6, _, _, _, _, _⟩) (v := ?_) rfl (by kernel_rfl) (by kernel_rfl) (by kernel_rfl) (fun _ _ _ h => h) (Or.inl ⟨by rfl, ?_⟩) (by assumption) ?_
        rotate_left
        · (intro w hSw; (try dsimp only at hSw); go_simp; try (with_reducible rfl))
        (try simp only [Act.put, List.setIfInBounds_toArray, List.set_cons_zero, List.set_cons_succ])
        refine wpAnyH_done (by kernel_rfl) ?_ _
        go_wp2
        go_ret
        exact ⟨rfl, z.y1.below⟩
      · rintro listed act W ⟨d1, d2, d5, T1, T2, T5, rfl, rfl, hd, hO⟩ hr
        exact absurd hr (oa_rd4bn _ _ _)
      · exact ⟨z, fun h => Bool.noConfusion h, fun h => Bool.noConfusion h, fun h => Bool.noConfusion h⟩
    · rintro listed act W ⟨d1, d2, d5, X1, X2, X5, rfl, rfl, hd, hO⟩ hr
      exact absurd hr (oa_rd4an _ _ _)
    · exact ⟨z, fun h => Bool.noConfusion h, fun h => Bool.noConfusion h, fun h => Bool.noConfusion h⟩
  · rintro listed act W ⟨d2, d3, d6, d7, d8, d9, T40, T41, T44, T45, T7, T8, rfl, rfl, hd, hO⟩ hr
    exact absurd hr (oa_rd3n _ _ _ _ _ _)
  · exact ⟨hx1, hx2, hn1, hsz, fun h => Bool.noConfusion h, fun h => Bool.noConfusion h, fun h => Bool.noConfusion h, fun h => Bool.noConfusion h, fun h => Bool.noConfusion h, fun h => Bool.noConfusion h, fun h => Bool.noConfusion h⟩

end Go.Proofs.Ytdflckjnpgbjlaa
